/- AP of the proof,laid behind one another. -/
import Derived.Test.YtabalinjfgcfeaaGreatKInterestConserves4
set_option linter.all false
set_option maxRecDepth 4000
namespace Go.Proofs.YtabalinjfgcfeaaGreat
open Go.RowKit
attribute [local irreducible] aB VS
def Iz (D:Nat) (x:Rat):Prop:=∃ n:Int,x * ((D:Int):Rat)=((n:Int):Rat)
theorem Iz.zero {D:Nat}:Iz D 0:=⟨0,by rw [Rat.zero_mul];rfl⟩
theorem Iz.add {D:Nat} {x y:Rat} (h:Iz D x) (k:Iz D y):Iz D (x + y):=by
 obtain ⟨a,ha⟩:=h;obtain ⟨b,hb⟩:=k
 exact ⟨a + b,by rw [Rat.intCast_add,←ha,←hb];grind⟩
theorem Iz.sub {D:Nat} {x y:Rat} (h:Iz D x) (k:Iz D y):Iz D (x - y):=by
 obtain ⟨a,ha⟩:=h;obtain ⟨b,hb⟩:=k
 exact ⟨a - b,by rw [Rat.intCast_sub,←ha,←hb];grind⟩
theorem VO.via {C:Cx} {m:Option (List FuncId)} {full:Array Oper} {l:List Oper} {Q:Exit→Act→World→Prop} {F:Fr} {H:Hp} {w:World} {P:Fr→Hp→World→Prop} {stk0 stk1:List It} (h1:(∀ F' H' w',P F' H' w'→VS C Q stk1 F' H' w')→aB C m full l (VS C Q stk0) F H w) (h2:∀ F' H' w',P F' H' w'→VS C Q stk1 F' H' w'):aB C m full l (VS C Q stk0) F H w:=h1 h2
theorem vB {d:Rat} (h:d≠0):dJ d 0≠0:=fun e=>h (by
 have h1:=jE.1 (show dJ d 0≤0 by omega)
 have h2:=rP.1 (show dJ d 0≥0 by omega)
 grind)
theorem rnr_ok' {a y:AV} {r:Value} (h:aH a=true) (hr:aU r=true) (hu:aH y=true):[a,.val r,y].all aH=true:=by
 rw [List.all_cons,List.all_cons,List.all_cons,h,hu]
 show (true && (aU r && true))=true
 rw [hr];rfl
structure uL (B:Nat) (w:World) (n c:Nat) (vs:List (List Value)) (sp:List AV) (es:List Uq):Prop where
 len:n=es.length
 el:cL (nb B) w es vs
 so:sp.all aH=true
 sl:ax sp=[]
 le:n≤c
 cm:c≤9223372036854775807
 fl:(vs.flatten.map AV.val++sp).length=c * 6
theorem uL.kp {B n c:Nat} {w w':World} {vs:List (List Value)} {sp:List AV} {es:List Uq} (h:uL B w n c vs sp es) (k:Kp UU w w'):uL B w' n c vs sp es:=⟨h.len,h.el.kp (dk B) k,h.so,h.sl,h.le,h.cm,h.fl⟩
theorem uL.o {B n c:Nat} {w:World} {vs:List (List Value)} {sp:List AV} {es:List Uq} (h:uL B w n c vs sp es) (β:Nat→Nat):cX (nb B) 6 w n 0 c [] vs (sp.map (AV.leaf β)) es:=
 ⟨h.len,.inl rfl,rfl,h.el,cI h.so,h.le,h.cm,by have:=h.fl;rw [List.length_append,List.length_map] at this;rw [List.length_append,List.length_map];exact this⟩
theorem bg {pre:List Value} {off:Nat} {cs:List Value} {vs:List (List Value)} {spare:List Value} (iM:pre.length=off) (k:Nat) (ds:List Value) (hd:ds <+:cs.drop k):∀ (j:Nat) (u:AV),(ds.map AV.val)[j]? =some u→((pre++((cs::vs).flatten++spare)).map AV.val)[off + k + j]? =some u:=by
 intro j u hj
 obtain ⟨t,ht⟩:=hd
 rw [List.getElem?_map] at hj ⊢
 have hlt:j < ds.length:=by
  by_cases h:j < ds.length
  ·exact h
  ·rw [List.getElem?_eq_none (by omega)] at hj;cases hj
 have hk:k + j < cs.length:=by
  have:=congrArg List.length ht
  rw [List.length_append,List.length_drop] at this;omega
 rw [List.getElem?_append_right (by omega),iM,List.flatten_cons,List.append_assoc,show off + k + j - off=k + j by omega,List.getElem?_append_left hk,←List.getElem?_drop,←ht,List.getElem?_append_left hlt]
 exact hj
theorem rW {pre:List Value} {off:Nat} {a x1 x2 x3 x4 y1 y2 y3 y4:Value} {vs:List (List Value)} {spare:List Value} (iM:pre.length=off):
  ((pre++(([a,x1,x2,x3,x4]::vs).flatten++spare)).map AV.val).take (off + 1)++([.val y1,.val y2,.val y3,.val y4]++((pre++(([a,x1,x2,x3,x4]::vs).flatten++spare)).map AV.val).drop (off + 1 + 4))=(pre++(([a,y1,y2,y3,y4]::vs).flatten++spare)).map AV.val:=by
 have e:off=(pre.map AV.val).length:=by rw [List.length_map];exact iM.symm
 rw [List.map_append,e,Nat.add_assoc,List.take_length_add_append,List.drop_length_add_append,List.append_assoc,List.map_append]
 simp
theorem mD {pre:List Value} {off c':Nat} {a y1 y2 y3 y4:Value} (iM:pre.length=off):(pre++[a,y1,y2,y3,y4]).length=(if c'=1 then off else off + 5)∨c' - 1=0:=by
 by_cases h:c'=1
 ·exact .inr (by omega)
 ·rw [if_neg h,List.length_append,iM];exact .inl rfl
theorem mG {a x1 x2 x3 x4:Value} {vs:List (List Value)} {spare:List Value} {c':Nat} (h:(([a,x1,x2,x3,x4]::vs).flatten++spare).length=c' * 5):(vs.flatten++spare).length=(c' - 1) * 5:=by
 rw [List.flatten_cons,List.append_assoc,List.length_append] at h
 have h':5 + (vs.flatten++spare).length=c' * 5:=h
 omega
theorem dL (pre cs:List Value) (vs:List (List Value)) (spare:List Value):(pre++((cs::vs).flatten++spare)).map AV.val=((pre++cs)++(vs.flatten++spare)).map AV.val:=by
 rw [List.flatten_cons,List.append_assoc,List.append_assoc]
def rX (B:Nat) (D:Nat) (M:Rat) (W0:World) (rv:Value) (y:Nat) (q:List Vq) (m:Rat) (idx:Nat) (L:List (Nat×AV)) (Mm:List (Nat×(TypeId×List AV))) (w':World):Prop:=
 ∃ (q':List Vq) (aR n' c':Nat) (bK:List Value) (gD:List (List Value)) (ak:List Value) (m' s':Rat) (done:List Uq) (v8 Us:AV) (Um:List (Nat×(TypeId×List AV))) (s1 t1 s2 t2:Bool) (p1 y1 p2 y2:Option Addr) (n1 c1 m1 d1 n2 c2 m2 d2:Nat),
  idx=2 * q'.length + (if 0 < m' then 1 else 0)∧L=[(0,.box 154 0),(1,.val (.int .i64 (y:Int))),(5,.box 5 0),(6,.box 6 0),(7,.box 7 0),(8,v8)]∧
  Mm=(154,(Runner,[.row 155 aR n' c',.val rv,Us]))::(155,(cM,(bK++(gD.flatten++ak)).map .val))::(5,(26,([.bool s1,.slice p1 n1 c1,.bool t1,.slice y1 m1 d1]:List Value).map .val))::(6,(26,([.bool false,.slice none 0 0,.bool false,.slice none 0 0]:List Value).map .val))::(7,(26,([.bool s2,.slice p2 n2 c2,.bool t2,.slice y2 m2 d2]:List Value).map .val))::Um∧
  cX (cG B) 5 w' n' aR c' bK gD ak q'∧cP w' (.agg #[.bool s1,.slice p1 n1 c1,.bool t1,.slice y1 m1 d1]) m'∧aK w' W0.heap.size (.agg #[.bool s2,.slice p2 n2 c2,.bool t2,.slice y2 m2 d2]) s'∧Iz D m'∧Iz D s'∧0≤m'∧0≤s'∧s' + m'=m∧(∀ p∈q',Iz D p.2∧0≤p.2∧p.2≤M)∧
  nw y q m=done++nw y q' m'∧kP q m=kP q' m'∧qO q m=s' + qO q' m'∧((n'=0∧v8=.val (.pointer none))∨(n'≠0∧v8=.km 155 aR))∧done.length + (if 0 < m' then q'.length else 0)≤q.length∧
  ((Us=.val (.slice none 0 0)∧Um=[]∧done=[])∨∃ un uc oy qD,Us=.row 47 0 un uc∧Um=[(47,(er,oy.flatten.map .val++qD))]∧uL B w' un uc oy qD (done))
def rY (B:Nat) (D:Nat) (M:Rat) (W0:World) (rv:Value) (y:Nat) (q:List Vq) (m:Rat) (yg Ai:Nat) (lV:List (List Value)) (nc:List Value) (us0:List Uq) (idx:Nat) (L:List (Nat×AV)) (Mm:List (Nat×(TypeId×List AV))) (w':World):Prop:=
 ∃ (q':List Vq) (aR n' c':Nat) (bK:List Value) (gD:List (List Value)) (ak:List Value) (m' s':Rat) (done:List Uq) (v8 Us:AV) (Um:List (Nat×(TypeId×List AV))) (s1 t1 s2 t2:Bool) (p1 y1 p2 y2:Option Addr) (n1 c1 m1 d1 n2 c2 m2 d2:Nat),
  idx=2 * q'.length + (if 0 < m' then 1 else 0)∧L=[(0,.box 154 0),(1,.val (.int .i64 (y:Int))),(5,.box 5 0),(6,.box 6 0),(7,.box 7 0),(8,v8)]∧
  Mm=(154,(Runner,[.row 155 aR n' c',.val rv,Us]))::(155,(cM,(bK++(gD.flatten++ak)).map .val))::(5,(26,([.bool s1,.slice p1 n1 c1,.bool t1,.slice y1 m1 d1]:List Value).map .val))::(6,(26,([.bool false,.slice none 0 0,.bool false,.slice none 0 0]:List Value).map .val))::(7,(26,([.bool s2,.slice p2 n2 c2,.bool t2,.slice y2 m2 d2]:List Value).map .val))::Um∧
  cX (cG B) 5 w' n' aR c' bK gD ak q'∧cP w' (.agg #[.bool s1,.slice p1 n1 c1,.bool t1,.slice y1 m1 d1]) m'∧aK w' W0.heap.size (.agg #[.bool s2,.slice p2 n2 c2,.bool t2,.slice y2 m2 d2]) s'∧Iz D m'∧Iz D s'∧0≤m'∧0≤s'∧s' + m'=m∧(∀ p∈q',Iz D p.2∧0≤p.2∧p.2≤M)∧
  nw y q m=done++nw y q' m'∧kP q m=kP q' m'∧qO q m=s' + qO q' m'∧((n'=0∧v8=.val (.pointer none))∨(n'≠0∧v8=.km 155 aR))∧done.length + (if 0 < m' then q'.length else 0)≤q.length∧
  ((Us=.row 156 0 yg Ai∧Um=[(156,(er,lV.flatten.map .val++nc.map .val))]∧done=[]∧aF (KU UU) W0 w')∨∃ un uc oy qD,Us=.row 47 0 un uc∧Um=[(47,(er,oy.flatten.map .val++qD))]∧uL B w' un uc oy qD (us0++done))
set_option maxRecDepth 4000 in
set_option maxHeartbeats 8000000 in
theorem Km (B g b off n c y D kk:Nat) (M m:Rat) (pre:List Value) (vs:List (List Value)) (spare:List Value) (q:List Vq) (rv v:Value) (w:World)
  (hg:aW w g Runner #[.slice (some ⟨b,off,none⟩) n c,rv,.slice none 0 0]) (hb:aW w b cM (pre++(vs.flatten++spare)).toArray) (hO:cX (cG B) 5 w n off c pre vs spare q) (hr:aU rv=true) (hv:cP w v m) (hmI:Iz D m) (yf:0≤m) (hmM:m≤M) (hq:∀ p∈q,Iz D p.2∧0≤p.2∧p.2≤M)
  (hK:∀ x,Iz D x→0≤x→x≤M→dQ x kk) (hk:kk≤100000) (jt:q.length≤1000) (hB:B≤w.heap.size):
  Calls Tryz.prog 73 #[.pointer (some ⟨g,0,none⟩),.int .i64 (y:Int),v] w fun o w'=>∃ x,o=.returned x∧aK w' w.heap.size x (qO q m)∧qn [g,b] w w'∧∃ aR n' c' bK gD ak uv,aW w' g Runner #[.slice (some ⟨b,aR,none⟩) n' c',rv,uv]∧aW w' b cM (bK++(gD.flatten++ak)).toArray∧cX (cG B) 5 w' n' aR c' bK gD ak (kP q m)∧((uv=.slice none 0 0∧nw y q m=[])∨∃ b' un uc oy qD,w.heap.size≤b'∧uv=.slice (some ⟨b',0,none⟩) un uc∧aW w' b' er (oy.flatten++qD).toArray∧cX (nb B) 6 w' un 0 uc [] oy qD (nw y q m)):=by
 have hgb:g≠b:=fun e=>by subst e;exact absurd (bn hg hb) (by decide)
 obtain ⟨s0,p0,n0,c0,t0,y0,m0,d0,rfl⟩:=hv.form
 have pC:iE (KU UU) 77 [g,b] [(Runner,[.row 155 off n c,.val rv,.val (.slice none 0 0)]),(cM,(pre++(vs.flatten++spare)).map .val)] w:=by
  refine ⟨rfl,by simp [hgb],fun j g' c' hj hc=> ?_,fun c' hc=> ?_,fun c' hc k hk=> ?_⟩
  ·match j,hj,hc with
   | 0,hj,hc=>cases hj;cases hc;exact hg
   | 1,hj,hc=>cases hj;cases hc;rw [ah];exact hb
   | j + 2,hj,_=>simp at hj
  ·rcases List.mem_cons.1 hc with rfl | hc
   ·exact ⟨rfl,Af rfl hr rfl⟩
   ·cases List.mem_singleton.1 hc
    exact ⟨rfl,ba (hO.all (aM B))⟩
  ·rcases List.mem_cons.1 hc with rfl | hc
   ·have:k=155:=by simpa [ax,AV.cK] using hk
    subst this;exact ⟨by omega,by show 155 < 2 * 77 + 2;omega⟩
   ·cases List.mem_singleton.1 hc
    rw [ao] at hk;cases hk
 refine dZ Tryz.prog w _ (KU UU) (fun t=>Nat.beq t 22) table (fun _ _=>trivial) (ad:=[g,b]) (us:=[_,_]) Tryz.func73 rfl Tryz.ntmps73 (Nat.le_of_ble_eq_true rfl) pC (Nat.le_of_ble_eq_true rfl) ?_
 (repeat first|refine wN ?_|refine wP rfl ?_|refine af rfl ?_|refine ag rfl ?_|refine wO rfl rfl ?_)
 refine VO.call rfl rfl (fk Tryz.func44) (fun cB ek du=>((bE 0 cB (by omega) (by omega)).mono (fun o w2 h=>And.intro h du.1.size)).mono ?_)
 rintro o w1 ⟨⟨r9,rfl,q9,E6⟩,Ey⟩
 obtain ⟨s9,p9,n9,c9,t9,y9,m9,d9,rfl⟩:=q9.form
 refine ⟨_,rfl,E6,fun AK _ bb9=>wV rfl ?_⟩
 (repeat first|refine wN ?_|refine wP rfl ?_|refine af rfl ?_|refine ag rfl ?_|refine wO rfl rfl ?_)
 have Kd:((0:Int):Rat)=0:=rfl
 rw [Kd] at q9
 apply VO.via (P:=fun F' H' w'=>Entry (rX B D M w rv y q m ) (2 * q.length + (if 0 < m then 1 else 0)) F' H' w')
 ·intro cont
  by_cases lC:n=0
  ·refine VO.cY (x:=.row 155 off n c) (p:=fun _=>none) (c:=c) rfl (fun β=>.inr ⟨_,congrArg (fun n=>Value.slice (some ⟨β 155,off,none⟩) n c) lC⟩) rfl (fk Tryz.func75) rfl (fun w3 k3 b3=>wV rfl ?_)
   (repeat first|refine wN ?_|refine wP rfl ?_|refine af rfl ?_|refine ag rfl ?_|refine wO rfl rfl ?_)
   refine cont _ _ _ ⟨_,_,?_,?_,?_,?_,⟨q,off,n,c,pre,vs,spare,m,0,[],.val (.pointer none),_,_,_,_,_,_,_,_,_,_,_,_,_,_,_,_,_,_,rfl,rfl,rfl,hO.kp (aM B) (by (with_reducible (repeat (first | assumption | exact kU _ | exact kR _ | exact Kp.of (U:=UU) (by assumption) | exact aF.of (by assumption) | refine kT ?_ (by assumption))))),hv.k,(q9.mono Ey).kp (by (with_reducible (repeat (first | assumption | exact kU _ | exact kR _ | exact Kp.of (U:=UU) (by assumption) | exact aF.of (by assumption) | refine kT ?_ (by assumption))))),hmI,Iz.zero,yf,Rat.le_refl,by grind,hq,rfl,rfl,by grind,.inl ⟨lC,rfl⟩,by split <;> simp,.inl ⟨rfl,rfl,rfl⟩⟩⟩
   ·(repeat first|exact trivial|refine ⟨rfl,?_⟩)
   ·(repeat first|exact trivial|refine ⟨rfl,?_⟩)
   ·rfl
   ·exact ⟨.lit rfl,.vals _,.vals _,.vals _,.vals _,trivial⟩
  ·refine VO.cH rfl rfl (fk Tryz.func75) rfl lC (by intro h;cases h) (fun w3 k3 b3=>wV rfl ?_)
   (repeat first|refine wN ?_|refine wP rfl ?_|refine af rfl ?_|refine ag rfl ?_|refine wO rfl rfl ?_)
   refine cont _ _ _ ⟨_,_,?_,?_,?_,?_,⟨q,off,n,c,pre,vs,spare,m,0,[],.km 155 off,_,_,_,_,_,_,_,_,_,_,_,_,_,_,_,_,_,_,rfl,rfl,rfl,hO.kp (aM B) (by (with_reducible (repeat (first | assumption | exact kU _ | exact kR _ | exact Kp.of (U:=UU) (by assumption) | exact aF.of (by assumption) | refine kT ?_ (by assumption))))),hv.k,(q9.mono Ey).kp (by (with_reducible (repeat (first | assumption | exact kU _ | exact kR _ | exact Kp.of (U:=UU) (by assumption) | exact aF.of (by assumption) | refine kT ?_ (by assumption))))),hmI,Iz.zero,yf,Rat.le_refl,by grind,hq,rfl,rfl,by grind,.inr ⟨lC,rfl⟩,by split <;> simp,.inl ⟨rfl,rfl,rfl⟩⟩⟩
   ·(repeat first|exact trivial|refine ⟨rfl,?_⟩)
   ·(repeat first|exact trivial|refine ⟨rfl,?_⟩)
   ·rfl
   ·exact ⟨.lit rfl,.vals _,.vals _,.vals _,.vals _,trivial⟩
 ·intro F0 H0 w0' hent
  refine VS.loop (J:=rX B D M w rv y q m ) _ hent ?_
  rintro idx L Mm w' ⟨q',aR,n',c',bK,gD,ak,m',s',done,v8,Us,Um,s1,t1,s2,t2,p1,y1,p2,y2,n1,c1,m1,d1,n2,c2,m2,d2,rfl,rfl,rfl,gH,Dg,ux,lp,Hj,tv,hs0,hsm,zB,eU,eL,eS,Hk,iU,hUs⟩
  have oA:m'≤M:=by grind
  have hsM:s'≤M:=by grind
  rcases hUs with ⟨rfl,rfl,rfl⟩ | ⟨un,uc,oy,qD,rfl,rfl,tw⟩
  ·rcases Hk with ⟨lC,rfl⟩ | ⟨lC,rfl⟩
   ·have C5:q'=[]:=List.eq_nil_of_length_eq_zero (by rw [←gH.len];exact lC)
    subst C5
    have fU:nw y [] m'=[]:=rfl
    have fL:kP [] m'=[]:=rfl
    have fS:qO [] m'=0:=rfl
    (repeat first|refine wN ?_|refine wP rfl ?_|refine af rfl ?_|refine ag rfl ?_|refine wO rfl rfl ?_)
    refine VS.om (bj _ _) rfl (fun wz β kz oz en=> ?_)
    obtain ⟨o1,o2⟩:=ea (en.own 154 _ _ rfl) 0 g rfl rfl
    obtain ⟨o3,o4⟩:=ea (en.own 155 _ _ rfl) 1 b rfl rfl
    rw [ah] at o4
    replace o3:β 155=b:=o3
    rw [fU] at eU
    rw [fL] at eL
    rw [fS,show s' + 0=s' by grind] at eS
    refine ⟨_,rfl,?_,oz.1,aR,n',c',bK,gD,ak,.slice none 0 0,?_,o4,?_,.inl ⟨rfl,?_⟩⟩
    ·rw [eS];exact ux.k
    ·rw [←o3];exact o2
    ·rw [eL];exact gH.kp (aM B) (by (with_reducible (repeat (first | assumption | exact kU _ | exact kR _ | exact Kp.of (U:=UU) (by assumption) | exact aF.of (by assumption) | refine kT ?_ (by assumption)))))
    ·rw [eU];rfl
   ·obtain ⟨e,ft,rfl⟩:∃ e ft,q'=e::ft:=by
     cases q' with
     | nil=>exact absurd gH.len lC
     | cons e ft=>exact ⟨e,ft,rfl⟩
    obtain ⟨cs,fM,rfl,hE,qE⟩:∃ cs fM,gD=cs::fM∧cG B w' cs e∧cL (cG B) w' ft fM:=by
     have:=gH.el
     cases this with
     | cons h1 h2=>exact ⟨_,_,rfl,h1,h2⟩
    obtain ⟨s3,p3,n3,c3,t3,y3,m3,d3,rfl,Kn⟩:=hE
    have uJ:=gH.le
    have qy:=gH.len
    have uF:=gH.cm
    have iM:bK.length=aR:=gH.pl.resolve_right (by omega)
    obtain ⟨mY,zK,Fj⟩:=zB e (by simp)
    (repeat first|refine wN ?_|refine wP rfl ?_|refine af rfl ?_|refine ag rfl ?_|refine wO rfl rfl ?_)
    obtain ⟨sg,jm⟩:∃ sg,dJ m' 0=sg:=⟨_,rfl⟩
    refine VO.call rfl rfl (fk Tryz.func13) (fun cB ek du=>(bR _ m' kk cB (Dg.ki (hK m' lp tv oA)) (by omega) sg jm).mono ?_)
    rintro e w1 ⟨rfl,aV⟩
    skip
    refine ⟨_,rfl,aV,fun e9 _ bb1=>wV rfl ?_⟩
    (repeat first|refine wN ?_|refine wP rfl ?_|refine af rfl ?_|refine ag rfl ?_|refine wO rfl rfl ?_)
    by_cases hm:0 < m'
    ·have jj:sg > 0:=by rw [←jm];exact fb.2 hm
     rw [if_pos hm] at iU
     refine VS.bD rfl (decide_eq_true jj) ?_
     (repeat first|refine wN ?_|refine wP rfl ?_|refine af rfl ?_|refine ag rfl ?_|refine wO rfl rfl ?_)
     refine VO.df rfl (([.bool s3,.slice p3 n3 c3,.bool t3,.slice y3 m3 d3]:List Value).map .val) rfl (bg iM 1 _ ⟨[],rfl⟩) (wV rfl ?_)
     (repeat first|refine wN ?_|refine wP rfl ?_|refine af rfl ?_|refine ag rfl ?_|refine wO rfl rfl ?_)
     have pQ:=cQ e.2 m'
     have Ez:0≤ai e.2 m':=by rcases pQ with ⟨h,_⟩ | ⟨h,_⟩ <;> rw [h] <;> assumption
     have o8:Iz D (ai e.2 m'):=by rcases pQ with ⟨h,_⟩ | ⟨h,_⟩ <;> rw [h] <;> assumption
     have yP:=dh e.2 m'
     have vp:=bZ e.2 m'
     have lD:=hK _ o8 Ez (Rat.le_trans vp oA)
     refine VO.fG rfl (fk Tryz.func71) (fun dB β gp et ho=>((fH _ _ e.2 [m'] kk dB (Kn.rd.ki (hK e.2 mY zK Fj)) (dV (ho.own 31 (.base (List.mem_singleton.2 rfl)) _ _ rfl) [] (vs:=[[.bool s1,.slice p1 n1 c1,.bool t1,.slice y1 m1 d1]]) (by rfl) rfl (bX.cons (Dg.ki (hK m' lp tv oA)) bX.nil) (Nat.le_of_ble_eq_true rfl) (by decide)) (by omega) (Nat.le_of_ble_eq_true rfl)).mono (fun o w2 h=>And.intro h et.1.size)).mono ?_)
     rintro o w2 ⟨⟨r4,rfl,q4,z4,bl⟩,qF⟩
     rw [gQ] at q4
     have xq:aK w2 w.heap.size r4 (ai e.2 m'):=q4.mono qF
     obtain ⟨s4,p4,n4,c4,t4,y4,m4,d4,rfl⟩:=xq.form
     refine ⟨_,rfl,bl,fun fX _ bb2=>wV rfl ?_⟩
     (repeat first|refine wN ?_|refine wP rfl ?_|refine af rfl ?_|refine ag rfl ?_|refine wO rfl rfl ?_)
     refine VO.df rfl (([.int .i64 (e.1:Int)]:List Value).map .val) rfl (bg iM 0 _ ⟨_,rfl⟩) (wV rfl ?_)
     (repeat first|refine wN ?_|refine wP rfl ?_|refine af rfl ?_|refine ag rfl ?_|refine wO rfl rfl ?_)
     refine VO.app (bj _ _) (t:=34) (e:=er) (sz:=6) (n:=0) (c:=0) (mm:=1) (known:=[]) (spare:=[]) (del:=none) (news:=([.int .i64 (e.1:Int),.int .i64 (y:Int),.bool s4,.slice p4 n4 c4,.bool t4,.slice y4 m4 d4]:List Value).map .val) (dst:=47) rfl rfl rfl rfl rfl rfl rfl rfl (Nat.le_of_ble_eq_true rfl) rfl (.inl ⟨rfl,rfl,rfl,rfl,rfl,rfl,by omega⟩) (.inl rfl) rfl rfl (Nat.le_refl _) (by omega) ⟨rfl,rfl,rfl⟩ ⟨rfl,rfl,rfl⟩ rfl (by omega)
      (fun w1 β k1 b1 ho=>⟨_,_,rfl,.inr ⟨β 46,0,rfl,cJ (rest:=[]) (ho.own 46 (.base (List.mem_append_right _ (List.mem_singleton.2 rfl))) _ _ rfl) rfl⟩⟩)
      (fun nv cap' eF ρ FH FI fy jb gj eb mC dx=>wV rfl ?_)
     (repeat first|refine wN ?_|refine wP rfl ?_|refine af rfl ?_|refine ag rfl ?_|refine wO rfl rfl ?_)
     have xK:uL B nv (0 + 1) cap' ([[.int .i64 (e.1:Int),.int .i64 (y:Int),.bool s4,.slice p4 n4 c4,.bool t4,.slice y4 m4 d4]]:List (List Value)) eF (([]++[(e.1,y,ai e.2 m')])):=⟨by simp <;> omega,by exact cL.cons (show nb B nv [.int .i64 (e.1:Int),.int .i64 (y:Int),.bool s4,.slice p4 n4 c4,.bool t4,.slice y4 m4 d4] (e.1,y,ai e.2 m') from ⟨s4,p4,n4,c4,t4,y4,m4,d4,rfl,(xq.mono hB).kp (by (with_reducible (repeat (first | assumption | exact kU _ | exact kR _ | exact Kp.of (U:=UU) (by assumption) | exact aF.of (by assumption) | refine kT ?_ (by assumption)))))⟩) cL.nil,mC,dx,jb,gj,by simpa using eb⟩
     refine VO.call rfl rfl (fk Tryz.func16) (fun j9 mw kj=>((dw _ _ s' (ai e.2 m') kk kk j9 (ux.rd.ki (hK s' Hj hs0 hsM)) (xq.rd.ki lD) (by omega) (by omega)).mono (fun o w2 h=>And.intro h kj.1.size)).mono ?_)
     rintro o w5 ⟨⟨r5,rfl,q5,gg⟩,qG⟩
     obtain ⟨s5,p5,n5,c5,t5,y5,m5,d5,rfl⟩:=q5.form
     refine ⟨_,rfl,gg,fun na _ wX=>wV rfl ?_⟩
     (repeat first|refine wN ?_|refine wP rfl ?_|refine af rfl ?_|refine ag rfl ?_|refine wO rfl rfl ?_)
     refine VO.call rfl rfl (fk Tryz.func72) (fun pz uh tn=>(bV _ _ m' (ai e.2 m') kk kk pz (Dg.ki (hK m' lp tv oA)) (xq.rd.ki lD) (by omega) (by omega)).mono ?_)
     rintro e w6 ⟨r6,rfl,q6,mO⟩
     obtain ⟨s6,p6,n6,c6,t6,y6,m6,d6,rfl⟩:=q6.form
     refine ⟨_,rfl,mO,fun tp _ Cp=>wV rfl ?_⟩
     (repeat first|refine wN ?_|refine wP rfl ?_|refine af rfl ?_|refine ag rfl ?_|refine wO rfl rfl ?_)
     refine VO.df rfl (([.bool s3,.slice p3 n3 c3,.bool t3,.slice y3 m3 d3]:List Value).map .val) rfl (bg iM 1 _ ⟨[],rfl⟩) (wV rfl ?_)
     (repeat first|refine wN ?_|refine wP rfl ?_|refine af rfl ?_|refine ag rfl ?_|refine wO rfl rfl ?_)
     refine VO.call rfl rfl (fk Tryz.func72) (fun yd Df xP=>((bV _ _ e.2 (ai e.2 m') kk kk yd (Kn.rd.ki (hK e.2 mY zK Fj)) (xq.rd.ki lD) (by omega) (by omega)).mono (fun o w2 h=>And.intro h xP.1.size)).mono ?_)
     rintro o w7 ⟨⟨r7,rfl,q7,uI⟩,EA⟩
     obtain ⟨s7,p7,n7,c7,t7,y7,m7,d7,rfl⟩:=q7.form
     refine ⟨_,rfl,uI,fun yZ _ bb7=>wV rfl ?_⟩
     (repeat first|refine wN ?_|refine wP rfl ?_|refine af rfl ?_|refine ag rfl ?_|refine wO rfl rfl ?_)
     refine VO.cond rfl (by show aR + 1 + 4≤_;rw [List.length_map,List.length_append,List.length_append,List.flatten_cons,List.length_append,iM];show aR + 1 + 4≤aR + (6 - 1 + _ + _);omega) (VO.fo 155 rfl (rW iM) (wV rfl ?_))
     (repeat first|refine wN ?_|refine wP rfl ?_|refine af rfl ?_|refine ag rfl ?_|refine wO rfl rfl ?_)
     refine VO.df rfl (([.bool s7,.slice p7 n7 c7,.bool t7,.slice y7 m7 d7]:List Value).map .val) rfl (bg iM 1 _ ⟨[],rfl⟩) (wV rfl ?_)
     (repeat first|refine wN ?_|refine wP rfl ?_|refine af rfl ?_|refine ag rfl ?_|refine wO rfl rfl ?_)
     have xN:0≤e.2 - ai e.2 m':=by grind
     have Ko:e.2 - ai e.2 m'≤M:=by grind
     have Kq:Iz D (e.2 - ai e.2 m'):=mY.sub o8
     obtain ⟨jB,jC⟩:∃ jB,dJ (e.2 - ai e.2 m') 0=jB:=⟨_,rfl⟩
     refine VO.call rfl rfl (fk Tryz.func13) (fun uK Ei za=>(bR _ (e.2 - ai e.2 m') kk uK (q7.ki (hK _ Kq xN Ko)) (by omega) jB jC).mono ?_)
     rintro e w8 ⟨rfl,qM⟩
     skip
     refine ⟨_,rfl,qM,fun vz _ Ii=>wV rfl ?_⟩
     (repeat first|refine wN ?_|refine wP rfl ?_|refine af rfl ?_|refine ag rfl ?_|refine wO rfl rfl ?_)
     have hE7:cG B w8 [.int .i64 (e.1:Int),.bool s7,.slice p7 n7 c7,.bool t7,.slice y7 m7 d7] (e.1,e.2 - ai e.2 m'):=⟨s7,p7,n7,c7,t7,y7,m7,d7,rfl,(q7.mono (Nat.le_trans hB EA)).kp (by (with_reducible (repeat (first | assumption | exact kU _ | exact kR _ | exact Kp.of (U:=UU) (by assumption) | exact aF.of (by assumption) | refine kT ?_ (by assumption)))))⟩
     have yK:=gH.so
     have Hi:=gH.po
     have sG:=gH.fl
     have B9:0≤m' - ai e.2 m':=by grind
     have D4:0≤s' + ai e.2 m':=by grind
     have xr:s' + ai e.2 m' + (m' - ai e.2 m')=m:=by grind
     have xt:=(q6.kr (w':=w8) (by (with_reducible (repeat (first | assumption | exact kU _ | exact kR _ | exact Kp.of (U:=UU) (by assumption) | exact aF.of (by assumption) | refine kT ?_ (by assumption))))))
     have xu:aK w8 w.heap.size _ (s' + ai e.2 m'):=(q5.mono qG).kp (by (with_reducible (repeat (first | assumption | exact kU _ | exact kR _ | exact Kp.of (U:=UU) (by assumption) | exact aF.of (by assumption) | refine kT ?_ (by assumption)))))
     have Kr:cL (cG B) w8 ft fM:=qE.kp (aM B) (by (with_reducible (repeat (first | assumption | exact kU _ | exact kR _ | exact Kp.of (U:=UU) (by assumption) | exact aF.of (by assumption) | refine kT ?_ (by assumption)))))
     by_cases hz:e.2 - ai e.2 m'=0
     ·have qH:(jB == 0)=true:=by rw [←jC,hz];rfl
      refine VS.bD rfl qH ?_
      (repeat first|refine wN ?_|refine wP rfl ?_|refine af rfl ?_|refine ag rfl ?_|refine wO rfl rfl ?_)
      obtain ⟨e1,e2,e3⟩:=fK (y:=y) (p:=e) (q:=ft) hm hz
      rw [e1,←List.singleton_append,←List.append_assoc] at eU
      rw [e2] at eL
      rw [e3] at eS
      refine VO.iz rfl rfl (fk Tryz.func76) rfl (by omega) uJ uF (fun j hj=> ?_) (Nat.le_of_ble_eq_true rfl) (fun w9 k9 b9=>wV rfl ?_)
      ·rcases List.mem_cons.1 hj with rfl | hj
       ·intro h;cases h
       ·cases List.mem_singleton.1 hj
        intro h;cases h
      (repeat first|refine wN ?_|refine wP rfl ?_|refine af rfl ?_|refine ag rfl ?_|refine wO rfl rfl ?_)
      have hO9:cX (cG B) 5 w9 (n' - 1) (if c'=1 then aR else aR + 5) (c' - 1) (bK++[.int .i64 (e.1:Int),.bool s7,.slice p7 n7 c7,.bool t7,.slice y7 m7 d7]) fM ak ft:=⟨by rw [qy];rfl,mD iM,by rw [List.all_append,Hi];rfl,Kr.kp (aM B) (by (with_reducible (repeat (first | assumption | exact kU _ | exact kR _ | exact Kp.of (U:=UU) (by assumption) | exact aF.of (by assumption) | refine kT ?_ (by assumption))))),yK,by omega,by omega,mG sG⟩
      have jg:∀ (v8:AV) (wb:World),aF (KU UU) w9 wb→((n' - 1=0∧v8=.val (.pointer none))∨(n' - 1≠0∧v8=.km 155 (if c'=1 then aR else aR + 5)))→rX B D M w rv y q m (2 * ft.length + (if 0 < m' - ai e.2 m' then 1 else 0)) [(0,.box 154 0),(1,.val (.int .i64 (y:Int))),(5,.box 5 0),(6,.box 6 0),(7,.box 7 0),(8,v8)]
        ((154,(Runner,[.row 155 (if c'=1 then aR else aR + 5) (n' - 1) (c' - 1),.val rv,.row 47 0 (0 + 1) cap']))::(155,(cM,((bK++([.int .i64 (e.1:Int),.bool s7,.slice p7 n7 c7,.bool t7,.slice y7 m7 d7]:List Value))++(fM.flatten++ak)).map AV.val))::(5,(26,([.bool s6,.slice p6 n6 c6,.bool t6,.slice y6 m6 d6]:List Value).map .val))::(6,(26,([.bool false,.slice none 0 0,.bool false,.slice none 0 0]:List Value).map .val))::(7,(26,([.bool s5,.slice p5 n5 c5,.bool t5,.slice y5 m5 d5]:List Value).map .val))::[(47,(er,([[.int .i64 (e.1:Int),.int .i64 (y:Int),.bool s4,.slice p4 n4 c4,.bool t4,.slice y4 m4 d4]]:List (List Value)).flatten.map AV.val++eF))]) wb:=fun v8 wb kb Hk=>
       ⟨ft,_,_,_,_,fM,ak,m' - ai e.2 m',s' + ai e.2 m',[]++[(e.1,y,ai e.2 m')],v8,_,_,_,_,_,_,_,_,_,_,_,_,_,_,_,_,_,_,rfl,rfl,rfl,hO9.kp (aM B) (by (with_reducible (repeat (first | assumption | exact kU _ | exact kR _ | exact Kp.of (U:=UU) (by assumption) | exact aF.of (by assumption) | refine kT ?_ (by assumption))))),xt.k,xu.k,lp.sub o8,Hj.add o8,B9,D4,xr,fun p hp=>zB p (by simp [hp]),eU,eL,by rw [eS];grind,Hk,by simp at iU ⊢;split <;> omega,.inr ⟨_,_,_,_,rfl,rfl,xK.kp (by (with_reducible (repeat (first | assumption | exact kU _ | exact kR _ | exact Kp.of (U:=UU) (by assumption) | exact aF.of (by assumption) | refine kT ?_ (by assumption)))))⟩⟩
      have hlt:2 * ft.length + (if 0 < m' - ai e.2 m' then 1 else 0) < 2 * (e::ft).length + (if 0 < m' then 1 else 0):=by
       rw [if_pos hm,List.length_cons];split <;> omega
      by_cases sH:n' - 1=0
      ·refine VO.cY (x:=.row 155 (if c'=1 then aR else aR + 5) (n' - 1) (c' - 1)) (p:=fun _=>none) (c:=c' - 1) rfl (fun β=>.inr ⟨_,congrArg (fun n=>Value.slice (some ⟨β 155,(if c'=1 then aR else aR + 5),none⟩) n (c' - 1)) sH⟩) rfl (fk Tryz.func75) rfl (fun wb Hl Ks=>wV rfl ?_)
       (repeat first|refine wN ?_|refine wP rfl ?_|refine af rfl ?_|refine ag rfl ?_|refine wO rfl rfl ?_)
       refine VS.back _ hlt ⟨_,_,?_,?_,?_,?_,jg _ wb (by (with_reducible (repeat (first | assumption | exact kU _ | exact kR _ | exact Kp.of (U:=UU) (by assumption) | exact aF.of (by assumption) | refine kT ?_ (by assumption))))) (.inl ⟨sH,rfl⟩)⟩
       ·(repeat first|exact trivial|refine ⟨rfl,?_⟩)
       ·exact ⟨rfl,congrArg (fun l=>some (cM,l)) (dL _ _ _ _),rfl,rfl,rfl,rfl,trivial⟩
       ·rfl
       ·exact ⟨.lit rfl,.vals _,.vals _,.vals _,.vals _,.append (.vals _) (.none dx),trivial⟩
      ·refine VO.cH rfl rfl (fk Tryz.func75) rfl sH (by intro h;cases h) (fun wb Hl Ks=>wV rfl ?_)
       (repeat first|refine wN ?_|refine wP rfl ?_|refine af rfl ?_|refine ag rfl ?_|refine wO rfl rfl ?_)
       refine VS.back _ hlt ⟨_,_,?_,?_,?_,?_,jg _ wb (by (with_reducible (repeat (first | assumption | exact kU _ | exact kR _ | exact Kp.of (U:=UU) (by assumption) | exact aF.of (by assumption) | refine kT ?_ (by assumption))))) (.inr ⟨sH,rfl⟩)⟩
       ·(repeat first|exact trivial|refine ⟨rfl,?_⟩)
       ·exact ⟨rfl,congrArg (fun l=>some (cM,l)) (dL _ _ _ _),rfl,rfl,rfl,rfl,trivial⟩
       ·rfl
       ·exact ⟨.lit rfl,.vals _,.vals _,.vals _,.vals _,.append (.vals _) (.none dx),trivial⟩
     ·have qH:(jB == 0)=false:=by rw [←jC,beq_eq_false_iff_ne];exact vB hz
      refine VS.bt rfl qH ?_
      (repeat first|refine wN ?_|refine wP rfl ?_|refine af rfl ?_|refine ag rfl ?_|refine wO rfl rfl ?_)
      obtain ⟨e0,e1,e2,e3⟩:=fJ (y:=y) (p:=e) (q:=ft) hm hz
      refine VO.cH rfl rfl (fk Tryz.func75) rfl lC (by intro h;cases h) (fun wb Hl Ks=>wV rfl ?_)
      (repeat first|refine wN ?_|refine wP rfl ?_|refine af rfl ?_|refine ag rfl ?_|refine wO rfl rfl ?_)
      refine VS.back (2 * (e::ft).length + 0) (by rw [if_pos hm];omega) ⟨_,_,?_,?_,?_,?_,⟨(e.1,e.2 - ai e.2 m')::ft,aR,n',c',bK,[.int .i64 (e.1:Int),.bool s7,.slice p7 n7 c7,.bool t7,.slice y7 m7 d7]::fM,ak,m' - ai e.2 m',s' + ai e.2 m',[]++[(e.1,y,ai e.2 m')],.km 155 aR,_,_,_,_,_,_,_,_,_,_,_,_,_,_,_,_,_,_,by rw [if_neg e0];rfl,rfl,rfl,⟨qy,.inl iM,Hi,.cons ((aM B).kp hE7 (by (with_reducible (repeat (first | assumption | exact kU _ | exact kR _ | exact Kp.of (U:=UU) (by assumption) | exact aF.of (by assumption) | refine kT ?_ (by assumption)))))) (Kr.kp (aM B) (by (with_reducible (repeat (first | assumption | exact kU _ | exact kR _ | exact Kp.of (U:=UU) (by assumption) | exact aF.of (by assumption) | refine kT ?_ (by assumption)))))),yK,uJ,uF,by simpa using sG⟩,xt.k,xu.k,lp.sub o8,Hj.add o8,B9,D4,xr,fun p hp=> ?_,?_,?_,?_,.inr ⟨lC,rfl⟩,?_,.inr ⟨_,_,_,_,rfl,rfl,xK.kp (by (with_reducible (repeat (first | assumption | exact kU _ | exact kR _ | exact Kp.of (U:=UU) (by assumption) | exact aF.of (by assumption) | refine kT ?_ (by assumption)))))⟩⟩⟩
      ·(repeat first|exact trivial|refine ⟨rfl,?_⟩)
      ·exact ⟨rfl,rfl,rfl,rfl,rfl,rfl,trivial⟩
      ·rfl
      ·exact ⟨.lit rfl,.vals _,.vals _,.vals _,.vals _,.append (.vals _) (.none dx),trivial⟩
      ·rcases List.mem_cons.1 hp with rfl | hp
       ·exact ⟨Kq,xN,Ko⟩
       ·exact zB p (by simp [hp])
      ·rw [eU,e1,gu y _ e0,List.append_nil]
      ·rw [eL,e2,fI _ e0]
      ·rw [eS,e3,gv _ e0];grind
      ·rw [if_neg e0];simp at iU ⊢;omega
    ·have jj:¬ sg > 0:=by rw [←jm];exact fun h=>hm (fb.1 h)
     refine VS.bt rfl (decide_eq_false jj) ?_
     have fU:=gu y (e::ft) hm
     have fL:=fI (e::ft) hm
     have fS:=gv (e::ft) hm
     (repeat first|refine wN ?_|refine wP rfl ?_|refine af rfl ?_|refine ag rfl ?_|refine wO rfl rfl ?_)
     refine VS.om (bj _ _) rfl (fun wz β kz oz en=> ?_)
     obtain ⟨o1,o2⟩:=ea (en.own 154 _ _ rfl) 0 g rfl rfl
     obtain ⟨o3,o4⟩:=ea (en.own 155 _ _ rfl) 1 b rfl rfl
     rw [ah] at o4
     replace o3:β 155=b:=o3
     rw [fU] at eU
     rw [fL] at eL
     rw [fS,show s' + 0=s' by grind] at eS
     refine ⟨_,rfl,?_,oz.1,aR,n',c',bK,_,ak,.slice none 0 0,?_,o4,?_,.inl ⟨rfl,?_⟩⟩
     ·rw [eS];exact ux.k
     ·rw [←o3];exact o2
     ·rw [eL];exact gH.kp (aM B) (by (with_reducible (repeat (first | assumption | exact kU _ | exact kR _ | exact Kp.of (U:=UU) (by assumption) | exact aF.of (by assumption) | refine kT ?_ (by assumption)))))
     ·rw [eU];rfl
  ·rcases Hk with ⟨lC,rfl⟩ | ⟨lC,rfl⟩
   ·have C5:q'=[]:=List.eq_nil_of_length_eq_zero (by rw [←gH.len];exact lC)
    subst C5
    have fU:nw y [] m'=[]:=rfl
    have fL:kP [] m'=[]:=rfl
    have fS:qO [] m'=0:=rfl
    (repeat first|refine wN ?_|refine wP rfl ?_|refine af rfl ?_|refine ag rfl ?_|refine wO rfl rfl ?_)
    refine VS.om (bj _ _) rfl (fun wz β kz oz en=> ?_)
    obtain ⟨o1,o2⟩:=ea (en.own 154 _ _ rfl) 0 g rfl rfl
    obtain ⟨o3,o4⟩:=ea (en.own 155 _ _ rfl) 1 b rfl rfl
    rw [ah] at o4
    replace o3:β 155=b:=o3
    rw [fU] at eU
    rw [fL] at eL
    rw [fS,show s' + 0=s' by grind] at eS
    have o5:=(en.own 47 _ _ rfl).new
    have o6:=(en.own 47 _ _ rfl).cls
    rw [List.map_append,ah] at o6
    have n1':β 47≠g:=fun e=>absurd (en.apart 154 47 (by intro h;cases h) (by intro h;cases h) (o1.trans e.symm)) (by decide)
    have n2':β 47≠b:=fun e=>absurd (en.apart 155 47 (by intro h;cases h) (by intro h;cases h) (o3.trans e.symm)) (by decide)
    have o7:w.heap.size≤β 47:=by
     have:=eN (show cA 77 [g,b] w 47 (β 47) from o5)
     simpa [n1',n2'] using this
    refine ⟨_,rfl,?_,oz.1,aR,n',c',bK,gD,ak,.slice (some ⟨β 47,0,none⟩) un uc,?_,o4,?_,.inr ⟨β 47,un,uc,oy,qD.map (AV.leaf β),o7,rfl,o6,?_⟩⟩
    ·rw [eS];exact ux.k
    ·rw [←o3];exact o2
    ·rw [eL];exact gH.kp (aM B) (by (with_reducible (repeat (first | assumption | exact kU _ | exact kR _ | exact Kp.of (U:=UU) (by assumption) | exact aF.of (by assumption) | refine kT ?_ (by assumption)))))
    ·rw [eU,List.append_nil];exact (tw.kp (by (with_reducible (repeat (first | assumption | exact kU _ | exact kR _ | exact Kp.of (U:=UU) (by assumption) | exact aF.of (by assumption) | refine kT ?_ (by assumption)))))).o β
   ·obtain ⟨e,ft,rfl⟩:∃ e ft,q'=e::ft:=by
     cases q' with
     | nil=>exact absurd gH.len lC
     | cons e ft=>exact ⟨e,ft,rfl⟩
    obtain ⟨cs,fM,rfl,hE,qE⟩:∃ cs fM,gD=cs::fM∧cG B w' cs e∧cL (cG B) w' ft fM:=by
     have:=gH.el
     cases this with
     | cons h1 h2=>exact ⟨_,_,rfl,h1,h2⟩
    obtain ⟨s3,p3,n3,c3,t3,y3,m3,d3,rfl,Kn⟩:=hE
    have uJ:=gH.le
    have qy:=gH.len
    have uF:=gH.cm
    have iM:bK.length=aR:=gH.pl.resolve_right (by omega)
    obtain ⟨mY,zK,Fj⟩:=zB e (by simp)
    (repeat first|refine wN ?_|refine wP rfl ?_|refine af rfl ?_|refine ag rfl ?_|refine wO rfl rfl ?_)
    obtain ⟨sg,jm⟩:∃ sg,dJ m' 0=sg:=⟨_,rfl⟩
    refine VO.call rfl rfl (fk Tryz.func13) (fun cB ek du=>(bR _ m' kk cB (Dg.ki (hK m' lp tv oA)) (by omega) sg jm).mono ?_)
    rintro e w1 ⟨rfl,aV⟩
    skip
    refine ⟨_,rfl,aV,fun e9 _ bb1=>wV rfl ?_⟩
    (repeat first|refine wN ?_|refine wP rfl ?_|refine af rfl ?_|refine ag rfl ?_|refine wO rfl rfl ?_)
    by_cases hm:0 < m'
    ·have jj:sg > 0:=by rw [←jm];exact fb.2 hm
     rw [if_pos hm] at iU
     refine VS.bD rfl (decide_eq_true jj) ?_
     (repeat first|refine wN ?_|refine wP rfl ?_|refine af rfl ?_|refine ag rfl ?_|refine wO rfl rfl ?_)
     refine VO.df rfl (([.bool s3,.slice p3 n3 c3,.bool t3,.slice y3 m3 d3]:List Value).map .val) rfl (bg iM 1 _ ⟨[],rfl⟩) (wV rfl ?_)
     (repeat first|refine wN ?_|refine wP rfl ?_|refine af rfl ?_|refine ag rfl ?_|refine wO rfl rfl ?_)
     have pQ:=cQ e.2 m'
     have Ez:0≤ai e.2 m':=by rcases pQ with ⟨h,_⟩ | ⟨h,_⟩ <;> rw [h] <;> assumption
     have o8:Iz D (ai e.2 m'):=by rcases pQ with ⟨h,_⟩ | ⟨h,_⟩ <;> rw [h] <;> assumption
     have yP:=dh e.2 m'
     have vp:=bZ e.2 m'
     have lD:=hK _ o8 Ez (Rat.le_trans vp oA)
     refine VO.fG rfl (fk Tryz.func71) (fun dB β gp et ho=>((fH _ _ e.2 [m'] kk dB (Kn.rd.ki (hK e.2 mY zK Fj)) (dV (ho.own 31 (.base (List.mem_singleton.2 rfl)) _ _ rfl) [] (vs:=[[.bool s1,.slice p1 n1 c1,.bool t1,.slice y1 m1 d1]]) (by rfl) rfl (bX.cons (Dg.ki (hK m' lp tv oA)) bX.nil) (Nat.le_of_ble_eq_true rfl) (by decide)) (by omega) (Nat.le_of_ble_eq_true rfl)).mono (fun o w2 h=>And.intro h et.1.size)).mono ?_)
     rintro o w2 ⟨⟨r4,rfl,q4,z4,bl⟩,qF⟩
     rw [gQ] at q4
     have xq:aK w2 w.heap.size r4 (ai e.2 m'):=q4.mono qF
     obtain ⟨s4,p4,n4,c4,t4,y4,m4,d4,rfl⟩:=xq.form
     refine ⟨_,rfl,bl,fun fX _ bb2=>wV rfl ?_⟩
     (repeat first|refine wN ?_|refine wP rfl ?_|refine af rfl ?_|refine ag rfl ?_|refine wO rfl rfl ?_)
     refine VO.df rfl (([.int .i64 (e.1:Int)]:List Value).map .val) rfl (bg iM 0 _ ⟨_,rfl⟩) (wV rfl ?_)
     (repeat first|refine wN ?_|refine wP rfl ?_|refine af rfl ?_|refine ag rfl ?_|refine wO rfl rfl ?_)
     obtain ⟨vm,vo⟩:=tw.el.ok (dk B)
     have Db:=tw.len
     refine VO.app (bj _ _) (t:=34) (e:=er) (sz:=6) (n:=un) (c:=uc) (mm:=1) (known:=oy.flatten.map .val) (spare:=qD) (del:=some 47) (news:=([.int .i64 (e.1:Int),.int .i64 (y:Int),.bool s4,.slice p4 n4 c4,.bool t4,.slice y4 m4 d4]:List Value).map .val) (dst:=47) rfl rfl rfl rfl rfl rfl rfl rfl (Nat.le_of_ble_eq_true rfl) rfl (.inr ⟨47,rfl,rfl,rfl⟩) (.inr rfl) (by rw [List.length_map,vo,Db]) tw.fl tw.le tw.cm ⟨ao _,tw.sl,rfl⟩ ⟨ba vm,tw.so,rfl⟩ rfl (by simp only [List.length_append,List.length_cons] at Db iU jt ⊢;omega)
      (fun w1 β k1 b1 ho=>⟨_,_,rfl,.inr ⟨β 46,0,rfl,cJ (rest:=[]) (ho.own 46 (.base (List.mem_append_right _ (List.mem_singleton.2 rfl))) _ _ rfl) rfl⟩⟩)
      (fun nv cap' eF ρ FH FI fy jb gj eb mC dx=>VO.fo 155 rfl (dR (ao _) _ _) (wV rfl ?_))
     (repeat first|refine wN ?_|refine wP rfl ?_|refine af rfl ?_|refine ag rfl ?_|refine wO rfl rfl ?_)
     have xK:uL B nv (un + 1) cap' (oy++[[.int .i64 (e.1:Int),.int .i64 (y:Int),.bool s4,.slice p4 n4 c4,.bool t4,.slice y4 m4 d4]]:List (List Value)) eF ((done++[(e.1,y,ai e.2 m')])):=⟨by simp [Db] <;> omega,by simpa [List.append_assoc] using ((tw.el.kp (dk B) (by (with_reducible (repeat (first | assumption | exact kU _ | exact kR _ | exact Kp.of (U:=UU) (by assumption) | exact aF.of (by assumption) | refine kT ?_ (by assumption)))))).snoc (show nb B nv [.int .i64 (e.1:Int),.int .i64 (y:Int),.bool s4,.slice p4 n4 c4,.bool t4,.slice y4 m4 d4] (e.1,y,ai e.2 m') from ⟨s4,p4,n4,c4,t4,y4,m4,d4,rfl,(xq.mono hB).kp (by (with_reducible (repeat (first | assumption | exact kU _ | exact kR _ | exact Kp.of (U:=UU) (by assumption) | exact aF.of (by assumption) | refine kT ?_ (by assumption)))))⟩)),mC,dx,jb,gj,by simpa using eb⟩
     refine VO.call rfl rfl (fk Tryz.func16) (fun j9 mw kj=>((dw _ _ s' (ai e.2 m') kk kk j9 (ux.rd.ki (hK s' Hj hs0 hsM)) (xq.rd.ki lD) (by omega) (by omega)).mono (fun o w2 h=>And.intro h kj.1.size)).mono ?_)
     rintro o w5 ⟨⟨r5,rfl,q5,gg⟩,qG⟩
     obtain ⟨s5,p5,n5,c5,t5,y5,m5,d5,rfl⟩:=q5.form
     refine ⟨_,rfl,gg,fun na _ wX=>wV rfl ?_⟩
     (repeat first|refine wN ?_|refine wP rfl ?_|refine af rfl ?_|refine ag rfl ?_|refine wO rfl rfl ?_)
     refine VO.call rfl rfl (fk Tryz.func72) (fun pz uh tn=>(bV _ _ m' (ai e.2 m') kk kk pz (Dg.ki (hK m' lp tv oA)) (xq.rd.ki lD) (by omega) (by omega)).mono ?_)
     rintro e w6 ⟨r6,rfl,q6,mO⟩
     obtain ⟨s6,p6,n6,c6,t6,y6,m6,d6,rfl⟩:=q6.form
     refine ⟨_,rfl,mO,fun tp _ Cp=>wV rfl ?_⟩
     (repeat first|refine wN ?_|refine wP rfl ?_|refine af rfl ?_|refine ag rfl ?_|refine wO rfl rfl ?_)
     refine VO.df rfl (([.bool s3,.slice p3 n3 c3,.bool t3,.slice y3 m3 d3]:List Value).map .val) rfl (bg iM 1 _ ⟨[],rfl⟩) (wV rfl ?_)
     (repeat first|refine wN ?_|refine wP rfl ?_|refine af rfl ?_|refine ag rfl ?_|refine wO rfl rfl ?_)
     refine VO.call rfl rfl (fk Tryz.func72) (fun yd Df xP=>((bV _ _ e.2 (ai e.2 m') kk kk yd (Kn.rd.ki (hK e.2 mY zK Fj)) (xq.rd.ki lD) (by omega) (by omega)).mono (fun o w2 h=>And.intro h xP.1.size)).mono ?_)
     rintro o w7 ⟨⟨r7,rfl,q7,uI⟩,EA⟩
     obtain ⟨s7,p7,n7,c7,t7,y7,m7,d7,rfl⟩:=q7.form
     refine ⟨_,rfl,uI,fun yZ _ bb7=>wV rfl ?_⟩
     (repeat first|refine wN ?_|refine wP rfl ?_|refine af rfl ?_|refine ag rfl ?_|refine wO rfl rfl ?_)
     refine VO.cond rfl (by show aR + 1 + 4≤_;rw [List.length_map,List.length_append,List.length_append,List.flatten_cons,List.length_append,iM];show aR + 1 + 4≤aR + (6 - 1 + _ + _);omega) (VO.fo 155 rfl (rW iM) (wV rfl ?_))
     (repeat first|refine wN ?_|refine wP rfl ?_|refine af rfl ?_|refine ag rfl ?_|refine wO rfl rfl ?_)
     refine VO.df rfl (([.bool s7,.slice p7 n7 c7,.bool t7,.slice y7 m7 d7]:List Value).map .val) rfl (bg iM 1 _ ⟨[],rfl⟩) (wV rfl ?_)
     (repeat first|refine wN ?_|refine wP rfl ?_|refine af rfl ?_|refine ag rfl ?_|refine wO rfl rfl ?_)
     have xN:0≤e.2 - ai e.2 m':=by grind
     have Ko:e.2 - ai e.2 m'≤M:=by grind
     have Kq:Iz D (e.2 - ai e.2 m'):=mY.sub o8
     obtain ⟨jB,jC⟩:∃ jB,dJ (e.2 - ai e.2 m') 0=jB:=⟨_,rfl⟩
     refine VO.call rfl rfl (fk Tryz.func13) (fun uK Ei za=>(bR _ (e.2 - ai e.2 m') kk uK (q7.ki (hK _ Kq xN Ko)) (by omega) jB jC).mono ?_)
     rintro e w8 ⟨rfl,qM⟩
     skip
     refine ⟨_,rfl,qM,fun vz _ Ii=>wV rfl ?_⟩
     (repeat first|refine wN ?_|refine wP rfl ?_|refine af rfl ?_|refine ag rfl ?_|refine wO rfl rfl ?_)
     have hE7:cG B w8 [.int .i64 (e.1:Int),.bool s7,.slice p7 n7 c7,.bool t7,.slice y7 m7 d7] (e.1,e.2 - ai e.2 m'):=⟨s7,p7,n7,c7,t7,y7,m7,d7,rfl,(q7.mono (Nat.le_trans hB EA)).kp (by (with_reducible (repeat (first | assumption | exact kU _ | exact kR _ | exact Kp.of (U:=UU) (by assumption) | exact aF.of (by assumption) | refine kT ?_ (by assumption)))))⟩
     have yK:=gH.so
     have Hi:=gH.po
     have sG:=gH.fl
     have B9:0≤m' - ai e.2 m':=by grind
     have D4:0≤s' + ai e.2 m':=by grind
     have xr:s' + ai e.2 m' + (m' - ai e.2 m')=m:=by grind
     have xt:=(q6.kr (w':=w8) (by (with_reducible (repeat (first | assumption | exact kU _ | exact kR _ | exact Kp.of (U:=UU) (by assumption) | exact aF.of (by assumption) | refine kT ?_ (by assumption))))))
     have xu:aK w8 w.heap.size _ (s' + ai e.2 m'):=(q5.mono qG).kp (by (with_reducible (repeat (first | assumption | exact kU _ | exact kR _ | exact Kp.of (U:=UU) (by assumption) | exact aF.of (by assumption) | refine kT ?_ (by assumption)))))
     have Kr:cL (cG B) w8 ft fM:=qE.kp (aM B) (by (with_reducible (repeat (first | assumption | exact kU _ | exact kR _ | exact Kp.of (U:=UU) (by assumption) | exact aF.of (by assumption) | refine kT ?_ (by assumption)))))
     by_cases hz:e.2 - ai e.2 m'=0
     ·have qH:(jB == 0)=true:=by rw [←jC,hz];rfl
      refine VS.bD rfl qH ?_
      (repeat first|refine wN ?_|refine wP rfl ?_|refine af rfl ?_|refine ag rfl ?_|refine wO rfl rfl ?_)
      obtain ⟨e1,e2,e3⟩:=fK (y:=y) (p:=e) (q:=ft) hm hz
      rw [e1,←List.singleton_append,←List.append_assoc] at eU
      rw [e2] at eL
      rw [e3] at eS
      refine VO.iz rfl rfl (fk Tryz.func76) rfl (by omega) uJ uF (fun j hj=> ?_) (Nat.le_of_ble_eq_true rfl) (fun w9 k9 b9=>wV rfl ?_)
      ·rcases List.mem_cons.1 hj with rfl | hj
       ·intro h;cases h
       ·cases List.mem_singleton.1 hj
        intro h;cases h
      (repeat first|refine wN ?_|refine wP rfl ?_|refine af rfl ?_|refine ag rfl ?_|refine wO rfl rfl ?_)
      have hO9:cX (cG B) 5 w9 (n' - 1) (if c'=1 then aR else aR + 5) (c' - 1) (bK++[.int .i64 (e.1:Int),.bool s7,.slice p7 n7 c7,.bool t7,.slice y7 m7 d7]) fM ak ft:=⟨by rw [qy];rfl,mD iM,by rw [List.all_append,Hi];rfl,Kr.kp (aM B) (by (with_reducible (repeat (first | assumption | exact kU _ | exact kR _ | exact Kp.of (U:=UU) (by assumption) | exact aF.of (by assumption) | refine kT ?_ (by assumption))))),yK,by omega,by omega,mG sG⟩
      have jg:∀ (v8:AV) (wb:World),aF (KU UU) w9 wb→((n' - 1=0∧v8=.val (.pointer none))∨(n' - 1≠0∧v8=.km 155 (if c'=1 then aR else aR + 5)))→rX B D M w rv y q m (2 * ft.length + (if 0 < m' - ai e.2 m' then 1 else 0)) [(0,.box 154 0),(1,.val (.int .i64 (y:Int))),(5,.box 5 0),(6,.box 6 0),(7,.box 7 0),(8,v8)]
        ((154,(Runner,[.row 155 (if c'=1 then aR else aR + 5) (n' - 1) (c' - 1),.val rv,.row 47 0 (un + 1) cap']))::(155,(cM,((bK++([.int .i64 (e.1:Int),.bool s7,.slice p7 n7 c7,.bool t7,.slice y7 m7 d7]:List Value))++(fM.flatten++ak)).map AV.val))::(5,(26,([.bool s6,.slice p6 n6 c6,.bool t6,.slice y6 m6 d6]:List Value).map .val))::(6,(26,([.bool false,.slice none 0 0,.bool false,.slice none 0 0]:List Value).map .val))::(7,(26,([.bool s5,.slice p5 n5 c5,.bool t5,.slice y5 m5 d5]:List Value).map .val))::[(47,(er,(oy++[[.int .i64 (e.1:Int),.int .i64 (y:Int),.bool s4,.slice p4 n4 c4,.bool t4,.slice y4 m4 d4]]:List (List Value)).flatten.map AV.val++eF))]) wb:=fun v8 wb kb Hk=>
       ⟨ft,_,_,_,_,fM,ak,m' - ai e.2 m',s' + ai e.2 m',done++[(e.1,y,ai e.2 m')],v8,_,_,_,_,_,_,_,_,_,_,_,_,_,_,_,_,_,_,rfl,rfl,rfl,hO9.kp (aM B) (by (with_reducible (repeat (first | assumption | exact kU _ | exact kR _ | exact Kp.of (U:=UU) (by assumption) | exact aF.of (by assumption) | refine kT ?_ (by assumption))))),xt.k,xu.k,lp.sub o8,Hj.add o8,B9,D4,xr,fun p hp=>zB p (by simp [hp]),eU,eL,by rw [eS];grind,Hk,by simp at iU ⊢;split <;> omega,.inr ⟨_,_,_,_,rfl,rfl,xK.kp (by (with_reducible (repeat (first | assumption | exact kU _ | exact kR _ | exact Kp.of (U:=UU) (by assumption) | exact aF.of (by assumption) | refine kT ?_ (by assumption)))))⟩⟩
      have hlt:2 * ft.length + (if 0 < m' - ai e.2 m' then 1 else 0) < 2 * (e::ft).length + (if 0 < m' then 1 else 0):=by
       rw [if_pos hm,List.length_cons];split <;> omega
      by_cases sH:n' - 1=0
      ·refine VO.cY (x:=.row 155 (if c'=1 then aR else aR + 5) (n' - 1) (c' - 1)) (p:=fun _=>none) (c:=c' - 1) rfl (fun β=>.inr ⟨_,congrArg (fun n=>Value.slice (some ⟨β 155,(if c'=1 then aR else aR + 5),none⟩) n (c' - 1)) sH⟩) rfl (fk Tryz.func75) rfl (fun wb Hl Ks=>wV rfl ?_)
       (repeat first|refine wN ?_|refine wP rfl ?_|refine af rfl ?_|refine ag rfl ?_|refine wO rfl rfl ?_)
       refine VS.back _ hlt ⟨_,_,?_,?_,?_,?_,jg _ wb (by (with_reducible (repeat (first | assumption | exact kU _ | exact kR _ | exact Kp.of (U:=UU) (by assumption) | exact aF.of (by assumption) | refine kT ?_ (by assumption))))) (.inl ⟨sH,rfl⟩)⟩
       ·(repeat first|exact trivial|refine ⟨rfl,?_⟩)
       ·exact ⟨rfl,congrArg (fun l=>some (cM,l)) (dL _ _ _ _),rfl,rfl,rfl,congrArg (fun l=>some (er,l++eF)) (by simp),trivial⟩
       ·rfl
       ·exact ⟨.lit rfl,.vals _,.vals _,.vals _,.vals _,.append (.vals _) (.none dx),trivial⟩
      ·refine VO.cH rfl rfl (fk Tryz.func75) rfl sH (by intro h;cases h) (fun wb Hl Ks=>wV rfl ?_)
       (repeat first|refine wN ?_|refine wP rfl ?_|refine af rfl ?_|refine ag rfl ?_|refine wO rfl rfl ?_)
       refine VS.back _ hlt ⟨_,_,?_,?_,?_,?_,jg _ wb (by (with_reducible (repeat (first | assumption | exact kU _ | exact kR _ | exact Kp.of (U:=UU) (by assumption) | exact aF.of (by assumption) | refine kT ?_ (by assumption))))) (.inr ⟨sH,rfl⟩)⟩
       ·(repeat first|exact trivial|refine ⟨rfl,?_⟩)
       ·exact ⟨rfl,congrArg (fun l=>some (cM,l)) (dL _ _ _ _),rfl,rfl,rfl,congrArg (fun l=>some (er,l++eF)) (by simp),trivial⟩
       ·rfl
       ·exact ⟨.lit rfl,.vals _,.vals _,.vals _,.vals _,.append (.vals _) (.none dx),trivial⟩
     ·have qH:(jB == 0)=false:=by rw [←jC,beq_eq_false_iff_ne];exact vB hz
      refine VS.bt rfl qH ?_
      (repeat first|refine wN ?_|refine wP rfl ?_|refine af rfl ?_|refine ag rfl ?_|refine wO rfl rfl ?_)
      obtain ⟨e0,e1,e2,e3⟩:=fJ (y:=y) (p:=e) (q:=ft) hm hz
      refine VO.cH rfl rfl (fk Tryz.func75) rfl lC (by intro h;cases h) (fun wb Hl Ks=>wV rfl ?_)
      (repeat first|refine wN ?_|refine wP rfl ?_|refine af rfl ?_|refine ag rfl ?_|refine wO rfl rfl ?_)
      refine VS.back (2 * (e::ft).length + 0) (by rw [if_pos hm];omega) ⟨_,_,?_,?_,?_,?_,⟨(e.1,e.2 - ai e.2 m')::ft,aR,n',c',bK,[.int .i64 (e.1:Int),.bool s7,.slice p7 n7 c7,.bool t7,.slice y7 m7 d7]::fM,ak,m' - ai e.2 m',s' + ai e.2 m',done++[(e.1,y,ai e.2 m')],.km 155 aR,_,_,_,_,_,_,_,_,_,_,_,_,_,_,_,_,_,_,by rw [if_neg e0];rfl,rfl,rfl,⟨qy,.inl iM,Hi,.cons ((aM B).kp hE7 (by (with_reducible (repeat (first | assumption | exact kU _ | exact kR _ | exact Kp.of (U:=UU) (by assumption) | exact aF.of (by assumption) | refine kT ?_ (by assumption)))))) (Kr.kp (aM B) (by (with_reducible (repeat (first | assumption | exact kU _ | exact kR _ | exact Kp.of (U:=UU) (by assumption) | exact aF.of (by assumption) | refine kT ?_ (by assumption)))))),yK,uJ,uF,by simpa using sG⟩,xt.k,xu.k,lp.sub o8,Hj.add o8,B9,D4,xr,fun p hp=> ?_,?_,?_,?_,.inr ⟨lC,rfl⟩,?_,.inr ⟨_,_,_,_,rfl,rfl,xK.kp (by (with_reducible (repeat (first | assumption | exact kU _ | exact kR _ | exact Kp.of (U:=UU) (by assumption) | exact aF.of (by assumption) | refine kT ?_ (by assumption)))))⟩⟩⟩
      ·(repeat first|exact trivial|refine ⟨rfl,?_⟩)
      ·exact ⟨rfl,rfl,rfl,rfl,rfl,congrArg (fun l=>some (er,l++eF)) (by simp),trivial⟩
      ·rfl
      ·exact ⟨.lit rfl,.vals _,.vals _,.vals _,.vals _,.append (.vals _) (.none dx),trivial⟩
      ·rcases List.mem_cons.1 hp with rfl | hp
       ·exact ⟨Kq,xN,Ko⟩
       ·exact zB p (by simp [hp])
      ·rw [eU,e1,gu y _ e0,List.append_nil]
      ·rw [eL,e2,fI _ e0]
      ·rw [eS,e3,gv _ e0];grind
      ·rw [if_neg e0];simp at iU ⊢;omega
    ·have jj:¬ sg > 0:=by rw [←jm];exact fun h=>hm (fb.1 h)
     refine VS.bt rfl (decide_eq_false jj) ?_
     have fU:=gu y (e::ft) hm
     have fL:=fI (e::ft) hm
     have fS:=gv (e::ft) hm
     (repeat first|refine wN ?_|refine wP rfl ?_|refine af rfl ?_|refine ag rfl ?_|refine wO rfl rfl ?_)
     refine VS.om (bj _ _) rfl (fun wz β kz oz en=> ?_)
     obtain ⟨o1,o2⟩:=ea (en.own 154 _ _ rfl) 0 g rfl rfl
     obtain ⟨o3,o4⟩:=ea (en.own 155 _ _ rfl) 1 b rfl rfl
     rw [ah] at o4
     replace o3:β 155=b:=o3
     rw [fU] at eU
     rw [fL] at eL
     rw [fS,show s' + 0=s' by grind] at eS
     have o5:=(en.own 47 _ _ rfl).new
     have o6:=(en.own 47 _ _ rfl).cls
     rw [List.map_append,ah] at o6
     have n1':β 47≠g:=fun e=>absurd (en.apart 154 47 (by intro h;cases h) (by intro h;cases h) (o1.trans e.symm)) (by decide)
     have n2':β 47≠b:=fun e=>absurd (en.apart 155 47 (by intro h;cases h) (by intro h;cases h) (o3.trans e.symm)) (by decide)
     have o7:w.heap.size≤β 47:=by
      have:=eN (show cA 77 [g,b] w 47 (β 47) from o5)
      simpa [n1',n2'] using this
     refine ⟨_,rfl,?_,oz.1,aR,n',c',bK,_,ak,.slice (some ⟨β 47,0,none⟩) un uc,?_,o4,?_,.inr ⟨β 47,un,uc,oy,qD.map (AV.leaf β),o7,rfl,o6,?_⟩⟩
     ·rw [eS];exact ux.k
     ·rw [←o3];exact o2
     ·rw [eL];exact gH.kp (aM B) (by (with_reducible (repeat (first | assumption | exact kU _ | exact kR _ | exact Kp.of (U:=UU) (by assumption) | exact aF.of (by assumption) | refine kT ?_ (by assumption)))))
     ·rw [eU,List.append_nil];exact (tw.kp (by (with_reducible (repeat (first | assumption | exact kU _ | exact kR _ | exact Kp.of (U:=UU) (by assumption) | exact aF.of (by assumption) | refine kT ?_ (by assumption)))))).o β
set_option maxRecDepth 4000 in
set_option maxHeartbeats 8000000 in
theorem Kt (B g b off n c y D kk:Nat) (M m:Rat) (pre:List Value) (vs:List (List Value)) (spare:List Value) (q:List Vq) (rv v:Value) (ub yg Ai:Nat) (lV:List (List Value)) (nc:List Value) (us0:List Uq) (w:World)
  (hg:aW w g Runner #[.slice (some ⟨b,off,none⟩) n c,rv,.slice (some ⟨ub,0,none⟩) yg Ai]) (IQ:aW w ub er (lV.flatten++nc).toArray) (Il:cX (nb B) 6 w yg 0 Ai [] lV nc us0) (Aj:us0.length≤1000) (hb:aW w b cM (pre++(vs.flatten++spare)).toArray) (hO:cX (cG B) 5 w n off c pre vs spare q) (hr:aU rv=true) (hv:cP w v m) (hmI:Iz D m) (yf:0≤m) (hmM:m≤M) (hq:∀ p∈q,Iz D p.2∧0≤p.2∧p.2≤M)
  (hK:∀ x,Iz D x→0≤x→x≤M→dQ x kk) (hk:kk≤100000) (jt:q.length≤1000) (hB:B≤w.heap.size):
  Calls Tryz.prog 73 #[.pointer (some ⟨g,0,none⟩),.int .i64 (y:Int),v] w fun o w'=>∃ x,o=.returned x∧aK w' w.heap.size x (qO q m)∧qn [g,b,ub] w w'∧LeftA w' ub∧∃ aR n' c' bK gD ak uv,aW w' g Runner #[.slice (some ⟨b,aR,none⟩) n' c',rv,uv]∧aW w' b cM (bK++(gD.flatten++ak)).toArray∧cX (cG B) 5 w' n' aR c' bK gD ak (kP q m)∧(∃ b' un uc oy qD,(w.heap.size≤b'∨b'=ub)∧uv=.slice (some ⟨b',0,none⟩) un uc∧aW w' b' er (oy.flatten++qD).toArray∧cX (nb B) 6 w' un 0 uc [] oy qD (us0++nw y q m)):=by
 have hgb:g≠b:=fun e=>by subst e;exact absurd (bn hg hb) (by decide)
 have hgu:g≠ub:=fun e=>by subst e;exact absurd (bn hg IQ) (by decide)
 have hbu:b≠ub:=fun e=>by subst e;exact absurd (bn hb IQ) (by decide)
 have hUo:uL B w yg Ai lV (nc.map .val) us0:=⟨Il.len,Il.el,ba Il.so,ao _,Il.le,Il.cm,by rw [←List.map_append,List.length_map];exact Il.fl⟩
 obtain ⟨huok,hulen⟩:=Il.el.ok (dk B)
 obtain ⟨s0,p0,n0,c0,t0,y0,m0,d0,rfl⟩:=hv.form
 have pC:iE (KU UU) 77 [g,b,ub] [(Runner,[.row 155 off n c,.val rv,.row 156 0 yg Ai]),(cM,(pre++(vs.flatten++spare)).map .val),(er,lV.flatten.map .val++nc.map .val)] w:=by
  refine ⟨rfl,by simp [hgb,hgu,hbu],fun j g' c' hj hc=> ?_,fun c' hc=> ?_,fun c' hc k hk=> ?_⟩
  ·match j,hj,hc with
   | 0,hj,hc=>cases hj;cases hc;exact hg
   | 1,hj,hc=>cases hj;cases hc;rw [ah];exact hb
   | 2,hj,hc=>cases hj;cases hc;rw [←List.map_append,ah];exact IQ
   | j + 3,hj,_=>simp at hj
  ·rcases List.mem_cons.1 hc with rfl | hc
   ·exact ⟨rfl,rnr_ok' rfl hr rfl⟩
   ·rcases List.mem_cons.1 hc with rfl | hc
    ·exact ⟨rfl,ba (hO.all (aM B))⟩
    ·cases List.mem_singleton.1 hc
     exact ⟨rfl,by rw [←List.map_append];exact ba (by rw [List.all_append,huok,Il.so];rfl)⟩
  ·rcases List.mem_cons.1 hc with rfl | hc
   ·have:k=155∨k=156:=by simpa [ax,AV.cK] using hk
    rcases this with rfl | rfl
    ·exact ⟨by omega,by show 155 < 2 * 77 + 3;omega⟩
    ·exact ⟨by omega,by show 156 < 2 * 77 + 3;omega⟩
   ·rcases List.mem_cons.1 hc with rfl | hc
    ·rw [ao] at hk;cases hk
    ·cases List.mem_singleton.1 hc
     rw [←List.map_append,ao] at hk;cases hk
 refine dZ Tryz.prog w _ (KU UU) (fun t=>Nat.beq t 22) table (fun _ _=>trivial) (ad:=[g,b,ub]) (us:=[_,_]) Tryz.func73 rfl Tryz.ntmps73 (Nat.le_of_ble_eq_true rfl) pC (Nat.le_of_ble_eq_true rfl) ?_
 (repeat first|refine wN ?_|refine wP rfl ?_|refine af rfl ?_|refine ag rfl ?_|refine wO rfl rfl ?_)
 refine VO.call rfl rfl (fk Tryz.func44) (fun cB ek du=>((bE 0 cB (by omega) (by omega)).mono (fun o w2 h=>And.intro h du.1.size)).mono ?_)
 rintro o w1 ⟨⟨r9,rfl,q9,E6⟩,Ey⟩
 obtain ⟨s9,p9,n9,c9,t9,y9,m9,d9,rfl⟩:=q9.form
 refine ⟨_,rfl,E6,fun AK _ bb9=>wV rfl ?_⟩
 (repeat first|refine wN ?_|refine wP rfl ?_|refine af rfl ?_|refine ag rfl ?_|refine wO rfl rfl ?_)
 have Kd:((0:Int):Rat)=0:=rfl
 rw [Kd] at q9
 apply VO.via (P:=fun F' H' w'=>Entry (rY B D M w rv y q m yg Ai lV nc us0) (2 * q.length + (if 0 < m then 1 else 0)) F' H' w')
 ·intro cont
  by_cases lC:n=0
  ·refine VO.cY (x:=.row 155 off n c) (p:=fun _=>none) (c:=c) rfl (fun β=>.inr ⟨_,congrArg (fun n=>Value.slice (some ⟨β 155,off,none⟩) n c) lC⟩) rfl (fk Tryz.func75) rfl (fun w3 k3 b3=>wV rfl ?_)
   (repeat first|refine wN ?_|refine wP rfl ?_|refine af rfl ?_|refine ag rfl ?_|refine wO rfl rfl ?_)
   refine cont _ _ _ ⟨_,_,?_,?_,?_,?_,⟨q,off,n,c,pre,vs,spare,m,0,[],.val (.pointer none),_,_,_,_,_,_,_,_,_,_,_,_,_,_,_,_,_,_,rfl,rfl,rfl,hO.kp (aM B) (by (with_reducible (repeat (first | assumption | exact kU _ | exact kR _ | exact Kp.of (U:=UU) (by assumption) | exact aF.of (by assumption) | refine kT ?_ (by assumption))))),hv.k,(q9.mono Ey).kp (by (with_reducible (repeat (first | assumption | exact kU _ | exact kR _ | exact Kp.of (U:=UU) (by assumption) | exact aF.of (by assumption) | refine kT ?_ (by assumption))))),hmI,Iz.zero,yf,Rat.le_refl,by grind,hq,rfl,rfl,by grind,.inl ⟨lC,rfl⟩,by split <;> simp,.inl ⟨rfl,rfl,rfl,by (with_reducible (repeat (first | assumption | exact kU _ | exact kR _ | exact Kp.of (U:=UU) (by assumption) | exact aF.of (by assumption) | refine kT ?_ (by assumption))))⟩⟩⟩
   ·(repeat first|exact trivial|refine ⟨rfl,?_⟩)
   ·(repeat first|exact trivial|refine ⟨rfl,?_⟩)
   ·rfl
   ·exact ⟨.lit rfl,.vals _,.vals _,.vals _,.vals _,.append (.vals _) (.vals _),trivial⟩
  ·refine VO.cH rfl rfl (fk Tryz.func75) rfl lC (by intro h;cases h) (fun w3 k3 b3=>wV rfl ?_)
   (repeat first|refine wN ?_|refine wP rfl ?_|refine af rfl ?_|refine ag rfl ?_|refine wO rfl rfl ?_)
   refine cont _ _ _ ⟨_,_,?_,?_,?_,?_,⟨q,off,n,c,pre,vs,spare,m,0,[],.km 155 off,_,_,_,_,_,_,_,_,_,_,_,_,_,_,_,_,_,_,rfl,rfl,rfl,hO.kp (aM B) (by (with_reducible (repeat (first | assumption | exact kU _ | exact kR _ | exact Kp.of (U:=UU) (by assumption) | exact aF.of (by assumption) | refine kT ?_ (by assumption))))),hv.k,(q9.mono Ey).kp (by (with_reducible (repeat (first | assumption | exact kU _ | exact kR _ | exact Kp.of (U:=UU) (by assumption) | exact aF.of (by assumption) | refine kT ?_ (by assumption))))),hmI,Iz.zero,yf,Rat.le_refl,by grind,hq,rfl,rfl,by grind,.inr ⟨lC,rfl⟩,by split <;> simp,.inl ⟨rfl,rfl,rfl,by (with_reducible (repeat (first | assumption | exact kU _ | exact kR _ | exact Kp.of (U:=UU) (by assumption) | exact aF.of (by assumption) | refine kT ?_ (by assumption))))⟩⟩⟩
   ·(repeat first|exact trivial|refine ⟨rfl,?_⟩)
   ·(repeat first|exact trivial|refine ⟨rfl,?_⟩)
   ·rfl
   ·exact ⟨.lit rfl,.vals _,.vals _,.vals _,.vals _,.append (.vals _) (.vals _),trivial⟩
 ·intro F0 H0 w0' hent
  refine VS.loop (J:=rY B D M w rv y q m yg Ai lV nc us0) _ hent ?_
  rintro idx L Mm w' ⟨q',aR,n',c',bK,gD,ak,m',s',done,v8,Us,Um,s1,t1,s2,t2,p1,y1,p2,y2,n1,c1,m1,d1,n2,c2,m2,d2,rfl,rfl,rfl,gH,Dg,ux,lp,Hj,tv,hs0,hsm,zB,eU,eL,eS,Hk,iU,hUs⟩
  have oA:m'≤M:=by grind
  have hsM:s'≤M:=by grind
  rcases hUs with ⟨rfl,rfl,rfl,kw0⟩ | ⟨un,uc,oy,qD,rfl,rfl,tw⟩
  ·rcases Hk with ⟨lC,rfl⟩ | ⟨lC,rfl⟩
   ·have C5:q'=[]:=List.eq_nil_of_length_eq_zero (by rw [←gH.len];exact lC)
    subst C5
    have fU:nw y [] m'=[]:=rfl
    have fL:kP [] m'=[]:=rfl
    have fS:qO [] m'=0:=rfl
    (repeat first|refine wN ?_|refine wP rfl ?_|refine af rfl ?_|refine ag rfl ?_|refine wO rfl rfl ?_)
    refine VS.om (bj _ _) rfl (fun wz β kz oz en=> ?_)
    obtain ⟨o1,o2⟩:=ea (en.own 154 _ _ rfl) 0 g rfl rfl
    obtain ⟨o3,o4⟩:=ea (en.own 155 _ _ rfl) 1 b rfl rfl
    rw [ah] at o4
    replace o3:β 155=b:=o3
    rw [fU] at eU
    rw [fL] at eL
    rw [fS,show s' + 0=s' by grind] at eS
    obtain ⟨o5,o6⟩:=ea (en.own 156 _ _ rfl) 2 ub rfl rfl
    replace o5:β 156=ub:=o5
    rw [List.map_append,ah,ah] at o6
    refine ⟨_,rfl,?_,oz.1,oz.2 ub (by simp),aR,n',c',bK,gD,ak,.slice (some ⟨ub,0,none⟩) yg Ai,?_,o4,?_,ub,yg,Ai,lV,nc,.inr rfl,rfl,o6,?_⟩
    ·rw [eS];exact ux.k
    ·rw [←o3,←o5];exact o2
    ·rw [eL];exact gH.kp (aM B) (by (with_reducible (repeat (first | assumption | exact kU _ | exact kR _ | exact Kp.of (U:=UU) (by assumption) | exact aF.of (by assumption) | refine kT ?_ (by assumption)))))
    ·rw [eU,List.nil_append,List.append_nil];exact Il.kp (dk B) (by (with_reducible (repeat (first | assumption | exact kU _ | exact kR _ | exact Kp.of (U:=UU) (by assumption) | exact aF.of (by assumption) | refine kT ?_ (by assumption)))))
   ·obtain ⟨e,ft,rfl⟩:∃ e ft,q'=e::ft:=by
     cases q' with
     | nil=>exact absurd gH.len lC
     | cons e ft=>exact ⟨e,ft,rfl⟩
    obtain ⟨cs,fM,rfl,hE,qE⟩:∃ cs fM,gD=cs::fM∧cG B w' cs e∧cL (cG B) w' ft fM:=by
     have:=gH.el
     cases this with
     | cons h1 h2=>exact ⟨_,_,rfl,h1,h2⟩
    obtain ⟨s3,p3,n3,c3,t3,y3,m3,d3,rfl,Kn⟩:=hE
    have uJ:=gH.le
    have qy:=gH.len
    have uF:=gH.cm
    have iM:bK.length=aR:=gH.pl.resolve_right (by omega)
    obtain ⟨mY,zK,Fj⟩:=zB e (by simp)
    (repeat first|refine wN ?_|refine wP rfl ?_|refine af rfl ?_|refine ag rfl ?_|refine wO rfl rfl ?_)
    obtain ⟨sg,jm⟩:∃ sg,dJ m' 0=sg:=⟨_,rfl⟩
    refine VO.call rfl rfl (fk Tryz.func13) (fun cB ek du=>(bR _ m' kk cB (Dg.ki (hK m' lp tv oA)) (by omega) sg jm).mono ?_)
    rintro e w1 ⟨rfl,aV⟩
    skip
    refine ⟨_,rfl,aV,fun e9 _ bb1=>wV rfl ?_⟩
    (repeat first|refine wN ?_|refine wP rfl ?_|refine af rfl ?_|refine ag rfl ?_|refine wO rfl rfl ?_)
    by_cases hm:0 < m'
    ·have jj:sg > 0:=by rw [←jm];exact fb.2 hm
     rw [if_pos hm] at iU
     refine VS.bD rfl (decide_eq_true jj) ?_
     (repeat first|refine wN ?_|refine wP rfl ?_|refine af rfl ?_|refine ag rfl ?_|refine wO rfl rfl ?_)
     refine VO.df rfl (([.bool s3,.slice p3 n3 c3,.bool t3,.slice y3 m3 d3]:List Value).map .val) rfl (bg iM 1 _ ⟨[],rfl⟩) (wV rfl ?_)
     (repeat first|refine wN ?_|refine wP rfl ?_|refine af rfl ?_|refine ag rfl ?_|refine wO rfl rfl ?_)
     have pQ:=cQ e.2 m'
     have Ez:0≤ai e.2 m':=by rcases pQ with ⟨h,_⟩ | ⟨h,_⟩ <;> rw [h] <;> assumption
     have o8:Iz D (ai e.2 m'):=by rcases pQ with ⟨h,_⟩ | ⟨h,_⟩ <;> rw [h] <;> assumption
     have yP:=dh e.2 m'
     have vp:=bZ e.2 m'
     have lD:=hK _ o8 Ez (Rat.le_trans vp oA)
     refine VO.fG rfl (fk Tryz.func71) (fun dB β gp et ho=>((fH _ _ e.2 [m'] kk dB (Kn.rd.ki (hK e.2 mY zK Fj)) (dV (ho.own 31 (.base (List.mem_singleton.2 rfl)) _ _ rfl) [] (vs:=[[.bool s1,.slice p1 n1 c1,.bool t1,.slice y1 m1 d1]]) (by rfl) rfl (bX.cons (Dg.ki (hK m' lp tv oA)) bX.nil) (Nat.le_of_ble_eq_true rfl) (by decide)) (by omega) (Nat.le_of_ble_eq_true rfl)).mono (fun o w2 h=>And.intro h et.1.size)).mono ?_)
     rintro o w2 ⟨⟨r4,rfl,q4,z4,bl⟩,qF⟩
     rw [gQ] at q4
     have xq:aK w2 w.heap.size r4 (ai e.2 m'):=q4.mono qF
     obtain ⟨s4,p4,n4,c4,t4,y4,m4,d4,rfl⟩:=xq.form
     refine ⟨_,rfl,bl,fun fX _ bb2=>wV rfl ?_⟩
     (repeat first|refine wN ?_|refine wP rfl ?_|refine af rfl ?_|refine ag rfl ?_|refine wO rfl rfl ?_)
     refine VO.df rfl (([.int .i64 (e.1:Int)]:List Value).map .val) rfl (bg iM 0 _ ⟨_,rfl⟩) (wV rfl ?_)
     (repeat first|refine wN ?_|refine wP rfl ?_|refine af rfl ?_|refine ag rfl ?_|refine wO rfl rfl ?_)
     obtain ⟨vm,vo⟩:=hUo.el.ok (dk B)
     have Db:=hUo.len
     refine VO.app (bj _ _) (t:=34) (e:=er) (sz:=6) (n:=yg) (c:=Ai) (mm:=1) (known:=lV.flatten.map .val) (spare:=(nc.map AV.val)) (del:=some 156) (news:=([.int .i64 (e.1:Int),.int .i64 (y:Int),.bool s4,.slice p4 n4 c4,.bool t4,.slice y4 m4 d4]:List Value).map .val) (dst:=47) rfl rfl rfl rfl rfl rfl rfl rfl (Nat.le_of_ble_eq_true rfl) rfl (.inr ⟨156,rfl,rfl,rfl⟩) (.inl rfl) (by rw [List.length_map,vo,Db]) hUo.fl hUo.le hUo.cm ⟨ao _,hUo.sl,rfl⟩ ⟨ba vm,hUo.so,rfl⟩ rfl (by simp only [List.length_append,List.length_cons] at Db iU jt ⊢;omega)
      (fun w1 β k1 b1 ho=>⟨_,_,rfl,.inr ⟨β 46,0,rfl,cJ (rest:=[]) (ho.own 46 (.base (List.mem_append_right _ (List.mem_singleton.2 rfl))) _ _ rfl) rfl⟩⟩)
      (fun nv cap' eF ρ FH FI fy jb gj eb mC dx=>VO.fo 155 rfl (dR (ao _) _ _) (wV rfl ?_))
     (repeat first|refine wN ?_|refine wP rfl ?_|refine af rfl ?_|refine ag rfl ?_|refine wO rfl rfl ?_)
     have xK:uL B nv (yg + 1) cap' (lV++[[.int .i64 (e.1:Int),.int .i64 (y:Int),.bool s4,.slice p4 n4 c4,.bool t4,.slice y4 m4 d4]]:List (List Value)) eF (us0++([]++[(e.1,y,ai e.2 m')])):=⟨by simp [Db] <;> omega,by simpa [List.append_assoc] using ((hUo.el.kp (dk B) (by (with_reducible (repeat (first | assumption | exact kU _ | exact kR _ | exact Kp.of (U:=UU) (by assumption) | exact aF.of (by assumption) | refine kT ?_ (by assumption)))))).snoc (show nb B nv [.int .i64 (e.1:Int),.int .i64 (y:Int),.bool s4,.slice p4 n4 c4,.bool t4,.slice y4 m4 d4] (e.1,y,ai e.2 m') from ⟨s4,p4,n4,c4,t4,y4,m4,d4,rfl,(xq.mono hB).kp (by (with_reducible (repeat (first | assumption | exact kU _ | exact kR _ | exact Kp.of (U:=UU) (by assumption) | exact aF.of (by assumption) | refine kT ?_ (by assumption)))))⟩)),mC,dx,jb,gj,by simpa using eb⟩
     refine VO.call rfl rfl (fk Tryz.func16) (fun j9 mw kj=>((dw _ _ s' (ai e.2 m') kk kk j9 (ux.rd.ki (hK s' Hj hs0 hsM)) (xq.rd.ki lD) (by omega) (by omega)).mono (fun o w2 h=>And.intro h kj.1.size)).mono ?_)
     rintro o w5 ⟨⟨r5,rfl,q5,gg⟩,qG⟩
     obtain ⟨s5,p5,n5,c5,t5,y5,m5,d5,rfl⟩:=q5.form
     refine ⟨_,rfl,gg,fun na _ wX=>wV rfl ?_⟩
     (repeat first|refine wN ?_|refine wP rfl ?_|refine af rfl ?_|refine ag rfl ?_|refine wO rfl rfl ?_)
     refine VO.call rfl rfl (fk Tryz.func72) (fun pz uh tn=>(bV _ _ m' (ai e.2 m') kk kk pz (Dg.ki (hK m' lp tv oA)) (xq.rd.ki lD) (by omega) (by omega)).mono ?_)
     rintro e w6 ⟨r6,rfl,q6,mO⟩
     obtain ⟨s6,p6,n6,c6,t6,y6,m6,d6,rfl⟩:=q6.form
     refine ⟨_,rfl,mO,fun tp _ Cp=>wV rfl ?_⟩
     (repeat first|refine wN ?_|refine wP rfl ?_|refine af rfl ?_|refine ag rfl ?_|refine wO rfl rfl ?_)
     refine VO.df rfl (([.bool s3,.slice p3 n3 c3,.bool t3,.slice y3 m3 d3]:List Value).map .val) rfl (bg iM 1 _ ⟨[],rfl⟩) (wV rfl ?_)
     (repeat first|refine wN ?_|refine wP rfl ?_|refine af rfl ?_|refine ag rfl ?_|refine wO rfl rfl ?_)
     refine VO.call rfl rfl (fk Tryz.func72) (fun yd Df xP=>((bV _ _ e.2 (ai e.2 m') kk kk yd (Kn.rd.ki (hK e.2 mY zK Fj)) (xq.rd.ki lD) (by omega) (by omega)).mono (fun o w2 h=>And.intro h xP.1.size)).mono ?_)
     rintro o w7 ⟨⟨r7,rfl,q7,uI⟩,EA⟩
     obtain ⟨s7,p7,n7,c7,t7,y7,m7,d7,rfl⟩:=q7.form
     refine ⟨_,rfl,uI,fun yZ _ bb7=>wV rfl ?_⟩
     (repeat first|refine wN ?_|refine wP rfl ?_|refine af rfl ?_|refine ag rfl ?_|refine wO rfl rfl ?_)
     refine VO.cond rfl (by show aR + 1 + 4≤_;rw [List.length_map,List.length_append,List.length_append,List.flatten_cons,List.length_append,iM];show aR + 1 + 4≤aR + (6 - 1 + _ + _);omega) (VO.fo 155 rfl (rW iM) (wV rfl ?_))
     (repeat first|refine wN ?_|refine wP rfl ?_|refine af rfl ?_|refine ag rfl ?_|refine wO rfl rfl ?_)
     refine VO.df rfl (([.bool s7,.slice p7 n7 c7,.bool t7,.slice y7 m7 d7]:List Value).map .val) rfl (bg iM 1 _ ⟨[],rfl⟩) (wV rfl ?_)
     (repeat first|refine wN ?_|refine wP rfl ?_|refine af rfl ?_|refine ag rfl ?_|refine wO rfl rfl ?_)
     have xN:0≤e.2 - ai e.2 m':=by grind
     have Ko:e.2 - ai e.2 m'≤M:=by grind
     have Kq:Iz D (e.2 - ai e.2 m'):=mY.sub o8
     obtain ⟨jB,jC⟩:∃ jB,dJ (e.2 - ai e.2 m') 0=jB:=⟨_,rfl⟩
     refine VO.call rfl rfl (fk Tryz.func13) (fun uK Ei za=>(bR _ (e.2 - ai e.2 m') kk uK (q7.ki (hK _ Kq xN Ko)) (by omega) jB jC).mono ?_)
     rintro e w8 ⟨rfl,qM⟩
     skip
     refine ⟨_,rfl,qM,fun vz _ Ii=>wV rfl ?_⟩
     (repeat first|refine wN ?_|refine wP rfl ?_|refine af rfl ?_|refine ag rfl ?_|refine wO rfl rfl ?_)
     have hE7:cG B w8 [.int .i64 (e.1:Int),.bool s7,.slice p7 n7 c7,.bool t7,.slice y7 m7 d7] (e.1,e.2 - ai e.2 m'):=⟨s7,p7,n7,c7,t7,y7,m7,d7,rfl,(q7.mono (Nat.le_trans hB EA)).kp (by (with_reducible (repeat (first | assumption | exact kU _ | exact kR _ | exact Kp.of (U:=UU) (by assumption) | exact aF.of (by assumption) | refine kT ?_ (by assumption)))))⟩
     have yK:=gH.so
     have Hi:=gH.po
     have sG:=gH.fl
     have B9:0≤m' - ai e.2 m':=by grind
     have D4:0≤s' + ai e.2 m':=by grind
     have xr:s' + ai e.2 m' + (m' - ai e.2 m')=m:=by grind
     have xt:=(q6.kr (w':=w8) (by (with_reducible (repeat (first | assumption | exact kU _ | exact kR _ | exact Kp.of (U:=UU) (by assumption) | exact aF.of (by assumption) | refine kT ?_ (by assumption))))))
     have xu:aK w8 w.heap.size _ (s' + ai e.2 m'):=(q5.mono qG).kp (by (with_reducible (repeat (first | assumption | exact kU _ | exact kR _ | exact Kp.of (U:=UU) (by assumption) | exact aF.of (by assumption) | refine kT ?_ (by assumption)))))
     have Kr:cL (cG B) w8 ft fM:=qE.kp (aM B) (by (with_reducible (repeat (first | assumption | exact kU _ | exact kR _ | exact Kp.of (U:=UU) (by assumption) | exact aF.of (by assumption) | refine kT ?_ (by assumption)))))
     by_cases hz:e.2 - ai e.2 m'=0
     ·have qH:(jB == 0)=true:=by rw [←jC,hz];rfl
      refine VS.bD rfl qH ?_
      (repeat first|refine wN ?_|refine wP rfl ?_|refine af rfl ?_|refine ag rfl ?_|refine wO rfl rfl ?_)
      obtain ⟨e1,e2,e3⟩:=fK (y:=y) (p:=e) (q:=ft) hm hz
      rw [e1,←List.singleton_append,←List.append_assoc] at eU
      rw [e2] at eL
      rw [e3] at eS
      refine VO.iz rfl rfl (fk Tryz.func76) rfl (by omega) uJ uF (fun j hj=> ?_) (Nat.le_of_ble_eq_true rfl) (fun w9 k9 b9=>wV rfl ?_)
      ·rcases List.mem_cons.1 hj with rfl | hj
       ·intro h;cases h
       ·cases List.mem_singleton.1 hj
        intro h;cases h
      (repeat first|refine wN ?_|refine wP rfl ?_|refine af rfl ?_|refine ag rfl ?_|refine wO rfl rfl ?_)
      have hO9:cX (cG B) 5 w9 (n' - 1) (if c'=1 then aR else aR + 5) (c' - 1) (bK++[.int .i64 (e.1:Int),.bool s7,.slice p7 n7 c7,.bool t7,.slice y7 m7 d7]) fM ak ft:=⟨by rw [qy];rfl,mD iM,by rw [List.all_append,Hi];rfl,Kr.kp (aM B) (by (with_reducible (repeat (first | assumption | exact kU _ | exact kR _ | exact Kp.of (U:=UU) (by assumption) | exact aF.of (by assumption) | refine kT ?_ (by assumption))))),yK,by omega,by omega,mG sG⟩
      have jg:∀ (v8:AV) (wb:World),aF (KU UU) w9 wb→((n' - 1=0∧v8=.val (.pointer none))∨(n' - 1≠0∧v8=.km 155 (if c'=1 then aR else aR + 5)))→rY B D M w rv y q m yg Ai lV nc us0 (2 * ft.length + (if 0 < m' - ai e.2 m' then 1 else 0)) [(0,.box 154 0),(1,.val (.int .i64 (y:Int))),(5,.box 5 0),(6,.box 6 0),(7,.box 7 0),(8,v8)]
        ((154,(Runner,[.row 155 (if c'=1 then aR else aR + 5) (n' - 1) (c' - 1),.val rv,.row 47 0 (yg + 1) cap']))::(155,(cM,((bK++([.int .i64 (e.1:Int),.bool s7,.slice p7 n7 c7,.bool t7,.slice y7 m7 d7]:List Value))++(fM.flatten++ak)).map AV.val))::(5,(26,([.bool s6,.slice p6 n6 c6,.bool t6,.slice y6 m6 d6]:List Value).map .val))::(6,(26,([.bool false,.slice none 0 0,.bool false,.slice none 0 0]:List Value).map .val))::(7,(26,([.bool s5,.slice p5 n5 c5,.bool t5,.slice y5 m5 d5]:List Value).map .val))::[(47,(er,(lV++[[.int .i64 (e.1:Int),.int .i64 (y:Int),.bool s4,.slice p4 n4 c4,.bool t4,.slice y4 m4 d4]]:List (List Value)).flatten.map AV.val++eF))]) wb:=fun v8 wb kb Hk=>
       ⟨ft,_,_,_,_,fM,ak,m' - ai e.2 m',s' + ai e.2 m',[]++[(e.1,y,ai e.2 m')],v8,_,_,_,_,_,_,_,_,_,_,_,_,_,_,_,_,_,_,rfl,rfl,rfl,hO9.kp (aM B) (by (with_reducible (repeat (first | assumption | exact kU _ | exact kR _ | exact Kp.of (U:=UU) (by assumption) | exact aF.of (by assumption) | refine kT ?_ (by assumption))))),xt.k,xu.k,lp.sub o8,Hj.add o8,B9,D4,xr,fun p hp=>zB p (by simp [hp]),eU,eL,by rw [eS];grind,Hk,by simp at iU ⊢;split <;> omega,.inr ⟨_,_,_,_,rfl,rfl,xK.kp (by (with_reducible (repeat (first | assumption | exact kU _ | exact kR _ | exact Kp.of (U:=UU) (by assumption) | exact aF.of (by assumption) | refine kT ?_ (by assumption)))))⟩⟩
      have hlt:2 * ft.length + (if 0 < m' - ai e.2 m' then 1 else 0) < 2 * (e::ft).length + (if 0 < m' then 1 else 0):=by
       rw [if_pos hm,List.length_cons];split <;> omega
      by_cases sH:n' - 1=0
      ·refine VO.cY (x:=.row 155 (if c'=1 then aR else aR + 5) (n' - 1) (c' - 1)) (p:=fun _=>none) (c:=c' - 1) rfl (fun β=>.inr ⟨_,congrArg (fun n=>Value.slice (some ⟨β 155,(if c'=1 then aR else aR + 5),none⟩) n (c' - 1)) sH⟩) rfl (fk Tryz.func75) rfl (fun wb Hl Ks=>wV rfl ?_)
       (repeat first|refine wN ?_|refine wP rfl ?_|refine af rfl ?_|refine ag rfl ?_|refine wO rfl rfl ?_)
       refine VS.back _ hlt ⟨_,_,?_,?_,?_,?_,jg _ wb (by (with_reducible (repeat (first | assumption | exact kU _ | exact kR _ | exact Kp.of (U:=UU) (by assumption) | exact aF.of (by assumption) | refine kT ?_ (by assumption))))) (.inl ⟨sH,rfl⟩)⟩
       ·(repeat first|exact trivial|refine ⟨rfl,?_⟩)
       ·exact ⟨rfl,congrArg (fun l=>some (cM,l)) (dL _ _ _ _),rfl,rfl,rfl,congrArg (fun l=>some (er,l++eF)) (by simp),trivial⟩
       ·rfl
       ·exact ⟨.lit rfl,.vals _,.vals _,.vals _,.vals _,.append (.vals _) (.none dx),trivial⟩
      ·refine VO.cH rfl rfl (fk Tryz.func75) rfl sH (by intro h;cases h) (fun wb Hl Ks=>wV rfl ?_)
       (repeat first|refine wN ?_|refine wP rfl ?_|refine af rfl ?_|refine ag rfl ?_|refine wO rfl rfl ?_)
       refine VS.back _ hlt ⟨_,_,?_,?_,?_,?_,jg _ wb (by (with_reducible (repeat (first | assumption | exact kU _ | exact kR _ | exact Kp.of (U:=UU) (by assumption) | exact aF.of (by assumption) | refine kT ?_ (by assumption))))) (.inr ⟨sH,rfl⟩)⟩
       ·(repeat first|exact trivial|refine ⟨rfl,?_⟩)
       ·exact ⟨rfl,congrArg (fun l=>some (cM,l)) (dL _ _ _ _),rfl,rfl,rfl,congrArg (fun l=>some (er,l++eF)) (by simp),trivial⟩
       ·rfl
       ·exact ⟨.lit rfl,.vals _,.vals _,.vals _,.vals _,.append (.vals _) (.none dx),trivial⟩
     ·have qH:(jB == 0)=false:=by rw [←jC,beq_eq_false_iff_ne];exact vB hz
      refine VS.bt rfl qH ?_
      (repeat first|refine wN ?_|refine wP rfl ?_|refine af rfl ?_|refine ag rfl ?_|refine wO rfl rfl ?_)
      obtain ⟨e0,e1,e2,e3⟩:=fJ (y:=y) (p:=e) (q:=ft) hm hz
      refine VO.cH rfl rfl (fk Tryz.func75) rfl lC (by intro h;cases h) (fun wb Hl Ks=>wV rfl ?_)
      (repeat first|refine wN ?_|refine wP rfl ?_|refine af rfl ?_|refine ag rfl ?_|refine wO rfl rfl ?_)
      refine VS.back (2 * (e::ft).length + 0) (by rw [if_pos hm];omega) ⟨_,_,?_,?_,?_,?_,⟨(e.1,e.2 - ai e.2 m')::ft,aR,n',c',bK,[.int .i64 (e.1:Int),.bool s7,.slice p7 n7 c7,.bool t7,.slice y7 m7 d7]::fM,ak,m' - ai e.2 m',s' + ai e.2 m',[]++[(e.1,y,ai e.2 m')],.km 155 aR,_,_,_,_,_,_,_,_,_,_,_,_,_,_,_,_,_,_,by rw [if_neg e0];rfl,rfl,rfl,⟨qy,.inl iM,Hi,.cons ((aM B).kp hE7 (by (with_reducible (repeat (first | assumption | exact kU _ | exact kR _ | exact Kp.of (U:=UU) (by assumption) | exact aF.of (by assumption) | refine kT ?_ (by assumption)))))) (Kr.kp (aM B) (by (with_reducible (repeat (first | assumption | exact kU _ | exact kR _ | exact Kp.of (U:=UU) (by assumption) | exact aF.of (by assumption) | refine kT ?_ (by assumption)))))),yK,uJ,uF,by simpa using sG⟩,xt.k,xu.k,lp.sub o8,Hj.add o8,B9,D4,xr,fun p hp=> ?_,?_,?_,?_,.inr ⟨lC,rfl⟩,?_,.inr ⟨_,_,_,_,rfl,rfl,xK.kp (by (with_reducible (repeat (first | assumption | exact kU _ | exact kR _ | exact Kp.of (U:=UU) (by assumption) | exact aF.of (by assumption) | refine kT ?_ (by assumption)))))⟩⟩⟩
      ·(repeat first|exact trivial|refine ⟨rfl,?_⟩)
      ·exact ⟨rfl,rfl,rfl,rfl,rfl,congrArg (fun l=>some (er,l++eF)) (by simp),trivial⟩
      ·rfl
      ·exact ⟨.lit rfl,.vals _,.vals _,.vals _,.vals _,.append (.vals _) (.none dx),trivial⟩
      ·rcases List.mem_cons.1 hp with rfl | hp
       ·exact ⟨Kq,xN,Ko⟩
       ·exact zB p (by simp [hp])
      ·rw [eU,e1,gu y _ e0,List.append_nil]
      ·rw [eL,e2,fI _ e0]
      ·rw [eS,e3,gv _ e0];grind
      ·rw [if_neg e0];simp at iU ⊢;omega
    ·have jj:¬ sg > 0:=by rw [←jm];exact fun h=>hm (fb.1 h)
     refine VS.bt rfl (decide_eq_false jj) ?_
     have fU:=gu y (e::ft) hm
     have fL:=fI (e::ft) hm
     have fS:=gv (e::ft) hm
     (repeat first|refine wN ?_|refine wP rfl ?_|refine af rfl ?_|refine ag rfl ?_|refine wO rfl rfl ?_)
     refine VS.om (bj _ _) rfl (fun wz β kz oz en=> ?_)
     obtain ⟨o1,o2⟩:=ea (en.own 154 _ _ rfl) 0 g rfl rfl
     obtain ⟨o3,o4⟩:=ea (en.own 155 _ _ rfl) 1 b rfl rfl
     rw [ah] at o4
     replace o3:β 155=b:=o3
     rw [fU] at eU
     rw [fL] at eL
     rw [fS,show s' + 0=s' by grind] at eS
     obtain ⟨o5,o6⟩:=ea (en.own 156 _ _ rfl) 2 ub rfl rfl
     replace o5:β 156=ub:=o5
     rw [List.map_append,ah,ah] at o6
     refine ⟨_,rfl,?_,oz.1,oz.2 ub (by simp),aR,n',c',bK,_,ak,.slice (some ⟨ub,0,none⟩) yg Ai,?_,o4,?_,ub,yg,Ai,lV,nc,.inr rfl,rfl,o6,?_⟩
     ·rw [eS];exact ux.k
     ·rw [←o3,←o5];exact o2
     ·rw [eL];exact gH.kp (aM B) (by (with_reducible (repeat (first | assumption | exact kU _ | exact kR _ | exact Kp.of (U:=UU) (by assumption) | exact aF.of (by assumption) | refine kT ?_ (by assumption)))))
     ·rw [eU,List.nil_append,List.append_nil];exact Il.kp (dk B) (by (with_reducible (repeat (first | assumption | exact kU _ | exact kR _ | exact Kp.of (U:=UU) (by assumption) | exact aF.of (by assumption) | refine kT ?_ (by assumption)))))
  ·rcases Hk with ⟨lC,rfl⟩ | ⟨lC,rfl⟩
   ·have C5:q'=[]:=List.eq_nil_of_length_eq_zero (by rw [←gH.len];exact lC)
    subst C5
    have fU:nw y [] m'=[]:=rfl
    have fL:kP [] m'=[]:=rfl
    have fS:qO [] m'=0:=rfl
    (repeat first|refine wN ?_|refine wP rfl ?_|refine af rfl ?_|refine ag rfl ?_|refine wO rfl rfl ?_)
    refine VS.om (bj _ _) rfl (fun wz β kz oz en=> ?_)
    obtain ⟨o1,o2⟩:=ea (en.own 154 _ _ rfl) 0 g rfl rfl
    obtain ⟨o3,o4⟩:=ea (en.own 155 _ _ rfl) 1 b rfl rfl
    rw [ah] at o4
    replace o3:β 155=b:=o3
    rw [fU] at eU
    rw [fL] at eL
    rw [fS,show s' + 0=s' by grind] at eS
    have o5:=(en.own 47 _ _ rfl).new
    have o6:=(en.own 47 _ _ rfl).cls
    rw [List.map_append,ah] at o6
    have n1':β 47≠g:=fun e=>absurd (en.apart 154 47 (by intro h;cases h) (by intro h;cases h) (o1.trans e.symm)) (by decide)
    have n2':β 47≠b:=fun e=>absurd (en.apart 155 47 (by intro h;cases h) (by intro h;cases h) (o3.trans e.symm)) (by decide)
    have o7:w.heap.size≤β 47∨β 47=ub:=by
     have:=eN (show cA 77 [g,b,ub] w 47 (β 47) from o5)
     simpa [n1',n2'] using this
    refine ⟨_,rfl,?_,oz.1,oz.2 ub (by simp),aR,n',c',bK,gD,ak,.slice (some ⟨β 47,0,none⟩) un uc,?_,o4,?_,⟨β 47,un,uc,oy,qD.map (AV.leaf β),o7,rfl,o6,?_⟩⟩
    ·rw [eS];exact ux.k
    ·rw [←o3];exact o2
    ·rw [eL];exact gH.kp (aM B) (by (with_reducible (repeat (first | assumption | exact kU _ | exact kR _ | exact Kp.of (U:=UU) (by assumption) | exact aF.of (by assumption) | refine kT ?_ (by assumption)))))
    ·rw [eU,List.append_nil];exact (tw.kp (by (with_reducible (repeat (first | assumption | exact kU _ | exact kR _ | exact Kp.of (U:=UU) (by assumption) | exact aF.of (by assumption) | refine kT ?_ (by assumption)))))).o β
   ·obtain ⟨e,ft,rfl⟩:∃ e ft,q'=e::ft:=by
     cases q' with
     | nil=>exact absurd gH.len lC
     | cons e ft=>exact ⟨e,ft,rfl⟩
    obtain ⟨cs,fM,rfl,hE,qE⟩:∃ cs fM,gD=cs::fM∧cG B w' cs e∧cL (cG B) w' ft fM:=by
     have:=gH.el
     cases this with
     | cons h1 h2=>exact ⟨_,_,rfl,h1,h2⟩
    obtain ⟨s3,p3,n3,c3,t3,y3,m3,d3,rfl,Kn⟩:=hE
    have uJ:=gH.le
    have qy:=gH.len
    have uF:=gH.cm
    have iM:bK.length=aR:=gH.pl.resolve_right (by omega)
    obtain ⟨mY,zK,Fj⟩:=zB e (by simp)
    (repeat first|refine wN ?_|refine wP rfl ?_|refine af rfl ?_|refine ag rfl ?_|refine wO rfl rfl ?_)
    obtain ⟨sg,jm⟩:∃ sg,dJ m' 0=sg:=⟨_,rfl⟩
    refine VO.call rfl rfl (fk Tryz.func13) (fun cB ek du=>(bR _ m' kk cB (Dg.ki (hK m' lp tv oA)) (by omega) sg jm).mono ?_)
    rintro e w1 ⟨rfl,aV⟩
    skip
    refine ⟨_,rfl,aV,fun e9 _ bb1=>wV rfl ?_⟩
    (repeat first|refine wN ?_|refine wP rfl ?_|refine af rfl ?_|refine ag rfl ?_|refine wO rfl rfl ?_)
    by_cases hm:0 < m'
    ·have jj:sg > 0:=by rw [←jm];exact fb.2 hm
     rw [if_pos hm] at iU
     refine VS.bD rfl (decide_eq_true jj) ?_
     (repeat first|refine wN ?_|refine wP rfl ?_|refine af rfl ?_|refine ag rfl ?_|refine wO rfl rfl ?_)
     refine VO.df rfl (([.bool s3,.slice p3 n3 c3,.bool t3,.slice y3 m3 d3]:List Value).map .val) rfl (bg iM 1 _ ⟨[],rfl⟩) (wV rfl ?_)
     (repeat first|refine wN ?_|refine wP rfl ?_|refine af rfl ?_|refine ag rfl ?_|refine wO rfl rfl ?_)
     have pQ:=cQ e.2 m'
     have Ez:0≤ai e.2 m':=by rcases pQ with ⟨h,_⟩ | ⟨h,_⟩ <;> rw [h] <;> assumption
     have o8:Iz D (ai e.2 m'):=by rcases pQ with ⟨h,_⟩ | ⟨h,_⟩ <;> rw [h] <;> assumption
     have yP:=dh e.2 m'
     have vp:=bZ e.2 m'
     have lD:=hK _ o8 Ez (Rat.le_trans vp oA)
     refine VO.fG rfl (fk Tryz.func71) (fun dB β gp et ho=>((fH _ _ e.2 [m'] kk dB (Kn.rd.ki (hK e.2 mY zK Fj)) (dV (ho.own 31 (.base (List.mem_singleton.2 rfl)) _ _ rfl) [] (vs:=[[.bool s1,.slice p1 n1 c1,.bool t1,.slice y1 m1 d1]]) (by rfl) rfl (bX.cons (Dg.ki (hK m' lp tv oA)) bX.nil) (Nat.le_of_ble_eq_true rfl) (by decide)) (by omega) (Nat.le_of_ble_eq_true rfl)).mono (fun o w2 h=>And.intro h et.1.size)).mono ?_)
     rintro o w2 ⟨⟨r4,rfl,q4,z4,bl⟩,qF⟩
     rw [gQ] at q4
     have xq:aK w2 w.heap.size r4 (ai e.2 m'):=q4.mono qF
     obtain ⟨s4,p4,n4,c4,t4,y4,m4,d4,rfl⟩:=xq.form
     refine ⟨_,rfl,bl,fun fX _ bb2=>wV rfl ?_⟩
     (repeat first|refine wN ?_|refine wP rfl ?_|refine af rfl ?_|refine ag rfl ?_|refine wO rfl rfl ?_)
     refine VO.df rfl (([.int .i64 (e.1:Int)]:List Value).map .val) rfl (bg iM 0 _ ⟨_,rfl⟩) (wV rfl ?_)
     (repeat first|refine wN ?_|refine wP rfl ?_|refine af rfl ?_|refine ag rfl ?_|refine wO rfl rfl ?_)
     obtain ⟨vm,vo⟩:=tw.el.ok (dk B)
     have Db:=tw.len
     refine VO.app (bj _ _) (t:=34) (e:=er) (sz:=6) (n:=un) (c:=uc) (mm:=1) (known:=oy.flatten.map .val) (spare:=qD) (del:=some 47) (news:=([.int .i64 (e.1:Int),.int .i64 (y:Int),.bool s4,.slice p4 n4 c4,.bool t4,.slice y4 m4 d4]:List Value).map .val) (dst:=47) rfl rfl rfl rfl rfl rfl rfl rfl (Nat.le_of_ble_eq_true rfl) rfl (.inr ⟨47,rfl,rfl,rfl⟩) (.inr rfl) (by rw [List.length_map,vo,Db]) tw.fl tw.le tw.cm ⟨ao _,tw.sl,rfl⟩ ⟨ba vm,tw.so,rfl⟩ rfl (by simp only [List.length_append,List.length_cons] at Db iU jt ⊢;omega)
      (fun w1 β k1 b1 ho=>⟨_,_,rfl,.inr ⟨β 46,0,rfl,cJ (rest:=[]) (ho.own 46 (.base (List.mem_append_right _ (List.mem_singleton.2 rfl))) _ _ rfl) rfl⟩⟩)
      (fun nv cap' eF ρ FH FI fy jb gj eb mC dx=>VO.fo 155 rfl (dR (ao _) _ _) (wV rfl ?_))
     (repeat first|refine wN ?_|refine wP rfl ?_|refine af rfl ?_|refine ag rfl ?_|refine wO rfl rfl ?_)
     have xK:uL B nv (un + 1) cap' (oy++[[.int .i64 (e.1:Int),.int .i64 (y:Int),.bool s4,.slice p4 n4 c4,.bool t4,.slice y4 m4 d4]]:List (List Value)) eF (us0++(done++[(e.1,y,ai e.2 m')])):=⟨by simp [Db] <;> omega,by simpa [List.append_assoc] using ((tw.el.kp (dk B) (by (with_reducible (repeat (first | assumption | exact kU _ | exact kR _ | exact Kp.of (U:=UU) (by assumption) | exact aF.of (by assumption) | refine kT ?_ (by assumption)))))).snoc (show nb B nv [.int .i64 (e.1:Int),.int .i64 (y:Int),.bool s4,.slice p4 n4 c4,.bool t4,.slice y4 m4 d4] (e.1,y,ai e.2 m') from ⟨s4,p4,n4,c4,t4,y4,m4,d4,rfl,(xq.mono hB).kp (by (with_reducible (repeat (first | assumption | exact kU _ | exact kR _ | exact Kp.of (U:=UU) (by assumption) | exact aF.of (by assumption) | refine kT ?_ (by assumption)))))⟩)),mC,dx,jb,gj,by simpa using eb⟩
     refine VO.call rfl rfl (fk Tryz.func16) (fun j9 mw kj=>((dw _ _ s' (ai e.2 m') kk kk j9 (ux.rd.ki (hK s' Hj hs0 hsM)) (xq.rd.ki lD) (by omega) (by omega)).mono (fun o w2 h=>And.intro h kj.1.size)).mono ?_)
     rintro o w5 ⟨⟨r5,rfl,q5,gg⟩,qG⟩
     obtain ⟨s5,p5,n5,c5,t5,y5,m5,d5,rfl⟩:=q5.form
     refine ⟨_,rfl,gg,fun na _ wX=>wV rfl ?_⟩
     (repeat first|refine wN ?_|refine wP rfl ?_|refine af rfl ?_|refine ag rfl ?_|refine wO rfl rfl ?_)
     refine VO.call rfl rfl (fk Tryz.func72) (fun pz uh tn=>(bV _ _ m' (ai e.2 m') kk kk pz (Dg.ki (hK m' lp tv oA)) (xq.rd.ki lD) (by omega) (by omega)).mono ?_)
     rintro e w6 ⟨r6,rfl,q6,mO⟩
     obtain ⟨s6,p6,n6,c6,t6,y6,m6,d6,rfl⟩:=q6.form
     refine ⟨_,rfl,mO,fun tp _ Cp=>wV rfl ?_⟩
     (repeat first|refine wN ?_|refine wP rfl ?_|refine af rfl ?_|refine ag rfl ?_|refine wO rfl rfl ?_)
     refine VO.df rfl (([.bool s3,.slice p3 n3 c3,.bool t3,.slice y3 m3 d3]:List Value).map .val) rfl (bg iM 1 _ ⟨[],rfl⟩) (wV rfl ?_)
     (repeat first|refine wN ?_|refine wP rfl ?_|refine af rfl ?_|refine ag rfl ?_|refine wO rfl rfl ?_)
     refine VO.call rfl rfl (fk Tryz.func72) (fun yd Df xP=>((bV _ _ e.2 (ai e.2 m') kk kk yd (Kn.rd.ki (hK e.2 mY zK Fj)) (xq.rd.ki lD) (by omega) (by omega)).mono (fun o w2 h=>And.intro h xP.1.size)).mono ?_)
     rintro o w7 ⟨⟨r7,rfl,q7,uI⟩,EA⟩
     obtain ⟨s7,p7,n7,c7,t7,y7,m7,d7,rfl⟩:=q7.form
     refine ⟨_,rfl,uI,fun yZ _ bb7=>wV rfl ?_⟩
     (repeat first|refine wN ?_|refine wP rfl ?_|refine af rfl ?_|refine ag rfl ?_|refine wO rfl rfl ?_)
     refine VO.cond rfl (by show aR + 1 + 4≤_;rw [List.length_map,List.length_append,List.length_append,List.flatten_cons,List.length_append,iM];show aR + 1 + 4≤aR + (6 - 1 + _ + _);omega) (VO.fo 155 rfl (rW iM) (wV rfl ?_))
     (repeat first|refine wN ?_|refine wP rfl ?_|refine af rfl ?_|refine ag rfl ?_|refine wO rfl rfl ?_)
     refine VO.df rfl (([.bool s7,.slice p7 n7 c7,.bool t7,.slice y7 m7 d7]:List Value).map .val) rfl (bg iM 1 _ ⟨[],rfl⟩) (wV rfl ?_)
     (repeat first|refine wN ?_|refine wP rfl ?_|refine af rfl ?_|refine ag rfl ?_|refine wO rfl rfl ?_)
     have xN:0≤e.2 - ai e.2 m':=by grind
     have Ko:e.2 - ai e.2 m'≤M:=by grind
     have Kq:Iz D (e.2 - ai e.2 m'):=mY.sub o8
     obtain ⟨jB,jC⟩:∃ jB,dJ (e.2 - ai e.2 m') 0=jB:=⟨_,rfl⟩
     refine VO.call rfl rfl (fk Tryz.func13) (fun uK Ei za=>(bR _ (e.2 - ai e.2 m') kk uK (q7.ki (hK _ Kq xN Ko)) (by omega) jB jC).mono ?_)
     rintro e w8 ⟨rfl,qM⟩
     skip
     refine ⟨_,rfl,qM,fun vz _ Ii=>wV rfl ?_⟩
     (repeat first|refine wN ?_|refine wP rfl ?_|refine af rfl ?_|refine ag rfl ?_|refine wO rfl rfl ?_)
     have hE7:cG B w8 [.int .i64 (e.1:Int),.bool s7,.slice p7 n7 c7,.bool t7,.slice y7 m7 d7] (e.1,e.2 - ai e.2 m'):=⟨s7,p7,n7,c7,t7,y7,m7,d7,rfl,(q7.mono (Nat.le_trans hB EA)).kp (by (with_reducible (repeat (first | assumption | exact kU _ | exact kR _ | exact Kp.of (U:=UU) (by assumption) | exact aF.of (by assumption) | refine kT ?_ (by assumption)))))⟩
     have yK:=gH.so
     have Hi:=gH.po
     have sG:=gH.fl
     have B9:0≤m' - ai e.2 m':=by grind
     have D4:0≤s' + ai e.2 m':=by grind
     have xr:s' + ai e.2 m' + (m' - ai e.2 m')=m:=by grind
     have xt:=(q6.kr (w':=w8) (by (with_reducible (repeat (first | assumption | exact kU _ | exact kR _ | exact Kp.of (U:=UU) (by assumption) | exact aF.of (by assumption) | refine kT ?_ (by assumption))))))
     have xu:aK w8 w.heap.size _ (s' + ai e.2 m'):=(q5.mono qG).kp (by (with_reducible (repeat (first | assumption | exact kU _ | exact kR _ | exact Kp.of (U:=UU) (by assumption) | exact aF.of (by assumption) | refine kT ?_ (by assumption)))))
     have Kr:cL (cG B) w8 ft fM:=qE.kp (aM B) (by (with_reducible (repeat (first | assumption | exact kU _ | exact kR _ | exact Kp.of (U:=UU) (by assumption) | exact aF.of (by assumption) | refine kT ?_ (by assumption)))))
     by_cases hz:e.2 - ai e.2 m'=0
     ·have qH:(jB == 0)=true:=by rw [←jC,hz];rfl
      refine VS.bD rfl qH ?_
      (repeat first|refine wN ?_|refine wP rfl ?_|refine af rfl ?_|refine ag rfl ?_|refine wO rfl rfl ?_)
      obtain ⟨e1,e2,e3⟩:=fK (y:=y) (p:=e) (q:=ft) hm hz
      rw [e1,←List.singleton_append,←List.append_assoc] at eU
      rw [e2] at eL
      rw [e3] at eS
      refine VO.iz rfl rfl (fk Tryz.func76) rfl (by omega) uJ uF (fun j hj=> ?_) (Nat.le_of_ble_eq_true rfl) (fun w9 k9 b9=>wV rfl ?_)
      ·rcases List.mem_cons.1 hj with rfl | hj
       ·intro h;cases h
       ·cases List.mem_singleton.1 hj
        intro h;cases h
      (repeat first|refine wN ?_|refine wP rfl ?_|refine af rfl ?_|refine ag rfl ?_|refine wO rfl rfl ?_)
      have hO9:cX (cG B) 5 w9 (n' - 1) (if c'=1 then aR else aR + 5) (c' - 1) (bK++[.int .i64 (e.1:Int),.bool s7,.slice p7 n7 c7,.bool t7,.slice y7 m7 d7]) fM ak ft:=⟨by rw [qy];rfl,mD iM,by rw [List.all_append,Hi];rfl,Kr.kp (aM B) (by (with_reducible (repeat (first | assumption | exact kU _ | exact kR _ | exact Kp.of (U:=UU) (by assumption) | exact aF.of (by assumption) | refine kT ?_ (by assumption))))),yK,by omega,by omega,mG sG⟩
      have jg:∀ (v8:AV) (wb:World),aF (KU UU) w9 wb→((n' - 1=0∧v8=.val (.pointer none))∨(n' - 1≠0∧v8=.km 155 (if c'=1 then aR else aR + 5)))→rY B D M w rv y q m yg Ai lV nc us0 (2 * ft.length + (if 0 < m' - ai e.2 m' then 1 else 0)) [(0,.box 154 0),(1,.val (.int .i64 (y:Int))),(5,.box 5 0),(6,.box 6 0),(7,.box 7 0),(8,v8)]
        ((154,(Runner,[.row 155 (if c'=1 then aR else aR + 5) (n' - 1) (c' - 1),.val rv,.row 47 0 (un + 1) cap']))::(155,(cM,((bK++([.int .i64 (e.1:Int),.bool s7,.slice p7 n7 c7,.bool t7,.slice y7 m7 d7]:List Value))++(fM.flatten++ak)).map AV.val))::(5,(26,([.bool s6,.slice p6 n6 c6,.bool t6,.slice y6 m6 d6]:List Value).map .val))::(6,(26,([.bool false,.slice none 0 0,.bool false,.slice none 0 0]:List Value).map .val))::(7,(26,([.bool s5,.slice p5 n5 c5,.bool t5,.slice y5 m5 d5]:List Value).map .val))::[(47,(er,(oy++[[.int .i64 (e.1:Int),.int .i64 (y:Int),.bool s4,.slice p4 n4 c4,.bool t4,.slice y4 m4 d4]]:List (List Value)).flatten.map AV.val++eF))]) wb:=fun v8 wb kb Hk=>
       ⟨ft,_,_,_,_,fM,ak,m' - ai e.2 m',s' + ai e.2 m',done++[(e.1,y,ai e.2 m')],v8,_,_,_,_,_,_,_,_,_,_,_,_,_,_,_,_,_,_,rfl,rfl,rfl,hO9.kp (aM B) (by (with_reducible (repeat (first | assumption | exact kU _ | exact kR _ | exact Kp.of (U:=UU) (by assumption) | exact aF.of (by assumption) | refine kT ?_ (by assumption))))),xt.k,xu.k,lp.sub o8,Hj.add o8,B9,D4,xr,fun p hp=>zB p (by simp [hp]),eU,eL,by rw [eS];grind,Hk,by simp at iU ⊢;split <;> omega,.inr ⟨_,_,_,_,rfl,rfl,xK.kp (by (with_reducible (repeat (first | assumption | exact kU _ | exact kR _ | exact Kp.of (U:=UU) (by assumption) | exact aF.of (by assumption) | refine kT ?_ (by assumption)))))⟩⟩
      have hlt:2 * ft.length + (if 0 < m' - ai e.2 m' then 1 else 0) < 2 * (e::ft).length + (if 0 < m' then 1 else 0):=by
       rw [if_pos hm,List.length_cons];split <;> omega
      by_cases sH:n' - 1=0
      ·refine VO.cY (x:=.row 155 (if c'=1 then aR else aR + 5) (n' - 1) (c' - 1)) (p:=fun _=>none) (c:=c' - 1) rfl (fun β=>.inr ⟨_,congrArg (fun n=>Value.slice (some ⟨β 155,(if c'=1 then aR else aR + 5),none⟩) n (c' - 1)) sH⟩) rfl (fk Tryz.func75) rfl (fun wb Hl Ks=>wV rfl ?_)
       (repeat first|refine wN ?_|refine wP rfl ?_|refine af rfl ?_|refine ag rfl ?_|refine wO rfl rfl ?_)
       refine VS.back _ hlt ⟨_,_,?_,?_,?_,?_,jg _ wb (by (with_reducible (repeat (first | assumption | exact kU _ | exact kR _ | exact Kp.of (U:=UU) (by assumption) | exact aF.of (by assumption) | refine kT ?_ (by assumption))))) (.inl ⟨sH,rfl⟩)⟩
       ·(repeat first|exact trivial|refine ⟨rfl,?_⟩)
       ·exact ⟨rfl,congrArg (fun l=>some (cM,l)) (dL _ _ _ _),rfl,rfl,rfl,congrArg (fun l=>some (er,l++eF)) (by simp),trivial⟩
       ·rfl
       ·exact ⟨.lit rfl,.vals _,.vals _,.vals _,.vals _,.append (.vals _) (.none dx),trivial⟩
      ·refine VO.cH rfl rfl (fk Tryz.func75) rfl sH (by intro h;cases h) (fun wb Hl Ks=>wV rfl ?_)
       (repeat first|refine wN ?_|refine wP rfl ?_|refine af rfl ?_|refine ag rfl ?_|refine wO rfl rfl ?_)
       refine VS.back _ hlt ⟨_,_,?_,?_,?_,?_,jg _ wb (by (with_reducible (repeat (first | assumption | exact kU _ | exact kR _ | exact Kp.of (U:=UU) (by assumption) | exact aF.of (by assumption) | refine kT ?_ (by assumption))))) (.inr ⟨sH,rfl⟩)⟩
       ·(repeat first|exact trivial|refine ⟨rfl,?_⟩)
       ·exact ⟨rfl,congrArg (fun l=>some (cM,l)) (dL _ _ _ _),rfl,rfl,rfl,congrArg (fun l=>some (er,l++eF)) (by simp),trivial⟩
       ·rfl
       ·exact ⟨.lit rfl,.vals _,.vals _,.vals _,.vals _,.append (.vals _) (.none dx),trivial⟩
     ·have qH:(jB == 0)=false:=by rw [←jC,beq_eq_false_iff_ne];exact vB hz
      refine VS.bt rfl qH ?_
      (repeat first|refine wN ?_|refine wP rfl ?_|refine af rfl ?_|refine ag rfl ?_|refine wO rfl rfl ?_)
      obtain ⟨e0,e1,e2,e3⟩:=fJ (y:=y) (p:=e) (q:=ft) hm hz
      refine VO.cH rfl rfl (fk Tryz.func75) rfl lC (by intro h;cases h) (fun wb Hl Ks=>wV rfl ?_)
      (repeat first|refine wN ?_|refine wP rfl ?_|refine af rfl ?_|refine ag rfl ?_|refine wO rfl rfl ?_)
      refine VS.back (2 * (e::ft).length + 0) (by rw [if_pos hm];omega) ⟨_,_,?_,?_,?_,?_,⟨(e.1,e.2 - ai e.2 m')::ft,aR,n',c',bK,[.int .i64 (e.1:Int),.bool s7,.slice p7 n7 c7,.bool t7,.slice y7 m7 d7]::fM,ak,m' - ai e.2 m',s' + ai e.2 m',done++[(e.1,y,ai e.2 m')],.km 155 aR,_,_,_,_,_,_,_,_,_,_,_,_,_,_,_,_,_,_,by rw [if_neg e0];rfl,rfl,rfl,⟨qy,.inl iM,Hi,.cons ((aM B).kp hE7 (by (with_reducible (repeat (first | assumption | exact kU _ | exact kR _ | exact Kp.of (U:=UU) (by assumption) | exact aF.of (by assumption) | refine kT ?_ (by assumption)))))) (Kr.kp (aM B) (by (with_reducible (repeat (first | assumption | exact kU _ | exact kR _ | exact Kp.of (U:=UU) (by assumption) | exact aF.of (by assumption) | refine kT ?_ (by assumption)))))),yK,uJ,uF,by simpa using sG⟩,xt.k,xu.k,lp.sub o8,Hj.add o8,B9,D4,xr,fun p hp=> ?_,?_,?_,?_,.inr ⟨lC,rfl⟩,?_,.inr ⟨_,_,_,_,rfl,rfl,xK.kp (by (with_reducible (repeat (first | assumption | exact kU _ | exact kR _ | exact Kp.of (U:=UU) (by assumption) | exact aF.of (by assumption) | refine kT ?_ (by assumption)))))⟩⟩⟩
      ·(repeat first|exact trivial|refine ⟨rfl,?_⟩)
      ·exact ⟨rfl,rfl,rfl,rfl,rfl,congrArg (fun l=>some (er,l++eF)) (by simp),trivial⟩
      ·rfl
      ·exact ⟨.lit rfl,.vals _,.vals _,.vals _,.vals _,.append (.vals _) (.none dx),trivial⟩
      ·rcases List.mem_cons.1 hp with rfl | hp
       ·exact ⟨Kq,xN,Ko⟩
       ·exact zB p (by simp [hp])
      ·rw [eU,e1,gu y _ e0,List.append_nil]
      ·rw [eL,e2,fI _ e0]
      ·rw [eS,e3,gv _ e0];grind
      ·rw [if_neg e0];simp at iU ⊢;omega
    ·have jj:¬ sg > 0:=by rw [←jm];exact fun h=>hm (fb.1 h)
     refine VS.bt rfl (decide_eq_false jj) ?_
     have fU:=gu y (e::ft) hm
     have fL:=fI (e::ft) hm
     have fS:=gv (e::ft) hm
     (repeat first|refine wN ?_|refine wP rfl ?_|refine af rfl ?_|refine ag rfl ?_|refine wO rfl rfl ?_)
     refine VS.om (bj _ _) rfl (fun wz β kz oz en=> ?_)
     obtain ⟨o1,o2⟩:=ea (en.own 154 _ _ rfl) 0 g rfl rfl
     obtain ⟨o3,o4⟩:=ea (en.own 155 _ _ rfl) 1 b rfl rfl
     rw [ah] at o4
     replace o3:β 155=b:=o3
     rw [fU] at eU
     rw [fL] at eL
     rw [fS,show s' + 0=s' by grind] at eS
     have o5:=(en.own 47 _ _ rfl).new
     have o6:=(en.own 47 _ _ rfl).cls
     rw [List.map_append,ah] at o6
     have n1':β 47≠g:=fun e=>absurd (en.apart 154 47 (by intro h;cases h) (by intro h;cases h) (o1.trans e.symm)) (by decide)
     have n2':β 47≠b:=fun e=>absurd (en.apart 155 47 (by intro h;cases h) (by intro h;cases h) (o3.trans e.symm)) (by decide)
     have o7:w.heap.size≤β 47∨β 47=ub:=by
      have:=eN (show cA 77 [g,b,ub] w 47 (β 47) from o5)
      simpa [n1',n2'] using this
     refine ⟨_,rfl,?_,oz.1,oz.2 ub (by simp),aR,n',c',bK,_,ak,.slice (some ⟨β 47,0,none⟩) un uc,?_,o4,?_,⟨β 47,un,uc,oy,qD.map (AV.leaf β),o7,rfl,o6,?_⟩⟩
     ·rw [eS];exact ux.k
     ·rw [←o3];exact o2
     ·rw [eL];exact gH.kp (aM B) (by (with_reducible (repeat (first | assumption | exact kU _ | exact kR _ | exact Kp.of (U:=UU) (by assumption) | exact aF.of (by assumption) | refine kT ?_ (by assumption)))))
     ·rw [eU,List.append_nil];exact (tw.kp (by (with_reducible (repeat (first | assumption | exact kU _ | exact kR _ | exact Kp.of (U:=UU) (by assumption) | exact aF.of (by assumption) | refine kT ?_ (by assumption)))))).o β
end Go.Proofs.YtabalinjfgcfeaaGreat
set_option maxRecDepth 4000
namespace Go.Proofs.YtabalinjfgcfeaaGreat
open Go.RowKit
attribute [local irreducible] aB VS
theorem Ku {v off n c:Nat} {a y:AV} (h:aH a=true) (hy:aH y=true):[.row v off n c,a,y].all aH=true:=by
 rw [List.all_cons,List.all_cons,List.all_cons,h,hy];rfl
theorem xw {v off n c j:Nat} {a y:AV} (h:j∈ax [.row v off n c,a,y]):j=v∨j∈ax [a]∨j∈y.cK:=by
 obtain ⟨z,hz,hj⟩:=aQ.1 h
 simp only [List.mem_cons,List.not_mem_nil,or_false] at hz
 rcases hz with rfl | rfl | rfl
 ·exact .inl (by simpa [AV.cK] using hj)
 ·exact .inr (.inl (aQ.2 ⟨_,by simp,hj⟩))
 ·exact .inr (.inr hj)
theorem Ak {C:Cx} {β bF:Nat→Nat} {H:Hp} {ids:List Nat} {del:Option Nat} {ups:List (Nat×(TypeId×List AV))} {ad:List Nat} {w w':World} (hb:qn ad w w') (had:∀ b∈ad,(∃ x∈ups,bF x.1=b)∨∃ i,del=some i∧β i=b) (Fb:∀ i,i∉ups.map (·.1)→bF i=β i) (gone:∀ i,del=some i→Reach H ids i∧H i≠none)
  (left:∀ i,del=some i→∃ t cs,aW w' (β i) t (List.toArray cs)∧C.K.fz t=false∧cs.all aU=true) (own:∀ x∈ups,lL C bF w' x.1 x.2.1 x.2.2)
  (GC:∀ x∈ups,(H x.1≠none∧del≠some x.1∧Reach H ids x.1∧bF x.1=β x.1)∨((H x.1=none∨del=some x.1)∧x.1 < 2 * C.N∧(w.heap.size≤bF x.1∨∃ i,del=some i∧bF x.1=β i)))
  (once:(ups.map (·.1)).Nodup) (tys:(ups.map (·.2.1)).Nodup) (closed:∀ x∈ups,∀ j∈ax x.2.2,j∈ups.map (·.1)∨(H j≠none∧del≠some j)):wu C β bF H ids del ups w w':=by
 refine ⟨hb.os,hb.tape,hb.output,hb.size,fun k hk hx iU _=>hb.mX k hk fun hm=> ?_,Fb,gone,fun i hi=>.inl (.inr (left i hi)),own,GC,once,fun x hx y hy he=> ?_,closed⟩
 ·rcases had k hm with ⟨x,hx',e⟩ | ⟨i,hi,e⟩
  ·exact hx x hx' e.symm
  ·exact iU i hi e.symm
 ·have ht:x.2.1=y.2.1:=bn (own x hx).cls (he▸(own y hy).cls)
  obtain ⟨i,hi⟩:=List.mem_iff_getElem?.1 hx
  obtain ⟨j,hj⟩:=List.mem_iff_getElem?.1 hy
  have e1:(ups.map (·.2.1))[i]? =some x.2.1:=by rw [List.getElem?_map,hi];rfl
  have e2:(ups.map (·.2.1))[j]? =some x.2.1:=by rw [List.getElem?_map,hj,ht];rfl
  have:=(List.getElem?_inj (by rw [List.length_map];exact (List.getElem?_eq_some_iff.1 hi).1) tys).1 (e1.trans e2.symm)
  subst this
  rw [hi] at hj
  cases hj;rfl
theorem Hm (g y kk:Nat) (r u v:Value) (m:Rat) (w:World) (hg:aW w g Runner #[.slice none 0 0,r,u]) (hv:cP w v m):
  Calls Tryz.prog 73 #[.pointer (some ⟨g,0,none⟩),.int .i64 (y:Int),v] w fun o w'=>∃ x,o=.returned x∧aK w' w.heap.size x 0∧aj w w':=by
 obtain ⟨s0,p0,n0,c0,t0,y0,m0,d0,rfl⟩:=hv.form
 refine aw (C:=cf Tryz.prog w _) (args:=[_,_,_]) Tryz.func73 rfl Tryz.ntmps73 (Nat.le_of_ble_eq_true rfl) ?_
 (repeat first|refine wN ?_|refine wP rfl ?_|refine aa rfl ?_|refine ab rfl ?_|refine wO rfl rfl ?_)
 refine VO.call rfl rfl (fk Tryz.func44) (fun cB ek du=>((bE 0 cB (by omega) (by omega)).mono (fun o w2 h=>And.intro h du.size)).mono ?_)
 rintro o w1 ⟨⟨r9,rfl,q9,E6⟩,Ey⟩
 obtain ⟨s9,p9,n9,c9,t9,y9,m9,d9,rfl⟩:=q9.form
 refine ⟨_,rfl,E6,fun AK _ bb9=>wV rfl ?_⟩
 (repeat first|refine wN ?_|refine wP rfl ?_|refine aa rfl ?_|refine ab rfl ?_|refine wO rfl rfl ?_)
 have q9':aK w1 w.heap.size (.agg #[.bool s9,.slice p9 n9 c9,.bool t9,.slice y9 m9 d9]) 0:=q9.mono Ey
 refine VO.call rfl rfl (fk Tryz.func75) (fun dB gp et=>(uw g 0 none r u dB (hg.bh et)).mono ?_)
 rintro e w2 ⟨rfl,bl⟩
 skip
 refine ⟨_,rfl,bl,fun fX _ bb2=>wV rfl ?_⟩
 (repeat first|refine wN ?_|refine wP rfl ?_|refine aa rfl ?_|refine ab rfl ?_|refine wO rfl rfl ?_)
 refine VS.loop (J:=fun m L M w'=>L=[(1,.val (.int .i64 (y:Int))),(5,.box 5 0),(6,.box 6 0),(7,.box 7 0),(8,.val (.pointer none))]∧M=[(5,(26,([.bool s0,.slice p0 n0 c0,.bool t0,.slice y0 m0 d0]:List Value).map .val)),(6,(26,([.bool false,.slice none 0 0,.bool false,.slice none 0 0]:List Value).map .val)),(7,(26,([.bool s9,.slice p9 n9 c9,.bool t9,.slice y9 m9 d9]:List Value).map .val))]∧aK w' w.heap.size (.agg #[.bool s9,.slice p9 n9 c9,.bool t9,.slice y9 m9 d9]) 0) 0 ⟨_,_,?_,?_,?_,?_,⟨rfl,rfl,q9'.k⟩⟩ ?_
 ·(repeat first|exact trivial|refine ⟨rfl,?_⟩)
 ·(repeat first|exact trivial|refine ⟨rfl,?_⟩)
 ·rfl
 ·(repeat first|exact trivial|refine ⟨aG.lit rfl,?_⟩|refine ⟨aG.vals _,?_⟩)
 rintro m' L M w3 ⟨rfl,rfl,hr3⟩
 (repeat first|refine wN ?_|refine wP rfl ?_|refine aa rfl ?_|refine ab rfl ?_|refine wO rfl rfl ?_)
 refine VS.ret (aL _ _) rfl rfl (fun wz kz bz=> ?_)
 exact ⟨_,rfl,hr3.k,bz⟩
end Go.Proofs.YtabalinjfgcfeaaGreat
namespace Go.Proofs.YtabalinjfgcfeaaGreat
open Go.RowKit
section
variable {C:Cx} {F:Fr} {H:Hp} {w:World} {m:Option (List FuncId)} {full:Array Oper} {K:Fr→Hp→World→Prop} {o:Oper} {r:List Oper}
theorem VO.rZ {B i y:Nat} {a u:AV} {val:Value} {mm:Rat} (kk:Nat) (hP:C.P=Tryz.prog) (e:stepOf C full F H o=.call (.fn 73 [.box i 0,.val (.int .i64 (y:Int)),.val val])) (hf:nQ C.P 73) (h1:H i=some (Runner,[.val (.slice none 0 0),a,u])) (hv:∀ w1,aF C.K w w1→C.Old w1→cP w1 val mm) (hB:B≤C.w0.heap.size)
  (k:∀ w2 x,aF C.K w w2→C.Old w2→aK w2 B x 0→aB C m full r K (F.bC o.dst (.val x)) H w2):aB C m full (o::r) K F H w:=by
 refine VO.fG e hf fun w1 β a1 a2 a3=> ?_
 have o1:=a3.own i (.base (by simp [fw,AV.ids])) _ _ h1
 refine Calls.mono (show Calls C.P _ #[.pointer (some ⟨β i,0,none⟩),.int .i64 (y:Int),val] w1 _ from hP▸Hm (β i) y kk _ _ val mm w1 o1.cls (hv w1 a1 a2)) ?_
 rintro e w2 ⟨x,rfl,hx,hb⟩
 exact ⟨_,rfl,hb,fun b1 b2 b3=>k w2 x b1 b3 (hx.mono (Nat.le_trans hB (C.ew _ a2)))⟩
theorem VO.CH {B D i v d2 off n c y:Nat} {M mm:Rat} {a:AV} {pre spare:List Value} {vs:List (List Value)} {q:List Vq} {val:Value} (kk:Nat) (hP:C.P=Tryz.prog) (hK:C.K=KU UU)
  (e:stepOf C full F H o=.call (.fn 73 [.box i 0,.val (.int .i64 (y:Int)),.val val])) (hf:nQ C.P 73) (h1:H i=some (Runner,[.row v off n c,a,.val (.slice none 0 0)])) (h2:H v=some (cM,(pre++(vs.flatten++spare)).map .val)) (h3:H d2=none) (hd2:d2 < 2 * C.N) (hiv:i≠v) (haok:aH a=true) (Kv:∀ β:Nat→Nat,aU (a.leaf β)=true)
  (gn:∀ j∈ax [a],H j≠none) (hl:1≤lvl C.SU m o) (hO:∀ w1,aF C.K w w1→C.Old w1→cX (cG B) 5 w1 n off c pre vs spare q) (hv:∀ w1,aF C.K w w1→C.Old w1→cP w1 val mm) (hmI:Iz D mm) (yf:0≤mm) (hmM:mm≤M) (hq:∀ p∈q,Iz D p.2∧0≤p.2∧p.2≤M)
  (hKs:∀ x,Iz D x→0≤x→x≤M→dQ x kk) (hk:kk≤100000) (jt:q.length≤1000) (hB:B≤C.w0.heap.size)
  (k1:∀ w2 x aR n' c' bK gD ak,aF C.K w w2→C.Old w2→aK w2 B x (qO q mm)→nw y q mm=[]→cX (cG B) 5 w2 n' aR c' bK gD ak (kP q mm)→
   aB C m full r K (F.bC o.dst (.val x)) ((H.put i (Runner,[.row v aR n' c',a,.val (.slice none 0 0)])).put v (cM,(bK++(gD.flatten++ak)).map .val)) w2)
  (k2:∀ w2 x aR n' c' bK gD ak un uc oy qD,aF C.K w w2→C.Old w2→aK w2 B x (qO q mm)→cX (cG B) 5 w2 n' aR c' bK gD ak (kP q mm)→cX (nb B) 6 w2 un 0 uc [] oy qD (nw y q mm)→
   aB C m full r K (F.bC o.dst (.val x)) (((H.put i (Runner,[.row v aR n' c',a,.row d2 0 un uc])).put v (cM,(bK++(gD.flatten++ak)).map .val)).put d2 (er,(oy.flatten++qD).map .val)) w2):aB C m full (o::r) K F H w:=by
 show one C m full o (aB C m full r K) F H w
 unfold one
 rw [e]
 intro w1 β a1 a2 a3
 have iC:Reach H (ee.fn 73 [.box i 0,.val (.int .i64 (y:Int)),.val val]).ids i:=.base (by simp [ee.ids,fw,AV.ids])
 have ju:Reach H (ee.fn 73 [.box i 0,.val (.int .i64 (y:Int)),.val val]).ids v:=.step iC h1 (by simp [ax,AV.cK])
 have o1:=a3.own i iC _ _ h1
 have o2:=a3.own v ju _ _ h2
 have gj:aW w1 (β v) cM (pre++(vs.flatten++spare)).toArray:=by have:=o2.cls;rw [ah] at this;exact this
 have hBw:B≤w1.heap.size:=Nat.le_trans hB (C.ew _ a2)
 have hne:∀ j,H j≠none→j≠d2:=fun j hj e=>hj (e▸h3)
 have hid:i≠d2:=hne i (by rw [h1];simp)
 have FJ:v≠d2:=hne v (by rw [h2];simp)
 refine ⟨hf,Calls.mono (show Calls C.P _ #[.pointer (some ⟨β i,0,none⟩),.int .i64 (y:Int),val] w1 _ from hP▸Km B (β i) (β v) off n c y D kk M mm pre vs spare q (a.leaf β) val w1 o1.cls gj (hO w1 a1 a2) (Kv β) (hv w1 a1 a2) hmI yf hmM hq hKs hk jt hBw) ?_⟩
 rintro e w2 ⟨x,rfl,hx,hb,aR,n',c',bK,gD,ak,uv,Ik,xJ,gH,⟨rfl,Gg⟩ | ⟨b',un,uc,oy,qD,hbn,rfl,hu',tw⟩⟩
 ·refine ⟨β,.val x,none,[(i,(Runner,[.row v aR n' c',a,.val (.slice none 0 0)])),(v,(cM,(bK++(gD.flatten++ak)).map .val))],rfl,fun i hi=>(by cases hi),.inl hl,.inr rfl,?_,fun p1 _ p3 _ _=>k1 w2 x aR n' c' bK gD ak p1 p3 (hx.mono hBw) Gg gH⟩
  refine Ak hb (fun b xJ=> ?_) (fun _ _=>rfl) (fun i hi=>(by cases hi)) (fun i hi=>(by cases hi)) (fun x hx=> ?_) (fun x hx=> ?_) (by simpa using hiv) (by show [Runner,cM].Nodup;decide) (fun x hx j hj=> ?_)
  ·simp only [List.mem_cons,List.not_mem_nil,or_false] at xJ
   rcases xJ with rfl | rfl
   ·exact .inl ⟨_,List.mem_cons_self,rfl⟩
   ·exact .inl ⟨_,List.mem_cons_of_mem _ List.mem_cons_self,rfl⟩
  ·simp only [List.mem_cons,List.not_mem_nil,or_false] at hx
   rcases hx with rfl | rfl
   ·exact ⟨o1.new,o1.ty,Ik,Ku haok rfl⟩
   ·exact ⟨o2.new,o2.ty,by rw [ah];exact xJ,ba (gH.all (aM B))⟩
  ·simp only [List.mem_cons,List.not_mem_nil,or_false] at hx
   rcases hx with rfl | rfl
   ·exact .inl ⟨by rw [h1];simp,by simp,iC,rfl⟩
   ·exact .inl ⟨by rw [h2];simp,by simp,ju,rfl⟩
  ·simp only [List.mem_cons,List.not_mem_nil,or_false] at hx
   rcases hx with rfl | rfl
   ·rcases xw hj with h | h | h
    ·exact .inl (by simp [h])
    ·exact .inr ⟨gn j h,by simp⟩
    ·cases h
   ·rw [ao] at hj;cases hj
 ·let bF:Nat→Nat:=fun j=>if j=d2 then b' else β j
  have e2:bF d2=b':=if_pos rfl
  have e1:∀ j,j≠d2→bF j=β j:=fun j hj=>if_neg hj
  have hag:a.leaf bF=a.leaf β:=AV.mn fun j hj=>e1 j (hne j (gn j (aQ.2 ⟨a,by simp,hj⟩)))
  refine ⟨bF,.val x,none,[(i,(Runner,[.row v aR n' c',a,.row d2 0 un uc])),(v,(cM,(bK++(gD.flatten++ak)).map .val)),(d2,(er,(oy.flatten++qD).map .val))],rfl,fun i hi=>(by cases hi),.inl (by omega),.inr rfl,?_,fun p1 _ p3 ρ _=>k2 w2 x aR n' c' bK gD ak un uc oy qD p1 p3 (hx.mono hBw) gH tw⟩
  refine Ak hb (fun b xJ=> ?_) (fun j hj=>e1 j (fun h=>hj (by simp [h]))) (fun i hi=>(by cases hi)) (fun i hi=>(by cases hi)) (fun x hx=> ?_) (fun x hx=> ?_) (by simp [hiv,hid,FJ]) (by show [Runner,cM,er].Nodup;decide) (fun x hx j hj=> ?_)
  ·simp only [List.mem_cons,List.not_mem_nil,or_false] at xJ
   rcases xJ with rfl | rfl
   ·exact .inl ⟨_,List.mem_cons_self,e1 i hid⟩
   ·exact .inl ⟨_,List.mem_cons_of_mem _ List.mem_cons_self,e1 v FJ⟩
  ·simp only [List.mem_cons,List.not_mem_nil,or_false] at hx
   rcases hx with rfl | rfl | rfl
   ·refine ⟨by rw [e1 i hid];exact o1.new,o1.ty,?_,Ku haok rfl⟩
    rw [e1 i hid]
    show aW w2 (β i) Runner #[.slice (some ⟨bF v,aR,none⟩) n' c',a.leaf bF,.slice (some ⟨bF d2,0,none⟩) un uc]
    rw [e1 v FJ,e2,hag]
    exact Ik
   ·exact ⟨by rw [e1 v FJ];exact o2.new,o2.ty,by rw [e1 v FJ,ah];exact xJ,ba (gH.all (aM B))⟩
   ·refine ⟨?_,by rw [hK];rfl,by rw [e2,ah];exact hu',ba (by have:=tw.all (dk B);exact this)⟩
    rw [e2]
    exact C.rn _ _ (by omega) (by have:=C.ew _ a2;omega)
  ·simp only [List.mem_cons,List.not_mem_nil,or_false] at hx
   rcases hx with rfl | rfl | rfl
   ·exact .inl ⟨by rw [h1];simp,by simp,iC,e1 i hid⟩
   ·exact .inl ⟨by rw [h2];simp,by simp,ju,e1 v FJ⟩
   ·exact .inr ⟨.inl h3,hd2,.inl (by rw [e2];exact hbn)⟩
  ·simp only [List.mem_cons,List.not_mem_nil,or_false] at hx
   rcases hx with rfl | rfl | rfl
   ·rcases xw hj with h | h | h
    ·exact .inl (by simp [h])
    ·exact .inr ⟨gn j h,by simp⟩
    ·exact .inl (by have:j=d2:=by simpa [AV.cK] using h
      simp [this])
   ·rw [ao] at hj;cases hj
   ·rw [ao] at hj;cases hj
theorem VO.CI {B D i v d2 off n c y:Nat} {M mm:Rat} {a:AV} {pre spare:List Value} {vs:List (List Value)} {q:List Vq} {val:Value} {u yg Ai:Nat} {lV:List (List Value)} {nc:List Value} {us0:List Uq} (kk:Nat) (hP:C.P=Tryz.prog) (hK:C.K=KU UU)
  (e:stepOf C full F H o=.call (.fn 73 [.box i 0,.val (.int .i64 (y:Int)),.val val])) (hf:nQ C.P 73) (h1:H i=some (Runner,[.row v off n c,a,.row u 0 yg Ai])) (h2:H v=some (cM,(pre++(vs.flatten++spare)).map .val)) (h4:H u=some (er,(lV.flatten++nc).map .val)) (Il:∀ w1,aF C.K w w1→C.Old w1→cX (nb B) 6 w1 yg 0 Ai [] lV nc us0) (Aj:us0.length≤1000) (hiu:i≠u) (hvu:v≠u) (h3:H d2=none) (hd2:d2 < 2 * C.N) (hiv:i≠v) (haok:aH a=true) (Kv:∀ β:Nat→Nat,aU (a.leaf β)=true)
  (gn:∀ j∈ax [a],H j≠none∧j≠u) (hl:lvl C.SU m o=2) (hO:∀ w1,aF C.K w w1→C.Old w1→cX (cG B) 5 w1 n off c pre vs spare q) (hv:∀ w1,aF C.K w w1→C.Old w1→cP w1 val mm) (hmI:Iz D mm) (yf:0≤mm) (hmM:mm≤M) (hq:∀ p∈q,Iz D p.2∧0≤p.2∧p.2≤M)
  (hKs:∀ x,Iz D x→0≤x→x≤M→dQ x kk) (hk:kk≤100000) (jt:q.length≤1000) (hB:B≤C.w0.heap.size)
  (k2:∀ w2 x aR n' c' bK gD ak un uc oy qD ρ,aF C.K w w2→C.Old w2→aK w2 B x (qO q mm)→cX (cG B) 5 w2 n' aR c' bK gD ak (kP q mm)→cX (nb B) 6 w2 un 0 uc [] oy qD (us0++nw y q mm)→
   aB C m full r K ((F.forget (some u) ρ).bC o.dst (.val x)) ((((H.forget (some u) ρ).put i (Runner,[.row v aR n' c',a,.row d2 0 un uc])).put v (cM,(bK++(gD.flatten++ak)).map .val)).put d2 (er,(oy.flatten++qD).map .val)) w2):aB C m full (o::r) K F H w:=by
 show one C m full o (aB C m full r K) F H w
 unfold one
 rw [e]
 intro w1 β a1 a2 a3
 have iC:Reach H (ee.fn 73 [.box i 0,.val (.int .i64 (y:Int)),.val val]).ids i:=.base (by simp [ee.ids,fw,AV.ids])
 have ju:Reach H (ee.fn 73 [.box i 0,.val (.int .i64 (y:Int)),.val val]).ids v:=.step iC h1 (by simp [ax,AV.cK])
 have o1:=a3.own i iC _ _ h1
 have o2:=a3.own v ju _ _ h2
 have gj:aW w1 (β v) cM (pre++(vs.flatten++spare)).toArray:=by have:=o2.cls;rw [ah] at this;exact this
 have hBw:B≤w1.heap.size:=Nat.le_trans hB (C.ew _ a2)
 have hne:∀ j,H j≠none→j≠d2:=fun j hj e=>hj (e▸h3)
 have hid:i≠d2:=hne i (by rw [h1];simp)
 have FJ:v≠d2:=hne v (by rw [h2];simp)
 have hr4:Reach H (ee.fn 73 [.box i 0,.val (.int .i64 (y:Int)),.val val]).ids u:=.step iC h1 (by simp [ax,AV.cK])
 have o4:=a3.own u hr4 _ _ h4
 have uG:aW w1 (β u) er (lV.flatten++nc).toArray:=by have:=o4.cls;rw [ah] at this;exact this
 have hud:u≠d2:=hne u (by rw [h4];simp)
 refine ⟨hf,Calls.mono (show Calls C.P _ #[.pointer (some ⟨β i,0,none⟩),.int .i64 (y:Int),val] w1 _ from hP▸Kt B (β i) (β v) off n c y D kk M mm pre vs spare q (a.leaf β) val (β u) yg Ai lV nc us0 w1 o1.cls uG (Il w1 a1 a2) Aj gj (hO w1 a1 a2) (Kv β) (hv w1 a1 a2) hmI yf hmM hq hKs hk jt hBw) ?_⟩
 rintro e w2 ⟨x,rfl,hx,hb,⟨tl,cl,l1,l2,l3⟩,aR,n',c',bK,gD,ak,uv,Ik,xJ,gH,b',un,uc,oy,qD,hbn,rfl,hu',tw⟩
 ·let bF:Nat→Nat:=fun j=>if j=d2 then b' else β j
  have e2:bF d2=b':=if_pos rfl
  have e1:∀ j,j≠d2→bF j=β j:=fun j hj=>if_neg hj
  have hag:a.leaf bF=a.leaf β:=AV.mn fun j hj=>e1 j (hne j ((gn j (aQ.2 ⟨a,by simp,hj⟩)).1))
  refine ⟨bF,.val x,some u,[(i,(Runner,[.row v aR n' c',a,.row d2 0 un uc])),(v,(cM,(bK++(gD.flatten++ak)).map .val)),(d2,(er,(oy.flatten++qD).map .val))],rfl,fun i hi=>(by cases hi),.inl (by omega),.inl (by omega),?_,fun p1 _ p3 ρ _=>k2 w2 x aR n' c' bK gD ak un uc oy qD ρ p1 p3 (hx.mono hBw) gH tw⟩
  refine Ak hb (fun b xJ=> ?_) (fun j hj=>e1 j (fun h=>hj (by simp [h]))) (fun j hj=>by cases hj;exact ⟨hr4,by rw [h4];simp⟩) (fun j hj=>by cases hj;exact ⟨tl,cl,l1,by rw [hK];exact l2,l3⟩) (fun x hx=> ?_) (fun x hx=> ?_) (by simp [hiv,hid,FJ]) (by show [Runner,cM,er].Nodup;decide) (fun x hx j hj=> ?_)
  ·simp only [List.mem_cons,List.not_mem_nil,or_false] at xJ
   rcases xJ with rfl | rfl | rfl
   ·exact .inl ⟨_,List.mem_cons_self,e1 i hid⟩
   ·exact .inl ⟨_,List.mem_cons_of_mem _ List.mem_cons_self,e1 v FJ⟩
   ·exact .inr ⟨u,rfl,rfl⟩
  ·simp only [List.mem_cons,List.not_mem_nil,or_false] at hx
   rcases hx with rfl | rfl | rfl
   ·refine ⟨by rw [e1 i hid];exact o1.new,o1.ty,?_,Ku haok rfl⟩
    rw [e1 i hid]
    show aW w2 (β i) Runner #[.slice (some ⟨bF v,aR,none⟩) n' c',a.leaf bF,.slice (some ⟨bF d2,0,none⟩) un uc]
    rw [e1 v FJ,e2,hag]
    exact Ik
   ·exact ⟨by rw [e1 v FJ];exact o2.new,o2.ty,by rw [e1 v FJ,ah];exact xJ,ba (gH.all (aM B))⟩
   ·refine ⟨?_,by rw [hK];rfl,by rw [e2,ah];exact hu',ba (by have:=tw.all (dk B);exact this)⟩
    rw [e2]
    rcases hbn with h | h
    ·exact C.rn _ _ (by omega) (by have:=C.ew _ a2;omega)
    ·rw [h];exact C.Bl u d2 _ o4.new (by omega)
  ·simp only [List.mem_cons,List.not_mem_nil,or_false] at hx
   rcases hx with rfl | rfl | rfl
   ·exact .inl ⟨by rw [h1];simp,by simpa using fun h=>hiu h.symm,iC,e1 i hid⟩
   ·exact .inl ⟨by rw [h2];simp,by simpa using fun h=>hvu h.symm,ju,e1 v FJ⟩
   ·exact .inr ⟨.inl h3,hd2,hbn.imp (fun h=>by rw [e2];exact h) (fun h=>⟨u,rfl,by rw [e2];exact h⟩)⟩
  ·simp only [List.mem_cons,List.not_mem_nil,or_false] at hx
   rcases hx with rfl | rfl | rfl
   ·rcases xw hj with h | h | h
    ·exact .inl (by simp [h])
    ·exact .inr ⟨(gn j h).1,by simpa using fun h2=>(gn j h).2 h2.symm⟩
    ·exact .inl (by have:j=d2:=by simpa [AV.cK] using h
      simp [this])
   ·rw [ao] at hj;cases hj
   ·rw [ao] at hj;cases hj
end
end Go.Proofs.YtabalinjfgcfeaaGreat
set_option maxRecDepth 4000
namespace Go.Proofs.YtabalinjfgcfeaaGreat
open Go.RowKit
attribute [local irreducible] aB VS
theorem tx {D:Nat}:∀ {q:List Vq} {m:Rat},(∀ p∈q,Iz D p.2∧0≤p.2)→Iz D m→0≤m→Iz D (qO q m)∧0≤qO q m∧qO q m≤m
 | [],m,_,_,hm=>⟨Iz.zero,Rat.le_refl,hm⟩
 | p::q,m,h,hI,hm=>by
  obtain ⟨p1,p2⟩:=h p (by simp)
  have hq:∀ x∈q,Iz D x.2∧0≤x.2:=fun x hx=>h x (by simp [hx])
  have pQ:=cQ p.2 m
  have lC:0≤ai p.2 m:=by rcases pQ with ⟨e,_⟩ | ⟨e,_⟩ <;> rw [e] <;> assumption
  have o8:Iz D (ai p.2 m):=by rcases pQ with ⟨e,_⟩ | ⟨e,_⟩ <;> rw [e] <;> assumption
  have vp:=bZ p.2 m
  by_cases h0:0 < m
  ·by_cases hz:p.2 - ai p.2 m=0
   ·obtain ⟨_,_,e3⟩:=fK (y:=0) (p:=p) (q:=q) h0 hz
    obtain ⟨i1,i2,i3⟩:=tx (m:=m - ai p.2 m) hq (hI.sub o8) (by grind)
    rw [e3]
    exact ⟨o8.add i1,by grind,by grind⟩
   ·obtain ⟨_,_,_,e3⟩:=fJ (y:=0) (p:=p) (q:=q) h0 hz
    rw [e3]
    exact ⟨o8,lC,vp⟩
  ·rw [gv _ h0]
   exact ⟨Iz.zero,Rat.le_refl,hm⟩
theorem Kw {D:Nat} {M:Rat}:∀ {q:List Vq} {m:Rat},(∀ p∈q,Iz D p.2∧0≤p.2∧p.2≤M)→Iz D m→0≤m→∀ p∈kP q m,Iz D p.2∧0≤p.2∧p.2≤M∧∃ p'∈q,p'.1=p.1
 | [],m,_,_,_,p,hp=>by cases hp
 | x::q,m,h,hI,hm,p,hp=>by
  obtain ⟨p1,p2,p3⟩:=h x (by simp)
  have hq:∀ x∈q,Iz D x.2∧0≤x.2∧x.2≤M:=fun x hx=>h x (by simp [hx])
  have pQ:=cQ x.2 m
  have lC:0≤ai x.2 m:=by rcases pQ with ⟨e,_⟩ | ⟨e,_⟩ <;> rw [e] <;> assumption
  have o8:Iz D (ai x.2 m):=by rcases pQ with ⟨e,_⟩ | ⟨e,_⟩ <;> rw [e] <;> assumption
  have vp:=bZ x.2 m
  have yP:=dh x.2 m
  by_cases h0:0 < m
  ·by_cases hz:x.2 - ai x.2 m=0
   ·obtain ⟨_,e2,_⟩:=fK (y:=0) (p:=x) (q:=q) h0 hz
    rw [e2] at hp
    obtain ⟨i1,i2,i3,p',i4,i5⟩:=Kw (m:=m - ai x.2 m) hq (hI.sub o8) (by grind) p hp
    exact ⟨i1,i2,i3,p',by simp [i4],i5⟩
   ·obtain ⟨_,_,e2,_⟩:=fJ (y:=0) (p:=x) (q:=q) h0 hz
    rw [e2] at hp
    rcases List.mem_cons.1 hp with rfl | hp
    ·exact ⟨p1.sub o8,by show 0≤x.2 - ai x.2 m;grind,by show x.2 - ai x.2 m≤M;grind,x,by simp,rfl⟩
    ·obtain ⟨a,b,c⟩:=hq p hp
     exact ⟨a,b,c,p,by simp [hp],rfl⟩
  ·rw [fI _ h0] at hp
   obtain ⟨a,b,c⟩:=h p hp
   exact ⟨a,b,c,p,hp,rfl⟩
theorem xx (y:Nat):∀ (q:List Vq) (m:Rat),(nw y q m).length + (kP q m).length≤q.length + 1∧(kP q m).length≤q.length
 | [],_=>⟨Nat.zero_le _,Nat.le_refl _⟩
 | p::q,m=>by
  by_cases h0:0 < m
  ·by_cases hz:p.2 - ai p.2 m=0
   ·obtain ⟨e1,e2,_⟩:=fK (y:=y) (p:=p) (q:=q) h0 hz
    have:=xx y q (m - ai p.2 m)
    rw [e1,e2,List.length_cons,List.length_cons];omega
   ·obtain ⟨_,e1,e2,_⟩:=fJ (y:=y) (p:=p) (q:=q) h0 hz
    rw [e1,e2];simp;omega
  ·rw [gu y _ h0,fI _ h0];simp
structure xy (D:Nat) (M:Rat) (s:CC):Prop where
 el:∀ p∈s.q,Iz D p.2∧0≤p.2∧p.2≤M + M∧p.1 < s.rows.length
 len:s.uses.length + s.q.length≤2 * s.rows.length
theorem exp_len (keep n:Nat) (s:CC):(rR keep n s).rows.length=s.rows.length∧(rR keep n s).uses=s.uses∧(rR keep n s).q.length≤s.q.length∧∀ p∈(rR keep n s).q,p∈s.q:=by
 unfold rR
 split
 ·rename_i p q hq
  split
  ·exact ⟨List.length_modify ..,rfl,by rw [hq];simp,fun x hx=>by rw [hq];exact List.mem_cons_of_mem _ hx⟩
  ·exact ⟨rfl,rfl,Nat.le_refl _,fun x hx=>hx⟩
 ·exact ⟨rfl,rfl,Nat.le_refl _,fun x hx=>hx⟩
theorem sa {D:Nat} {M L x:Rat} (hL:Iz D L) (hL0:0≤L) (Dh:L≤M) (hx:Iz D x) (gK: -M≤x) (Di:x≤M):
  Iz D (ai x L)∧-M≤ai x L∧ai x L≤M∧Iz D (x - ai x L)∧0≤x - ai x L∧x - ai x L≤M + M∧Iz D (L - ai x L)∧0≤L - ai x L∧L - ai x L≤M + M:=by
 rcases cQ x L with ⟨e,h⟩ | ⟨e,h⟩ <;> rw [e]
 ·exact ⟨hx,gK,Di,hx.sub hx,by grind,by grind,hL.sub hx,by grind,by grind⟩
 ·exact ⟨hL,by grind,Dh,hx.sub hL,by grind,by grind,hL.sub hL,by grind,by grind⟩
theorem FK {D:Nat} {M S F:Rat} {keep:Nat} {s:CC} {e:Rat×Rat} (h:xy D M s) (hL:Iz D (aD S F e.2)) (Dh:aD S F e.2≤M) (hx:Iz D e.1) (gK: -M≤e.1) (Di:e.1≤M):xy D M (di S F keep s.rows.length s e)∧(di S F keep s.rows.length s e).rows.length=s.rows.length + 1:=by
 obtain ⟨g1,g2,g3,g4,g5,g6,g7,g8,g9⟩:=sa hL (mB S F e.2) Dh hx gK Di
 unfold di
 obtain ⟨e1,e2,e3,e4⟩:=exp_len keep s.rows.length ⟨kt s.rows.length (dC S F s.q e).bk (kP s.q (aD S F e.2 - ai e.1 (aD S F e.2))),s.rows++[dC S F s.q e],s.uses++nw s.rows.length s.q (aD S F e.2 - ai e.1 (aD S F e.2))⟩
 obtain ⟨u1,u2⟩:=xx s.rows.length s.q (aD S F e.2 - ai e.1 (aD S F e.2))
 have hl:(s.rows++[dC S F s.q e]).length=s.rows.length + 1:=by rw [List.length_append];rfl
 have hput:(kt s.rows.length (dC S F s.q e).bk (kP s.q (aD S F e.2 - ai e.1 (aD S F e.2)))).length≤(kP s.q (aD S F e.2 - ai e.1 (aD S F e.2))).length + 1:=by
  unfold kt;split
  ·rw [List.length_append];exact Nat.le_refl _
  ·omega
 refine ⟨⟨fun p hp=> ?_,?_⟩,by rw [e1];exact hl⟩
 ·rw [e1,hl]
  have hp':=e4 p hp
  have key:p∈kP s.q (aD S F e.2 - ai e.1 (aD S F e.2))∨p=(s.rows.length,e.1 - ai e.1 (aD S F e.2)):=by
   unfold kt at hp'
   dsimp only at hp'
   split at hp'
   ·rcases List.mem_append.1 hp' with h | h
    ·exact .inl h
    ·exact .inr (List.mem_singleton.1 h)
   ·exact .inl hp'
  rcases key with hk | rfl
  ·obtain ⟨a,b,c,p',d1,d2⟩:=Kw (fun p hp=>⟨(h.el p hp).1,(h.el p hp).2.1,(h.el p hp).2.2.1⟩) g7 g8 p hk
   have:=(h.el p' d1).2.2.2
   exact ⟨a,b,c,by omega⟩
  ·exact ⟨g4,g5,g6,Nat.lt_succ_self _⟩
 ·rw [e1,e2,hl]
  dsimp only at e3 ⊢
  rw [List.length_append]
  have:=h.len
  omega
def dD (B:Nat) (w:World) (cs:List Value) (r:aN):Prop:=
 ∃ a b c d e f g,cs=a++(b++(c++(d++(e++(f++g)))))∧R4 B w a r.eI∧R4 B w b r.allowed∧R4 B w c r.bk∧R4 B w d r.used∧R4 B w e r.bT∧R4 B w f r.aZ∧R4 B w g r.closing
theorem R4.len {B:Nat} {w:World} {cs:List Value} {q:Rat} (h:R4 B w cs q):cs.length=4:=by obtain ⟨s,p,n,c,t,r,m,d,rfl,_⟩:=h;rfl
theorem R4.ok {B:Nat} {w:World} {cs:List Value} {q:Rat} (h:R4 B w cs q):cs.all aU=true:=by obtain ⟨s,p,n,c,t,r,m,d,rfl,_⟩:=h;rfl
theorem az (B:Nat):ln (dD B) 28 where
 kp:=fun h k=>by
  obtain ⟨a,b,c,d,e,f,g,h0,h1,h2,h3,h4,h5,h6,h7⟩:=h
  exact ⟨a,b,c,d,e,f,g,h0,h1.kp k,h2.kp k,h3.kp k,h4.kp k,h5.kp k,h6.kp k,h7.kp k⟩
 len:=fun h=>by
  obtain ⟨a,b,c,d,e,f,g,rfl,h1,h2,h3,h4,h5,h6,h7⟩:=h
  simp [h1.len,h2.len,h3.len,h4.len,h5.len,h6.len,h7.len]
 ok:=fun h=>by
  obtain ⟨a,b,c,d,e,f,g,rfl,h1,h2,h3,h4,h5,h6,h7⟩:=h
  simp only [List.all_append,h1.ok,h2.ok,h3.ok,h4.ok,h5.ok,h6.ok,h7.ok,Bool.and_self]
structure nd {α:Type} (E:World→List Value→α→Prop) (sz:Nat) (w:World) (n c:Nat) (vs:List (List Value)) (sp:List AV) (es:List α):Prop where
 len:n=es.length
 el:cL E w es vs
 so:sp.all aH=true
 sl:ax sp=[]
 le:n≤c
 cm:c≤9223372036854775807
 fl:(vs.flatten.map AV.val++sp).length=c * sz
theorem nd.kp {α:Type} {E:World→List Value→α→Prop} {sz n c:Nat} (hE:ln E sz) {w w':World} {vs:List (List Value)} {sp:List AV} {es:List α} (h:nd E sz w n c vs sp es) (k:Kp UU w w'):nd E sz w' n c vs sp es:=⟨h.len,h.el.kp hE k,h.so,h.sl,h.le,h.cm,h.fl⟩
theorem nd.o {α:Type} {E:World→List Value→α→Prop} {sz n c:Nat} {w:World} {vs:List (List Value)} {sp:List AV} {es:List α} (h:nd E sz w n c vs sp es) (β:Nat→Nat):cX E sz w n 0 c [] vs (sp.map (AV.leaf β)) es:=
 ⟨h.len,.inl rfl,rfl,h.el,cI h.so,h.le,h.cm,by have:=h.fl;rw [List.length_append,List.length_map] at this;rw [List.length_append,List.length_map];exact this⟩
theorem cX.a {α:Type} {E:World→List Value→α→Prop} {sz n c:Nat} {w:World} {vs:List (List Value)} {sp:List Value} {es:List α} (h:cX E sz w n 0 c [] vs sp es):nd E sz w n c vs (sp.map .val) es:=
 ⟨h.len,h.el,ba h.so,ao _,h.le,h.cm,by rw [←List.map_append,List.length_map];exact h.fl⟩
theorem cV {vs:List (List Value)} {sz:Nat} (h:∀ x∈vs,x.length=sz):vs.flatten.length=vs.length * sz:=by
 induction vs with
 | nil=>simp
 | cons x vs ih=>rw [List.flatten_cons,List.length_append,h x (by simp),ih (fun y hy=>h y (by simp [hy])),List.length_cons,Nat.add_mul];omega
theorem Hn {vs:List (List Value)} {sz i o:Nat} {x new:List Value} {sp:List AV} (h:∀ x∈vs,x.length=sz) (hi:vs[i]? =some x) (ho:o + new.length≤sz):
  (vs.flatten.map AV.val++sp).take (i * sz + o)++(new.map AV.val++(vs.flatten.map AV.val++sp).drop (i * sz + o + new.length))=(vs.set i (x.take o++(new++x.drop (o + new.length)))).flatten.map AV.val++sp:=by
 obtain ⟨hlt,hx⟩:=List.getElem?_eq_some_iff.1 hi
 have ye:vs=vs.take i++x::vs.drop (i + 1):=by rw [←hx,←List.drop_eq_getElem_cons hlt,List.take_append_drop]
 have eu:x.length=sz:=h x (List.mem_of_getElem? hi)
 have hal:(vs.take i).flatten.length=i * sz:=by
  rw [cV (fun y hy=>h y (List.mem_of_mem_take hy)),List.length_take,Nat.min_eq_left (by omega)]
 have hset:vs.set i (x.take o++(new++x.drop (o + new.length)))=vs.take i++(x.take o++(new++x.drop (o + new.length)))::vs.drop (i + 1):=by rw [List.set_eq_take_append_cons_drop,if_pos hlt]
 rw [hset]
 conv=>lhs;rw [ye]
 generalize (vs.take i)=A at *
 generalize (vs.drop (i + 1))=C at *
 have e1:((A++x::C).flatten.map AV.val++sp)=(A.flatten.map AV.val)++((x.map AV.val)++(C.flatten.map AV.val++sp)):=by simp
 have hA:(A.flatten.map AV.val).length=i * sz:=by rw [List.length_map];exact hal
 rw [e1,←hA,Nat.add_assoc,List.take_length_add_append,List.drop_length_add_append,List.take_append_of_le_length (by rw [List.length_map];omega),List.drop_append_of_le_length (by rw [List.length_map];omega)]
 simp
theorem cL.set {α:Type} {E:World→List Value→α→Prop} {w:World}:∀ {es:List α} {vs:List (List Value)} {i:Nat} {a:α} {cs:List Value},cL E w es vs→E w cs a→cL E w (es.set i a) (vs.set i cs)
 | _,_,i,_,_,.nil,_=>.nil
 | _,_,0,_,_,.cons _ h2,h=>.cons h h2
 | _,_,i + 1,_,_,.cons h1 h2,h=>.cons h1 (cL.set h2 h)
theorem gI {l:List aN} {i:Nat} {r:aN} {f:aN→aN} (h:l[i]? =some r):l.modify i f=l.set i (f r):=by
 apply List.ext_getElem?
 intro j
 by_cases e:i=j
 ·subst e
  rw [xn rfl,List.getElem?_set,if_pos rfl,if_pos (List.getElem?_eq_some_iff.1 h).1,h];rfl
 ·rw [rV e,List.getElem?_set,if_neg e]
def SlE {α:Type} (E:World→List Value→α→Prop) (sz:Nat) (t:TypeId) (w:World) (b:Nat) (v:Value) (es:List α):Prop:=
 ∃ off n c pre vs spare,v=.slice (some ⟨b,off,none⟩) n c∧aW w b t (pre++(vs.flatten++spare)).toArray∧cX E sz w n off c pre vs spare es
def SlZ {α:Type} (E:World→List Value→α→Prop) (sz:Nat) (t:TypeId) (w:World) (b:Nat) (v:Value) (es:List α):Prop:=
 ∃ n c vs spare,v=.slice (some ⟨b,0,none⟩) n c∧aW w b t (vs.flatten++spare).toArray∧cX E sz w n 0 c [] vs spare es
def mP (B:Nat) (w:World) (g:Nat) (ad:List Nat) (s:CC):Prop:=(∀ b∈ad,B≤b)∧∃ v r u,aW w g Runner #[v,r,u]∧
 ((ad=[g]∧v=.slice none 0 0∧r=.slice none 0 0∧u=.slice none 0 0∧s.q=[]∧s.rows=[]∧s.uses=[])∨
  (∃ rb,ad=[g,rb]∧v=.slice none 0 0∧u=.slice none 0 0∧s.q=[]∧s.uses=[]∧SlZ (dD B) 28 dT w rb r s.rows)∨
  (∃ vb rb,ad=[g,vb,rb]∧u=.slice none 0 0∧s.uses=[]∧SlE (cG B) 5 cM w vb v s.q∧SlZ (dD B) 28 dT w rb r s.rows)∨
  (∃ vb rb ub,ad=[g,vb,rb,ub]∧SlE (cG B) 5 cM w vb v s.q∧SlZ (dD B) 28 dT w rb r s.rows∧SlZ (nb B) 6 er w ub u s.uses))
def EB (w:World) (v:Value) (S F:Rat) (keep:Int) (ks:Nat):Prop:=∃ s p n c t y m d s' p' n' c' t' y' m' d',v=.agg #[.bool s,.slice p n c,.bool t,.slice y m d,.bool s',.slice p' n' c',.bool t',.slice y' m' d',.int .i64 keep]∧
 bJ w (.agg #[.bool s,.slice p n c,.bool t,.slice y m d]) S ks∧bJ w (.agg #[.bool s',.slice p' n' c',.bool t',.slice y' m' d']) F ks
def YrV (w:World) (v:Value) (e:Rat×Rat) (ks:Nat):Prop:=∃ s p n c t y m d s' p' n' c' t' y' m' d',v=.agg #[.bool s,.slice p n c,.bool t,.slice y m d,.bool s',.slice p' n' c',.bool t',.slice y' m' d']∧
 bJ w (.agg #[.bool s,.slice p n c,.bool t,.slice y m d]) e.1 ks∧bJ w (.agg #[.bool s',.slice p' n' c',.bool t',.slice y' m' d']) e.2 ks
theorem bJ.up {w:World} {v:Value} {q:Rat} {j k:Nat} (h:bJ w v q j) (hk:j≤k):bJ w v q k:=by
 obtain ⟨s,xs,t,ys,h1,h2,h3,h4⟩:=h
 exact ⟨s,xs,t,ys,h1,h2,Nat.le_trans h3 hk,Nat.le_trans h4 hk⟩
set_option maxRecDepth 4000 in
theorem mH (v u:Value) (S F:Rat) (keep:Int) (e:Rat×Rat) (ks:Nat) (w:World) (hv:EB w v S F keep ks) (hu:YrV w u e ks) (BM:1≤ks) (hk:ks≤100000):
  Calls Tryz.prog 70 #[v,u] w fun o w'=>∃ x,o=.returned x∧aK w' w.heap.size x (aD S F e.2)∧aj w w':=by
 obtain ⟨sS,pS,nS,cS,tS,yS,mS,dS,sF,pF,nF,cF,tF,yF,mF,dF,rfl,hS,hF⟩:=hv
 obtain ⟨sN,pN,nN,cN,tN,yN,mN,dN,sE,pE,nE,cE,tE,yE,mE,dE,rfl,hN,hE⟩:=hu
 refine aw (C:=cf Tryz.prog w _) (args:=[_,_]) Tryz.func70 rfl Tryz.ntmps70 (Nat.le_of_ble_eq_true rfl) ?_
 (repeat first|refine wN ?_|refine wP rfl ?_|refine aa rfl ?_|refine ab rfl ?_|refine wO rfl rfl ?_)
 refine VO.call rfl rfl (fk Tryz.func105) (fun cB ek du=>(Er _ _ S e.2 ks ks cB (hS.k) (hE.k) (by omega) (by omega)).mono ?_)
 rintro e w1 ⟨r1,rfl,q1,aV⟩
 obtain ⟨s1,p1,n1,c1,t1,y1,m1,d1,rfl⟩:=q1.form
 refine ⟨_,rfl,aV,fun e9 _ bb1=>wV rfl ?_⟩
 (repeat first|refine wN ?_|refine wP rfl ?_|refine aa rfl ?_|refine ab rfl ?_|refine wO rfl rfl ?_)
 have z1:=(hS.sz BM).mul (hE.sz BM)
 refine VO.call rfl rfl (fk Tryz.func44) (fun dB gp et=>(bE 0 dB (by omega) (by omega)).mono ?_)
 rintro e w2 ⟨r2,rfl,q2,bl⟩
 obtain ⟨s2,p2,n2,c2,t2,y2,m2,d2,rfl⟩:=q2.form
 refine ⟨_,rfl,bl,fun fX _ bb2=>wV rfl ?_⟩
 (repeat first|refine wN ?_|refine wP rfl ?_|refine aa rfl ?_|refine ab rfl ?_|refine wO rfl rfl ?_)
 refine VO.fG rfl (fk Tryz.func104) (fun gr β gX gU ho=>((Et _ _ F [S * e.2,0] (ks + ks) gr ((hF.k).up (by omega)) (dV (ho.own 13 (.base (List.mem_singleton.2 rfl)) _ _ rfl) [] (vs:=[[.bool s1,.slice p1 n1 c1,.bool t1,.slice y1 m1 d1],[.bool s2,.slice p2 n2 c2,.bool t2,.slice y2 m2 d2]]) (by rfl) rfl (bX.cons (q1.ki z1) (bX.cons (q2.ki (dQ.zero.mono (show 1≤ks + ks by omega))) bX.nil)) (Nat.le_of_ble_eq_true rfl) (by decide)) (by omega) (Nat.le_of_ble_eq_true rfl)).mono (fun o w2 h=>And.intro h gU.size)).mono ?_)
 rintro o w3 ⟨⟨r3,rfl,q3,z3,cC⟩,xz⟩
 obtain ⟨s3,p3,n3,c3,t3,y3,m3,d3,rfl⟩:=q3.form
 refine ⟨_,rfl,cC,fun kh _ bb3=>wV rfl ?_⟩
 (repeat first|refine wN ?_|refine wP rfl ?_|refine aa rfl ?_|refine ab rfl ?_|refine wO rfl rfl ?_)
 refine VS.ret (aL _ _) rfl rfl (fun wz kz bz=> ?_)
 exact ⟨_,rfl,(q3.mono xz).k,bz⟩
end Go.Proofs.YtabalinjfgcfeaaGreat
set_option maxRecDepth 4000
namespace Go.Proofs.YtabalinjfgcfeaaGreat
open Go.RowKit
attribute [local irreducible] aB VS
theorem fe {B N i g:Nat} {ad:List Nat} {w:World} (hB:B≤w.heap.size) (had:∀ b∈ad,B≤b) (h:cA N ad w i g):B≤g:=by
 rcases eN h with h | h
 ·omega
 ·exact had g h
theorem kc {vs:List (List Value)} {sz i o:Nat} {x new:List Value} {sp:List AV} (h:∀ x∈vs,x.length=sz) (hi:vs[i]? =some x) (ho:o + new.length≤sz):
  (vs.flatten.map AV.val++sp).take (0 + ((i:Nat):Int).toNat * sz + o)++(new.map AV.val++(vs.flatten.map AV.val++sp).drop (0 + ((i:Nat):Int).toNat * sz + o + new.length))=(vs.set i (x.take o++(new++x.drop (o + new.length)))).flatten.map AV.val++sp:=by
 rw [Int.toNat_natCast,Nat.zero_add]
 exact Hn h hi ho
theorem oB {B:Nat} {w:World} {cs new:List Value} {r:aN} {x:Rat} (h:dD B w cs r) (hx:R4 B w new x):dD B w (cs.take 20++(new++cs.drop (20 + new.length))) { r with aZ:=x }:=by
 obtain ⟨a,b,c,d,e,f,g,rfl,h1,h2,h3,h4,h5,h6,h7⟩:=h
 refine ⟨a,b,c,d,e,new,g,?_,h1,h2,h3,h4,h5,hx,h7⟩
 have l1:=h1.len
 have l2:=h2.len
 have l3:=h3.len
 have l4:=h4.len
 have l5:=h5.len
 have l6:=h6.len
 rw [hx.len]
 have e1:a++(b++(c++(d++(e++(f++g)))))=(a++b++c++d++e)++(f++g):=by simp
 have e2:(a++b++c++d++e).length=20:=by simp [l1,l2,l3,l4,l5]
 have e3:a++(b++(c++(d++(e++(f++g)))))=(a++b++c++d++e++f)++g:=by simp
 have e4:(a++b++c++d++e++f).length=24:=by simp [l1,l2,l3,l4,l5,l6]
 have t1:(a++(b++(c++(d++(e++(f++g)))))).take 20=a++b++c++d++e:=by rw [e1,←e2,List.take_left'];rfl
 have t2:(a++(b++(c++(d++(e++(f++g)))))).drop 24=g:=by rw [e3,←e4,List.drop_left'];rfl
 rw [t1,t2]
 simp
theorem sb {cs new:List Value} (h:cs.length=28) (hn:new.length=4):(cs.take 20++(new++cs.drop (20 + new.length))).length=28:=by
 rw [List.length_append,List.length_append,List.length_take,List.length_drop,h,hn];rfl
theorem ke {vs:List (List Value)} {sz i:Nat} {x:List Value} (h:∀ y∈vs,y.length=sz) (hx:x.length=sz):∀ y∈vs.set i x,y.length=sz:=fun y hy=>by
 rcases List.mem_or_eq_of_mem_set hy with e | e
 ·exact h y e
 ·rw [e];exact hx
set_option maxRecDepth 4000 in
set_option maxHeartbeats 16000000 in
theorem iYear_A {B g keep D kk ks:Nat} {M S F:Rat} {e:Rat×Rat} {q:List Vq} {rows:List aN} {uses:List Uq} {v u:Value} {w:World} (hg:aW w g Runner #[.slice none 0 0,.slice none 0 0,.slice none 0 0])
  (uM:EB w v S F keep ks) (Im:YrV w u e ks) (se:1≤ks) (yh:ks≤kk) (yV:kk≤100000) (vC:Iz D (aD S F e.2)) (Dh:aD S F e.2≤M) (Ip:Iz D e.1) (gK: -M≤e.1) (Di:e.1≤M) (hK:∀ x,Iz D x→-(M + M)≤x→x≤M + M→dQ x kk)
  (vD:xy D M ⟨[],[],[]⟩) (uy:([]:List aN).length≤64) (uz:keep≤40) (hB:B≤w.heap.size) (dU:∀ b∈[g],B≤b):
  Calls Tryz.prog 39 #[.pointer (some ⟨g,0,none⟩),v,.int .i64 (([]:List aN).length:Int),u] w fun o w'=>o=.returned (iB [])∧qn [g] w w'∧∃ Ky,mP B w' g Ky (di S F keep ([]:List aN).length ⟨[],[],[]⟩ e):=by
 have hL0:=mB S F e.2
 have hM0:0≤M:=by grind
 obtain ⟨g1,g2,g3,g4,g5,g6,g7,g8,g9⟩:=sa vC hL0 Dh Ip gK Di
 have zc:B≤g:=dU g (by simp)
 have hlen:=vD.len
 obtain ⟨sS,pS,nS,cS,tS,yS,mS,dS,sF,pF,nF,cF,tF,yF,mF,dF,rfl,hS,hF⟩:=uM
 obtain ⟨sN,pN,nN,cN,tN,yN,mN,dN,sE,pE,nE,cE,tE,yE,mE,dE,rfl,hN,hE⟩:=Im
 have pC:iE (KU UU) 99 [g] [(Runner,[.val (.slice none 0 0),.val (.slice none 0 0),.val (.slice none 0 0)])] w:=by
  refine ⟨rfl,by simp,fun j g' c' hj hc=> ?_,fun c' hc=> ?_,fun c' hc k hk=> ?_⟩
  ·match j,hj,hc with
   | 0,hj,hc=>cases hj;cases hc;exact hg
   | j + 1,hj,_=>simp at hj
  ·simp only [List.mem_cons,List.not_mem_nil,or_false] at hc
   subst hc
   exact ⟨rfl,rfl⟩
  ·simp only [List.mem_cons,List.not_mem_nil,or_false] at hc
   subst hc
   cases hk
 refine dZ Tryz.prog w _ (KU UU) (fun t=>Nat.beq t 22) table (fun _ _=>trivial) (ad:=[g]) (us:=[_,_,_]) Tryz.func39 rfl Tryz.ntmps39 (Nat.le_of_ble_eq_true rfl) pC (Nat.le_of_ble_eq_true rfl) ?_
 (repeat first|refine wN ?_|refine wP rfl ?_|refine af rfl ?_|refine ag rfl ?_|refine wO rfl rfl ?_)
 refine VO.call rfl rfl (fk Tryz.func70) (fun cB ek du=>((mH _ _ S F keep e ks cB ⟨_,_,_,_,_,_,_,_,_,_,_,_,_,_,_,_,rfl,hS.k,hF.k⟩ ⟨_,_,_,_,_,_,_,_,_,_,_,_,_,_,_,_,rfl,hN.k,hE.k⟩ se (by omega)).mono (fun o w2 h=>And.intro h du.1.size)).mono ?_)
 rintro o w1 ⟨⟨r1,rfl,q1,aV⟩,EC⟩
 obtain ⟨s1,p1,n1,c1,t1,y1,m1,d1,rfl⟩:=q1.form
 refine ⟨_,rfl,aV,fun e9 _ bb1=>wV rfl ?_⟩
 replace q1:=q1.mono (Nat.le_trans hB EC)
 (repeat first|refine wN ?_|refine wP rfl ?_|refine af rfl ?_|refine ag rfl ?_|refine wO rfl rfl ?_)
 refine VO.call rfl rfl (fk Tryz.func44) (fun dB gp et=>((bE 0 dB (by omega) (by omega)).mono (fun o w2 h=>And.intro h et.1.size)).mono ?_)
 rintro o w2 ⟨⟨r2,rfl,q2,bl⟩,qF⟩
 obtain ⟨s2,p2,n2,c2,t2,y2,m2,d2,rfl⟩:=q2.form
 refine ⟨_,rfl,bl,fun fX _ bb2=>wV rfl ?_⟩
 replace q2:=q2.mono (Nat.le_trans hB qF)
 (repeat first|refine wN ?_|refine wP rfl ?_|refine af rfl ?_|refine ag rfl ?_|refine wO rfl rfl ?_)
 refine VO.call rfl rfl (fk Tryz.func44) (fun gr gX gU=>((bE 0 gr (by omega) (by omega)).mono (fun o w2 h=>And.intro h gU.1.size)).mono ?_)
 rintro o w3 ⟨⟨r3,rfl,q3,cC⟩,xz⟩
 obtain ⟨s3,p3,n3,c3,t3,y3,m3,d3,rfl⟩:=q3.form
 refine ⟨_,rfl,cC,fun kh _ bb3=>wV rfl ?_⟩
 replace q3:=q3.mono (Nat.le_trans hB xz)
 (repeat first|refine wN ?_|refine wP rfl ?_|refine af rfl ?_|refine ag rfl ?_|refine wO rfl rfl ?_)
 refine VO.fG rfl (fk Tryz.func71) (fun mZ β pR qx ho=>((fH _ _ e.1 [aD S F e.2] kk mZ ((hN.k).up (by omega)) (dV (ho.own 20 (.base (List.mem_singleton.2 rfl)) _ _ rfl) [] (vs:=[[.bool s1,.slice p1 n1 c1,.bool t1,.slice y1 m1 d1]]) (by rfl) rfl (bX.cons (q1.ki (hK _ vC (by grind) (by grind))) bX.nil) (Nat.le_of_ble_eq_true rfl) (by decide)) (by omega) (Nat.le_of_ble_eq_true rfl)).mono (fun o w2 h=>And.intro h qx.1.size)).mono ?_)
 rintro o w4 ⟨⟨r4,rfl,q4,z4,gT⟩,ED⟩
 rw [gQ] at q4
 obtain ⟨s4,p4,n4,c4,t4,y4,m4,d4,rfl⟩:=q4.form
 refine ⟨_,rfl,gT,fun oQ _ AJ=>wV rfl ?_⟩
 replace q4:=q4.mono (Nat.le_trans hB ED)
 (repeat first|refine wN ?_|refine wP rfl ?_|refine af rfl ?_|refine ag rfl ?_|refine wO rfl rfl ?_)
 refine VO.call rfl rfl (fk Tryz.func72) (fun j9 mw kj=>((bV _ _ e.1 (ai e.1 (aD S F e.2)) kk kk j9 ((hN.k).up (by omega)) (q4.ki (hK _ g1 (by grind) (by grind))) (by omega) (by omega)).mono (fun o w2 h=>And.intro h kj.1.size)).mono ?_)
 rintro o w5 ⟨⟨r5,rfl,q5,gg⟩,qG⟩
 obtain ⟨s5,p5,n5,c5,t5,y5,m5,d5,rfl⟩:=q5.form
 refine ⟨_,rfl,gg,fun na _ wX=>wV rfl ?_⟩
 replace q5:=q5.mono (Nat.le_trans hB qG)
 (repeat first|refine wN ?_|refine wP rfl ?_|refine af rfl ?_|refine ag rfl ?_|refine wO rfl rfl ?_)
 refine VO.call rfl rfl (fk Tryz.func72) (fun pz uh tn=>((bV _ _ (aD S F e.2) (ai e.1 (aD S F e.2)) kk kk pz (q1.ki (hK _ vC (by grind) (by grind))) (q4.ki (hK _ g1 (by grind) (by grind))) (by omega) (by omega)).mono (fun o w2 h=>And.intro h tn.1.size)).mono ?_)
 rintro o w6 ⟨⟨r6,rfl,q6,mO⟩,EE⟩
 obtain ⟨s6,p6,n6,c6,t6,y6,m6,d6,rfl⟩:=q6.form
 refine ⟨_,rfl,mO,fun tp _ Cp=>wV rfl ?_⟩
 replace q6:=q6.mono (Nat.le_trans hB EE)
 (repeat first|refine wN ?_|refine wP rfl ?_|refine af rfl ?_|refine ag rfl ?_|refine wO rfl rfl ?_)
 have lW:di S F keep ([]:List aN).length ⟨[],[],[]⟩ e=rR keep ([]:List aN).length ⟨kt ([]:List aN).length (e.1 - ai e.1 (aD S F e.2)) (kP [] (aD S F e.2 - ai e.1 (aD S F e.2))),[]++[dC S F [] e],[]++nw ([]:List aN).length [] (aD S F e.2 - ai e.1 (aD S F e.2))⟩:=rfl
 refine VO.rZ (B:=B) (mm:=aD S F e.2 - ai e.1 (aD S F e.2)) kk rfl rfl (fk Tryz.func73) rfl (fun tX EF FL=>q6.kr) hB (fun w7 r7 k7 b7 q7=> ?_)
 obtain ⟨s7,p7,n7,c7,t7,y7,m7,d7,rfl⟩:=q7.form
 refine wV rfl ?_
 (repeat first|refine wN ?_|refine wP rfl ?_|refine af rfl ?_|refine ag rfl ?_|refine wO rfl rfl ?_)
 have nh:([]:List Uq)++nw ([]:List aN).length [] (aD S F e.2 - ai e.1 (aD S F e.2))=[]:=rfl
 obtain ⟨u1,u2,u3⟩:=tx (q:=[]) (m:=aD S F e.2 - ai e.1 (aD S F e.2)) (fun p hp=>(by cases hp)) g7 g8
 refine VO.call rfl rfl (fk Tryz.func16) (fun uK Ei za=>((dw _ _ (ai e.1 (aD S F e.2)) ((0:Rat)) kk kk uK (q4.ki (hK _ g1 (by grind) (by grind))) (q7.ki (hK _ u1 (by grind) (by grind))) (by omega) (by omega)).mono (fun o w2 h=>And.intro h za.1.size)).mono ?_)
 rintro o w8 ⟨⟨r8,rfl,q8,qM⟩,yi⟩
 obtain ⟨s8,p8,n8,c8,t8,y8,m8,d8,rfl⟩:=q8.form
 refine ⟨_,rfl,qM,fun vz _ Ii=>wV rfl ?_⟩
 replace q8:=q8.mono (Nat.le_trans hB yi)
 (repeat first|refine wN ?_|refine wP rfl ?_|refine af rfl ?_|refine ag rfl ?_|refine wO rfl rfl ?_)
 have Kd:((0:Int):Rat)=0:=rfl
 have Al:dD B w8 [.bool s1,.slice p1 n1 c1,.bool t1,.slice y1 m1 d1,.bool s4,.slice p4 n4 c4,.bool t4,.slice y4 m4 d4,.bool s5,.slice p5 n5 c5,.bool t5,.slice y5 m5 d5,.bool s7,.slice p7 n7 c7,.bool t7,.slice y7 m7 d7,.bool s8,.slice p8 n8 c8,.bool t8,.slice y8 m8 d8,.bool s2,.slice p2 n2 c2,.bool t2,.slice y2 m2 d2,.bool s3,.slice p3 n3 c3,.bool t3,.slice y3 m3 d3] (dC S F [] e):=⟨[.bool s1,.slice p1 n1 c1,.bool t1,.slice y1 m1 d1],[.bool s4,.slice p4 n4 c4,.bool t4,.slice y4 m4 d4],[.bool s5,.slice p5 n5 c5,.bool t5,.slice y5 m5 d5],[.bool s7,.slice p7 n7 c7,.bool t7,.slice y7 m7 d7],[.bool s8,.slice p8 n8 c8,.bool t8,.slice y8 m8 d8],[.bool s2,.slice p2 n2 c2,.bool t2,.slice y2 m2 d2],[.bool s3,.slice p3 n3 c3,.bool t3,.slice y3 m3 d3],rfl,⟨_,_,_,_,_,_,_,_,rfl,q1.k⟩,⟨_,_,_,_,_,_,_,_,rfl,q4.k⟩,⟨_,_,_,_,_,_,_,_,rfl,q5.k⟩,⟨_,_,_,_,_,_,_,_,rfl,q7.k⟩,⟨_,_,_,_,_,_,_,_,rfl,q8.k⟩,⟨_,_,_,_,_,_,_,_,rfl,q2.k⟩,⟨_,_,_,_,_,_,_,_,rfl,q3.k⟩⟩
 refine VO.app (bj _ _) (t:=33) (e:=dT) (sz:=28) (n:=0) (c:=0) (mm:=1) (known:=[]) (spare:=[]) (del:=none) (news:=([.bool s1,.slice p1 n1 c1,.bool t1,.slice y1 m1 d1,.bool s4,.slice p4 n4 c4,.bool t4,.slice y4 m4 d4,.bool s5,.slice p5 n5 c5,.bool t5,.slice y5 m5 d5,.bool s7,.slice p7 n7 c7,.bool t7,.slice y7 m7 d7,.bool s8,.slice p8 n8 c8,.bool t8,.slice y8 m8 d8,.bool s2,.slice p2 n2 c2,.bool t2,.slice y2 m2 d2,.bool s3,.slice p3 n3 c3,.bool t3,.slice y3 m3 d3]:List Value).map .val) (dst:=52) rfl rfl rfl rfl rfl rfl rfl rfl (Nat.le_of_ble_eq_true rfl) rfl (.inl ⟨rfl,rfl,rfl,rfl,rfl,rfl,by omega⟩) (.inl rfl) rfl rfl (Nat.le_refl _) (by omega) ⟨rfl,rfl,rfl⟩ ⟨rfl,rfl,rfl⟩ rfl (by omega)
  (fun w1 β k1 b1 ho=>⟨_,_,rfl,.inr ⟨β 51,0,rfl,cJ (rest:=[]) (ho.own 51 (.base (List.mem_append_right _ (List.mem_singleton.2 rfl))) _ _ rfl) rfl⟩⟩)
  (fun nv lx uN ρ FH FI fy jb gj eb Am iA=>wV rfl ?_)
 (repeat (first | refine wN ?_ | refine wP rfl ?_ | refine af rfl ?_ | refine wO rfl rfl ?_))
 obtain ⟨nx,sf⟩:∃ nx,nx=0 + 1:=⟨_,rfl⟩
 obtain ⟨qI,si⟩:∃ qI,qI=([[.bool s1,.slice p1 n1 c1,.bool t1,.slice y1 m1 d1,.bool s4,.slice p4 n4 c4,.bool t4,.slice y4 m4 d4,.bool s5,.slice p5 n5 c5,.bool t5,.slice y5 m5 d5,.bool s7,.slice p7 n7 c7,.bool t7,.slice y7 m7 d7,.bool s8,.slice p8 n8 c8,.bool t8,.slice y8 m8 d8,.bool s2,.slice p2 n2 c2,.bool t2,.slice y2 m2 d2,.bool s3,.slice p3 n3 c3,.bool t3,.slice y3 m3 d3]]:List (List Value)):=⟨_,rfl⟩
 have fm:nd (dD B) 28 nv nx lx qI uN ([]++[dC S F [] e]):=by rw [sf,si];exact ⟨rfl,.cons ((az B).kp Al (by (with_reducible (repeat (first | assumption | exact kU _ | exact kR _ | exact Kp.of (U:=UU) (by assumption) | exact aF.of (by assumption) | refine kT ?_ (by assumption)))))) .nil,Am,iA,jb,gj,by simpa using eb⟩
 refine VS.narrow [(0,.box 198 0),(2,.val (.int .i64 (([]:List aN).length:Int))),(5,.box 5 0),(8,.box 8 0)] [(198,(Runner,[.val (.slice none 0 0),.row 52 0 nx lx,.val (.slice none 0 0)])),(52,(dT,qI.flatten.map AV.val++uN)),(5,(28,([.bool sS,.slice pS nS cS,.bool tS,.slice yS mS dS,.bool sF,.slice pF nF cF,.bool tF,.slice yF mF dF,.int .i64 (keep:Int)]:List Value).map AV.val)),(8,(dT,([.bool s1,.slice p1 n1 c1,.bool t1,.slice y1 m1 d1,.bool s4,.slice p4 n4 c4,.bool t4,.slice y4 m4 d4,.bool s5,.slice p5 n5 c5,.bool t5,.slice y5 m5 d5,.bool s7,.slice p7 n7 c7,.bool t7,.slice y7 m7 d7,.bool s8,.slice p8 n8 c8,.bool t8,.slice y8 m8 d8,.bool s2,.slice p2 n2 c2,.bool t2,.slice y2 m2 d2,.bool s3,.slice p3 n3 c3,.bool t3,.slice y3 m3 d3]:List Value).map AV.val))] ⟨rfl,rfl,rfl,rfl,trivial⟩ ⟨by rw [sf];rfl,by rw [si];rfl,rfl,rfl,trivial⟩ rfl ⟨.lit rfl,.append (.vals _) (.none iA),.vals _,.vals _,trivial⟩ ?_
 refine VS.draw (bj _ _) (jL _ _) [74] (by kernel_rfl) (VO.run 80 rfl ?_)
 refine VO.CG (B:=B) (d2:=62) (d:=e.1 - ai e.1 (aD S F e.2)) kk rfl rfl rfl (fk Tryz.func74) rfl rfl (by show 62 < 2 * 99;omega) (fun j hj=> ?_) (Nat.le_of_ble_eq_true rfl) (fun tX EF FL=>q5.kr) (hK _ g4 (by grind) (by grind)) yV hB (fun AL k19 b19 C4=>wV rfl ?_) (fun AL nt FM FN k19 b19 C4 fx=>wV rfl ?_)
 ·have:j=52:=by simpa [ax,AV.cK] using hj
  subst this;intro h;cases h
 ·have uZ:kt ([]:List aN).length (e.1 - ai e.1 (aD S F e.2)) (kP [] (aD S F e.2 - ai e.1 (aD S F e.2)))=[]:=if_neg C4
  (repeat first|refine wN ?_|refine wP rfl ?_|refine af rfl ?_|refine ag rfl ?_|refine wO rfl rfl ?_)
  refine VO.cY (x:=.val (.slice none 0 0)) (p:=fun _=>none) (c:=0) rfl (fun β=>.inr ⟨none,rfl⟩) rfl (fk Tryz.func75) rfl (fun CJ Kz KA=>wV rfl ?_)
  (repeat first|refine wN ?_|refine wP rfl ?_|refine af rfl ?_|refine ag rfl ?_|refine wO rfl rfl ?_)
  have pD:di S F keep ([]:List aN).length ⟨[],[],[]⟩ e=⟨[],[]++[dC S F [] e],[]⟩:=by rw [lW,uZ,nh];rfl
  (repeat first|refine wN ?_|refine wP rfl ?_|refine af rfl ?_|refine ag rfl ?_|refine wO rfl rfl ?_)
  refine VS.ko (bj _ _) rfl (fun wz β kz oz en=> ?_)
  obtain ⟨o1,o2⟩:=ea (en.own 198 _ _ rfl) 0 g rfl rfl
  have oR:=(en.own 52 _ _ rfl).cls
  rw [List.map_append,ah] at oR
  have nR:=fe hB dU (show cA 99 [g] w 52 (β 52) from (en.own 52 _ _ rfl).new)
  rw [pD]
  refine ⟨rfl,oz.1,[g,β 52],⟨fun b hb=> ?_,_,_,_,o2,?_⟩⟩
  ·simp only [List.mem_cons,List.not_mem_nil,or_false] at hb
   rcases hb with rfl | rfl
   ·exact zc
   ·exact nR
  ·exact .inr (.inl ⟨β 52,rfl,rfl,rfl,rfl,rfl,⟨_,_,_,_,rfl,oR,(fm.kp (az B) (by (with_reducible (repeat (first | assumption | exact kU _ | exact kR _ | exact Kp.of (U:=UU) (by assumption) | exact aF.of (by assumption) | refine kT ?_ (by assumption)))))).o β⟩⟩)
 ·obtain ⟨q2,sj⟩:∃ q2:List Vq,q2=[(([]:List aN).length,e.1 - ai e.1 (aD S F e.2))]:=⟨_,rfl⟩
  rw [←sj] at fx
  have uZ:kt ([]:List aN).length (e.1 - ai e.1 (aD S F e.2)) (kP [] (aD S F e.2 - ai e.1 (aD S F e.2)))=q2:=by rw [sj];exact if_pos C4
  obtain ⟨nz,KB⟩:∃ nz,nz=1:=⟨_,rfl⟩
  obtain ⟨fu,CK⟩:∃ fu,fu=0:=⟨_,rfl⟩
  obtain ⟨ku,CL⟩:∃ ku:List Value,ku=[]:=⟨_,rfl⟩
  have fx:cX (cG B) 5 AL nz fu nt ku FM FN q2:=by rw [KB,CK,CL];exact fx
  refine VO.nil ?_
  refine VS.narrow [(0,.box 198 0),(2,.val (.int .i64 (([]:List aN).length:Int))),(5,.box 5 0),(8,.box 8 0)] [(198,(Runner,[.row 62 fu nz nt,.row 52 0 nx lx,.val (.slice none 0 0)])),(52,(dT,qI.flatten.map AV.val++uN)),(5,(28,([.bool sS,.slice pS nS cS,.bool tS,.slice yS mS dS,.bool sF,.slice pF nF cF,.bool tF,.slice yF mF dF,.int .i64 (keep:Int)]:List Value).map AV.val)),(8,(dT,([.bool s1,.slice p1 n1 c1,.bool t1,.slice y1 m1 d1,.bool s4,.slice p4 n4 c4,.bool t4,.slice y4 m4 d4,.bool s5,.slice p5 n5 c5,.bool t5,.slice y5 m5 d5,.bool s7,.slice p7 n7 c7,.bool t7,.slice y7 m7 d7,.bool s8,.slice p8 n8 c8,.bool t8,.slice y8 m8 d8,.bool s2,.slice p2 n2 c2,.bool t2,.slice y2 m2 d2,.bool s3,.slice p3 n3 c3,.bool t3,.slice y3 m3 d3]:List Value).map AV.val)),(62,(cM,(ku++(FM.flatten++FN)).map AV.val))] ⟨rfl,rfl,rfl,rfl,trivial⟩ ⟨by rw [CK,KB];rfl,rfl,rfl,rfl,by rw [CL];rfl,trivial⟩ rfl ⟨.lit rfl,.append (.vals _) (.none iA),.vals _,.vals _,.vals _,trivial⟩ ?_
  (repeat first|refine wN ?_|refine wP rfl ?_|refine af rfl ?_|refine ag rfl ?_|refine wO rfl rfl ?_)
  by_cases lD:nz=0
  ·refine VO.cY (x:=.row 62 fu nz nt) (p:=fun _=>none) (c:=nt) rfl (fun β=>.inr ⟨_,congrArg (fun n=>Value.slice (some ⟨β 62,fu,none⟩) n nt) lD⟩) rfl (fk Tryz.func75) rfl (fun CJ Kz KA=>wV rfl ?_)
   (repeat first|refine wN ?_|refine wP rfl ?_|refine af rfl ?_|refine ag rfl ?_|refine wO rfl rfl ?_)
   have Ao:q2=[]:=List.eq_nil_of_length_eq_zero (by rw [←fx.len];exact lD)
   have pD:di S F keep ([]:List aN).length ⟨[],[],[]⟩ e=⟨q2,[]++[dC S F [] e],[]⟩:=by rw [lW,uZ,nh,Ao];rfl
   (repeat first|refine wN ?_|refine wP rfl ?_|refine af rfl ?_|refine ag rfl ?_|refine wO rfl rfl ?_)
   refine VS.ko (bj _ _) rfl (fun wz β kz oz en=> ?_)
   obtain ⟨o1,o2⟩:=ea (en.own 198 _ _ rfl) 0 g rfl rfl
   have oR:=(en.own 52 _ _ rfl).cls
   rw [List.map_append,ah] at oR
   have nR:=fe hB dU (show cA 99 [g] w 52 (β 52) from (en.own 52 _ _ rfl).new)
   have oV:=(en.own 62 _ _ rfl).cls
   rw [ah] at oV
   have nV:=fe hB dU (show cA 99 [g] w 62 (β 62) from (en.own 62 _ _ rfl).new)
   rw [pD]
   refine ⟨rfl,oz.1,[g,β 62,β 52],⟨fun b hb=> ?_,_,_,_,o2,?_⟩⟩
   ·simp only [List.mem_cons,List.not_mem_nil,or_false] at hb
    rcases hb with rfl | rfl | rfl
    ·exact zc
    ·exact nV
    ·exact nR
   ·exact .inr (.inr (.inl ⟨β 62,β 52,rfl,rfl,rfl,⟨_,_,_,_,_,_,rfl,oV,fx.kp (aM B) (by (with_reducible (repeat (first | assumption | exact kU _ | exact kR _ | exact Kp.of (U:=UU) (by assumption) | exact aF.of (by assumption) | refine kT ?_ (by assumption)))))⟩,⟨_,_,_,_,rfl,oR,(fm.kp (az B) (by (with_reducible (repeat (first | assumption | exact kU _ | exact kR _ | exact Kp.of (U:=UU) (by assumption) | exact aF.of (by assumption) | refine kT ?_ (by assumption)))))).o β⟩⟩))
  obtain ⟨pp,qt,Jr⟩:∃ pp qt,q2=pp::qt:=by
   cases q2 with
   | nil=>exact absurd fx.len lD
   | cons pp qt=>exact ⟨pp,qt,rfl⟩
  subst Jr
  obtain ⟨Ap,vE,rfl,hE4,sk⟩:∃ Ap vE,FM=Ap::vE∧cG B AL Ap pp∧cL (cG B) AL qt vE:=by
   have:=fx.el
   cases this with
   | cons h1 h2=>exact ⟨_,_,rfl,h1,h2⟩
  obtain ⟨s9,p9,n9,c9,t9,y9,m9,d9,rfl,Ho⟩:=hE4
  have Aq:=fx.le
  have Ar:=fx.len
  have Au:=fx.cm
  have jF:ku.length=fu:=fx.pl.resolve_right (by omega)
  refine VO.cH rfl rfl (fk Tryz.func75) rfl lD (by intro h;cases h) (fun CJ Kz KA=>wV rfl ?_)
  (repeat first|refine wN ?_|refine wP rfl ?_|refine af rfl ?_|refine ag rfl ?_|refine wO rfl rfl ?_)
  refine VO.df rfl (([.int .i64 (pp.1:Int)]:List Value).map .val) rfl (bg jF 0 _ ⟨_,rfl⟩) (wV rfl ?_)
  (repeat first|refine wN ?_|refine wP rfl ?_|refine af rfl ?_|refine ag rfl ?_|refine wO rfl rfl ?_)
  have FO:IntKind.i64.wrap ((([]:List aN).length:Int) - (keep:Int))=(([]:List aN).length:Int) - (keep:Int):=IntWalk.i64_in _ (by omega)
  by_cases hx:pp.1 + keep=([]:List aN).length
  ·refine VS.bD rfl (by rw [FO,beq_iff_eq];omega) ?_
   (repeat first|refine wN ?_|refine wP rfl ?_|refine af rfl ?_|refine ag rfl ?_|refine wO rfl rfl ?_)
   refine VO.df rfl (([.int .i64 (pp.1:Int)]:List Value).map .val) rfl (bg jF 0 _ ⟨_,rfl⟩) (wV rfl ?_)
   (repeat first|refine wN ?_|refine wP rfl ?_|refine af rfl ?_|refine ag rfl ?_|refine wO rfl rfl ?_)
   refine VO.df rfl (([.bool s9,.slice p9 n9 c9,.bool t9,.slice y9 m9 d9]:List Value).map .val) rfl (bg jF 1 _ ⟨[],rfl⟩) (wV rfl ?_)
   (repeat first|refine wN ?_|refine wP rfl ?_|refine af rfl ?_|refine ag rfl ?_|refine wO rfl rfl ?_)
   have ff:=fm.len
   have BP:pp.1 < nx:=by rw [ff,List.length_append,List.length_singleton];omega
   refine VO.cond rfl ⟨by omega,by omega⟩ (wV rfl ?_)
   obtain ⟨rq,zd⟩:∃ rq,([]++[dC S F [] e])[pp.1]? =some rq:=⟨_,List.getElem?_eq_getElem (by rw [←ff];exact BP)⟩
   obtain ⟨ze,tz,zf⟩:=fm.el.at pp.1 rq zd
   have gF:=fm.fl
   have Hq:=fm.le
   refine VO.cond rfl (by show 0 + ((pp.1:Int)).toNat * 28 + 20 + 4≤_;rw [gF,Int.toNat_natCast];omega) (VO.fo 52 rfl (kc (new:=[.bool s9,.slice p9 n9 c9,.bool t9,.slice y9 m9 d9]) (o:=20) (fm.el.lens (az B)) tz (Nat.le_of_ble_eq_true rfl)) (wV rfl ?_))
   (repeat first|refine wN ?_|refine wP rfl ?_|refine af rfl ?_|refine ag rfl ?_|refine wO rfl rfl ?_)
   have hR3:nd (dD B) 28 CJ nx lx (qI.set pp.1 (ze.take 20++([.bool s9,.slice p9 n9 c9,.bool t9,.slice y9 m9 d9]++ze.drop (20 + ([.bool s9,.slice p9 n9 c9,.bool t9,.slice y9 m9 d9]:List Value).length)))) uN (([]++[dC S F [] e]).modify pp.1 (fun r=>{ r with aZ:=pp.2 })):=
    ⟨by rw [List.length_modify];exact ff,by rw [gI zd];exact (fm.el.kp (az B) (by (with_reducible (repeat (first | assumption | exact kU _ | exact kR _ | exact Kp.of (U:=UU) (by assumption) | exact aF.of (by assumption) | refine kT ?_ (by assumption)))))).set (oB ((az B).kp zf (by (with_reducible (repeat (first | assumption | exact kU _ | exact kR _ | exact Kp.of (U:=UU) (by assumption) | exact aF.of (by assumption) | refine kT ?_ (by assumption)))))) ⟨_,_,_,_,_,_,_,_,rfl,Ho.kp (by (with_reducible (repeat (first | assumption | exact kU _ | exact kR _ | exact Kp.of (U:=UU) (by assumption) | exact aF.of (by assumption) | refine kT ?_ (by assumption)))))⟩),fm.so,fm.sl,fm.le,fm.cm,by
     rw [List.length_append,List.length_map,cV (ke (fm.el.lens (az B)) (sb ((az B).len zf) rfl)),List.length_set]
     rw [List.length_append,List.length_map,cV (fm.el.lens (az B))] at gF
     exact gF⟩
   refine VO.iz rfl rfl (fk Tryz.func76) rfl (by omega) Aq Au (fun j hj=> ?_) (Nat.le_of_ble_eq_true rfl) (fun w21 k21 b21=>wV rfl ?_)
   ·simp only [ax,AV.cK,List.flatMap_cons,List.flatMap_nil,List.mem_append,List.mem_cons,List.not_mem_nil,or_false,List.append_nil] at hj
    rcases hj with rfl | rfl <;> (intro h;cases h)
   (repeat first|refine wN ?_|refine wP rfl ?_|refine af rfl ?_|refine ag rfl ?_|refine wO rfl rfl ?_)
   have hV4:cX (cG B) 5 w21 (nz - 1) (if nt=1 then fu else fu + 5) (nt - 1) (ku++[.int .i64 (pp.1:Int),.bool s9,.slice p9 n9 c9,.bool t9,.slice y9 m9 d9]) vE FN qt:=⟨by rw [Ar];rfl,mD jF,by rw [List.all_append,fx.po];rfl,sk.kp (aM B) (by (with_reducible (repeat (first | assumption | exact kU _ | exact kR _ | exact Kp.of (U:=UU) (by assumption) | exact aF.of (by assumption) | refine kT ?_ (by assumption))))),fx.so,by omega,by omega,mG fx.fl⟩
   have pD:di S F keep ([]:List aN).length ⟨[],[],[]⟩ e=⟨qt,([]++[dC S F [] e]).modify pp.1 (fun r=>{ r with aZ:=pp.2 }),[]⟩:=by
    rw [lW,uZ,nh]
    exact if_pos hx
   (repeat first|refine wN ?_|refine wP rfl ?_|refine af rfl ?_|refine ag rfl ?_|refine wO rfl rfl ?_)
   refine VS.ko (bj _ _) rfl (fun wz β kz oz en=> ?_)
   obtain ⟨o1,o2⟩:=ea (en.own 198 _ _ rfl) 0 g rfl rfl
   have oR:=(en.own 52 _ _ rfl).cls
   rw [List.map_append,ah] at oR
   have nR:=fe hB dU (show cA 99 [g] w 52 (β 52) from (en.own 52 _ _ rfl).new)
   have oV:=(en.own 62 _ _ rfl).cls
   rw [dL,ah] at oV
   have nV:=fe hB dU (show cA 99 [g] w 62 (β 62) from (en.own 62 _ _ rfl).new)
   rw [pD]
   refine ⟨rfl,oz.1,[g,β 62,β 52],⟨fun b hb=> ?_,_,_,_,o2,?_⟩⟩
   ·simp only [List.mem_cons,List.not_mem_nil,or_false] at hb
    rcases hb with rfl | rfl | rfl
    ·exact zc
    ·exact nV
    ·exact nR
   ·exact .inr (.inr (.inl ⟨β 62,β 52,rfl,rfl,rfl,⟨_,_,_,_,_,_,rfl,oV,hV4.kp (aM B) (by (with_reducible (repeat (first | assumption | exact kU _ | exact kR _ | exact Kp.of (U:=UU) (by assumption) | exact aF.of (by assumption) | refine kT ?_ (by assumption)))))⟩,⟨_,_,_,_,rfl,oR,(hR3.kp (az B) (by (with_reducible (repeat (first | assumption | exact kU _ | exact kR _ | exact Kp.of (U:=UU) (by assumption) | exact aF.of (by assumption) | refine kT ?_ (by assumption)))))).o β⟩⟩))
  ·refine VS.bt rfl (by rw [FO,beq_eq_false_iff_ne];omega) ?_
   have pD:di S F keep ([]:List aN).length ⟨[],[],[]⟩ e=⟨pp::qt,[]++[dC S F [] e],[]⟩:=by
    rw [lW,uZ,nh]
    exact if_neg hx
   (repeat first|refine wN ?_|refine wP rfl ?_|refine af rfl ?_|refine ag rfl ?_|refine wO rfl rfl ?_)
   refine VS.ko (bj _ _) rfl (fun wz β kz oz en=> ?_)
   obtain ⟨o1,o2⟩:=ea (en.own 198 _ _ rfl) 0 g rfl rfl
   have oR:=(en.own 52 _ _ rfl).cls
   rw [List.map_append,ah] at oR
   have nR:=fe hB dU (show cA 99 [g] w 52 (β 52) from (en.own 52 _ _ rfl).new)
   have oV:=(en.own 62 _ _ rfl).cls
   rw [ah] at oV
   have nV:=fe hB dU (show cA 99 [g] w 62 (β 62) from (en.own 62 _ _ rfl).new)
   rw [pD]
   refine ⟨rfl,oz.1,[g,β 62,β 52],⟨fun b hb=> ?_,_,_,_,o2,?_⟩⟩
   ·simp only [List.mem_cons,List.not_mem_nil,or_false] at hb
    rcases hb with rfl | rfl | rfl
    ·exact zc
    ·exact nV
    ·exact nR
   ·exact .inr (.inr (.inl ⟨β 62,β 52,rfl,rfl,rfl,⟨_,_,_,_,_,_,rfl,oV,fx.kp (aM B) (by (with_reducible (repeat (first | assumption | exact kU _ | exact kR _ | exact Kp.of (U:=UU) (by assumption) | exact aF.of (by assumption) | refine kT ?_ (by assumption)))))⟩,⟨_,_,_,_,rfl,oR,(fm.kp (az B) (by (with_reducible (repeat (first | assumption | exact kU _ | exact kR _ | exact Kp.of (U:=UU) (by assumption) | exact aF.of (by assumption) | refine kT ?_ (by assumption)))))).o β⟩⟩))
end Go.Proofs.YtabalinjfgcfeaaGreat
set_option maxRecDepth 4000
namespace Go.Proofs.YtabalinjfgcfeaaGreat
open Go.RowKit
attribute [local irreducible] aB VS
set_option maxRecDepth 4000 in
set_option maxHeartbeats 16000000 in
theorem iYear_B {B g keep D kk ks:Nat} {M S F:Rat} {e:Rat×Rat} {rb nr cr:Nat} {sK:List (List Value)} {uA:List Value} {q:List Vq} {rows:List aN} {uses:List Uq} {v u:Value} {w:World} (hg:aW w g Runner #[.slice none 0 0,.slice (some ⟨rb,0,none⟩) nr cr,.slice none 0 0]) (zg:aW w rb dT (sK.flatten++uA).toArray) (hR:cX (dD B) 28 w nr 0 cr [] sK uA rows)
  (uM:EB w v S F keep ks) (Im:YrV w u e ks) (se:1≤ks) (yh:ks≤kk) (yV:kk≤100000) (vC:Iz D (aD S F e.2)) (Dh:aD S F e.2≤M) (Ip:Iz D e.1) (gK: -M≤e.1) (Di:e.1≤M) (hK:∀ x,Iz D x→-(M + M)≤x→x≤M + M→dQ x kk)
  (vD:xy D M ⟨[],rows,[]⟩) (uy:(rows:List aN).length≤64) (uz:keep≤40) (hB:B≤w.heap.size) (dU:∀ b∈[g,rb],B≤b):
  Calls Tryz.prog 39 #[.pointer (some ⟨g,0,none⟩),v,.int .i64 ((rows:List aN).length:Int),u] w fun o w'=>o=.returned (iB [])∧qn [g,rb] w w'∧∃ Ky,mP B w' g Ky (di S F keep (rows:List aN).length ⟨[],rows,[]⟩ e):=by
 have hL0:=mB S F e.2
 have hM0:0≤M:=by grind
 obtain ⟨g1,g2,g3,g4,g5,g6,g7,g8,g9⟩:=sa vC hL0 Dh Ip gK Di
 have zc:B≤g:=dU g (by simp)
 have hlen:=vD.len
 obtain ⟨sS,pS,nS,cS,tS,yS,mS,dS,sF,pF,nF,cF,tF,yF,mF,dF,rfl,hS,hF⟩:=uM
 obtain ⟨sN,pN,nN,cN,tN,yN,mN,dN,sE,pE,nE,cE,tE,yE,mE,dE,rfl,hN,hE⟩:=Im
 have pC:iE (KU UU) 99 [g,rb] [(Runner,[.val (.slice none 0 0),.row 199 0 nr cr,.val (.slice none 0 0)]),(dT,(sK.flatten++uA).map .val)] w:=by
  have Ht:g≠rb:=fun e=>by subst e;exact absurd (bn hg zg) (by decide)
  refine ⟨rfl,by simp [Ht],fun j g' c' hj hc=> ?_,fun c' hc=> ?_,fun c' hc k hk=> ?_⟩
  ·match j,hj,hc with
   | 0,hj,hc=>cases hj;cases hc;exact hg
   | 1,hj,hc=>cases hj;cases hc;rw [ah];exact zg
   | j + 2,hj,_=>simp at hj
  ·simp only [List.mem_cons,List.not_mem_nil,or_false] at hc
   rcases hc with rfl | rfl
   ·exact ⟨rfl,rfl⟩
   ·exact ⟨rfl,ba (hR.all (az B))⟩
  ·simp only [List.mem_cons,List.not_mem_nil,or_false] at hc
   rcases hc with rfl | rfl
   ·have:k=199:=by simpa [ax,AV.cK] using hk
    subst this;exact ⟨by omega,by show 199 < 2 * 99 + 2;omega⟩
   ·rw [ao] at hk;cases hk
 refine dZ Tryz.prog w _ (KU UU) (fun t=>Nat.beq t 22) table (fun _ _=>trivial) (ad:=[g,rb]) (us:=[_,_,_]) Tryz.func39 rfl Tryz.ntmps39 (Nat.le_of_ble_eq_true rfl) pC (Nat.le_of_ble_eq_true rfl) ?_
 (repeat first|refine wN ?_|refine wP rfl ?_|refine af rfl ?_|refine ag rfl ?_|refine wO rfl rfl ?_)
 refine VO.call rfl rfl (fk Tryz.func70) (fun cB ek du=>((mH _ _ S F keep e ks cB ⟨_,_,_,_,_,_,_,_,_,_,_,_,_,_,_,_,rfl,hS.k,hF.k⟩ ⟨_,_,_,_,_,_,_,_,_,_,_,_,_,_,_,_,rfl,hN.k,hE.k⟩ se (by omega)).mono (fun o w2 h=>And.intro h du.1.size)).mono ?_)
 rintro o w1 ⟨⟨r1,rfl,q1,aV⟩,EC⟩
 obtain ⟨s1,p1,n1,c1,t1,y1,m1,d1,rfl⟩:=q1.form
 refine ⟨_,rfl,aV,fun e9 _ bb1=>wV rfl ?_⟩
 replace q1:=q1.mono (Nat.le_trans hB EC)
 (repeat first|refine wN ?_|refine wP rfl ?_|refine af rfl ?_|refine ag rfl ?_|refine wO rfl rfl ?_)
 refine VO.call rfl rfl (fk Tryz.func44) (fun dB gp et=>((bE 0 dB (by omega) (by omega)).mono (fun o w2 h=>And.intro h et.1.size)).mono ?_)
 rintro o w2 ⟨⟨r2,rfl,q2,bl⟩,qF⟩
 obtain ⟨s2,p2,n2,c2,t2,y2,m2,d2,rfl⟩:=q2.form
 refine ⟨_,rfl,bl,fun fX _ bb2=>wV rfl ?_⟩
 replace q2:=q2.mono (Nat.le_trans hB qF)
 (repeat first|refine wN ?_|refine wP rfl ?_|refine af rfl ?_|refine ag rfl ?_|refine wO rfl rfl ?_)
 refine VO.call rfl rfl (fk Tryz.func44) (fun gr gX gU=>((bE 0 gr (by omega) (by omega)).mono (fun o w2 h=>And.intro h gU.1.size)).mono ?_)
 rintro o w3 ⟨⟨r3,rfl,q3,cC⟩,xz⟩
 obtain ⟨s3,p3,n3,c3,t3,y3,m3,d3,rfl⟩:=q3.form
 refine ⟨_,rfl,cC,fun kh _ bb3=>wV rfl ?_⟩
 replace q3:=q3.mono (Nat.le_trans hB xz)
 (repeat first|refine wN ?_|refine wP rfl ?_|refine af rfl ?_|refine ag rfl ?_|refine wO rfl rfl ?_)
 refine VO.fG rfl (fk Tryz.func71) (fun mZ β pR qx ho=>((fH _ _ e.1 [aD S F e.2] kk mZ ((hN.k).up (by omega)) (dV (ho.own 20 (.base (List.mem_singleton.2 rfl)) _ _ rfl) [] (vs:=[[.bool s1,.slice p1 n1 c1,.bool t1,.slice y1 m1 d1]]) (by rfl) rfl (bX.cons (q1.ki (hK _ vC (by grind) (by grind))) bX.nil) (Nat.le_of_ble_eq_true rfl) (by decide)) (by omega) (Nat.le_of_ble_eq_true rfl)).mono (fun o w2 h=>And.intro h qx.1.size)).mono ?_)
 rintro o w4 ⟨⟨r4,rfl,q4,z4,gT⟩,ED⟩
 rw [gQ] at q4
 obtain ⟨s4,p4,n4,c4,t4,y4,m4,d4,rfl⟩:=q4.form
 refine ⟨_,rfl,gT,fun oQ _ AJ=>wV rfl ?_⟩
 replace q4:=q4.mono (Nat.le_trans hB ED)
 (repeat first|refine wN ?_|refine wP rfl ?_|refine af rfl ?_|refine ag rfl ?_|refine wO rfl rfl ?_)
 refine VO.call rfl rfl (fk Tryz.func72) (fun j9 mw kj=>((bV _ _ e.1 (ai e.1 (aD S F e.2)) kk kk j9 ((hN.k).up (by omega)) (q4.ki (hK _ g1 (by grind) (by grind))) (by omega) (by omega)).mono (fun o w2 h=>And.intro h kj.1.size)).mono ?_)
 rintro o w5 ⟨⟨r5,rfl,q5,gg⟩,qG⟩
 obtain ⟨s5,p5,n5,c5,t5,y5,m5,d5,rfl⟩:=q5.form
 refine ⟨_,rfl,gg,fun na _ wX=>wV rfl ?_⟩
 replace q5:=q5.mono (Nat.le_trans hB qG)
 (repeat first|refine wN ?_|refine wP rfl ?_|refine af rfl ?_|refine ag rfl ?_|refine wO rfl rfl ?_)
 refine VO.call rfl rfl (fk Tryz.func72) (fun pz uh tn=>((bV _ _ (aD S F e.2) (ai e.1 (aD S F e.2)) kk kk pz (q1.ki (hK _ vC (by grind) (by grind))) (q4.ki (hK _ g1 (by grind) (by grind))) (by omega) (by omega)).mono (fun o w2 h=>And.intro h tn.1.size)).mono ?_)
 rintro o w6 ⟨⟨r6,rfl,q6,mO⟩,EE⟩
 obtain ⟨s6,p6,n6,c6,t6,y6,m6,d6,rfl⟩:=q6.form
 refine ⟨_,rfl,mO,fun tp _ Cp=>wV rfl ?_⟩
 replace q6:=q6.mono (Nat.le_trans hB EE)
 (repeat first|refine wN ?_|refine wP rfl ?_|refine af rfl ?_|refine ag rfl ?_|refine wO rfl rfl ?_)
 have lW:di S F keep (rows:List aN).length ⟨[],rows,[]⟩ e=rR keep (rows:List aN).length ⟨kt (rows:List aN).length (e.1 - ai e.1 (aD S F e.2)) (kP [] (aD S F e.2 - ai e.1 (aD S F e.2))),rows++[dC S F [] e],[]++nw (rows:List aN).length [] (aD S F e.2 - ai e.1 (aD S F e.2))⟩:=rfl
 refine VO.rZ (B:=B) (mm:=aD S F e.2 - ai e.1 (aD S F e.2)) kk rfl rfl (fk Tryz.func73) rfl (fun tX EF FL=>q6.kr) hB (fun w7 r7 k7 b7 q7=> ?_)
 obtain ⟨s7,p7,n7,c7,t7,y7,m7,d7,rfl⟩:=q7.form
 refine wV rfl ?_
 (repeat first|refine wN ?_|refine wP rfl ?_|refine af rfl ?_|refine ag rfl ?_|refine wO rfl rfl ?_)
 have nh:([]:List Uq)++nw (rows:List aN).length [] (aD S F e.2 - ai e.1 (aD S F e.2))=[]:=rfl
 obtain ⟨u1,u2,u3⟩:=tx (q:=[]) (m:=aD S F e.2 - ai e.1 (aD S F e.2)) (fun p hp=>(by cases hp)) g7 g8
 refine VO.call rfl rfl (fk Tryz.func16) (fun uK Ei za=>((dw _ _ (ai e.1 (aD S F e.2)) ((0:Rat)) kk kk uK (q4.ki (hK _ g1 (by grind) (by grind))) (q7.ki (hK _ u1 (by grind) (by grind))) (by omega) (by omega)).mono (fun o w2 h=>And.intro h za.1.size)).mono ?_)
 rintro o w8 ⟨⟨r8,rfl,q8,qM⟩,yi⟩
 obtain ⟨s8,p8,n8,c8,t8,y8,m8,d8,rfl⟩:=q8.form
 refine ⟨_,rfl,qM,fun vz _ Ii=>wV rfl ?_⟩
 replace q8:=q8.mono (Nat.le_trans hB yi)
 (repeat first|refine wN ?_|refine wP rfl ?_|refine af rfl ?_|refine ag rfl ?_|refine wO rfl rfl ?_)
 have Kd:((0:Int):Rat)=0:=rfl
 have Al:dD B w8 [.bool s1,.slice p1 n1 c1,.bool t1,.slice y1 m1 d1,.bool s4,.slice p4 n4 c4,.bool t4,.slice y4 m4 d4,.bool s5,.slice p5 n5 c5,.bool t5,.slice y5 m5 d5,.bool s7,.slice p7 n7 c7,.bool t7,.slice y7 m7 d7,.bool s8,.slice p8 n8 c8,.bool t8,.slice y8 m8 d8,.bool s2,.slice p2 n2 c2,.bool t2,.slice y2 m2 d2,.bool s3,.slice p3 n3 c3,.bool t3,.slice y3 m3 d3] (dC S F [] e):=⟨[.bool s1,.slice p1 n1 c1,.bool t1,.slice y1 m1 d1],[.bool s4,.slice p4 n4 c4,.bool t4,.slice y4 m4 d4],[.bool s5,.slice p5 n5 c5,.bool t5,.slice y5 m5 d5],[.bool s7,.slice p7 n7 c7,.bool t7,.slice y7 m7 d7],[.bool s8,.slice p8 n8 c8,.bool t8,.slice y8 m8 d8],[.bool s2,.slice p2 n2 c2,.bool t2,.slice y2 m2 d2],[.bool s3,.slice p3 n3 c3,.bool t3,.slice y3 m3 d3],rfl,⟨_,_,_,_,_,_,_,_,rfl,q1.k⟩,⟨_,_,_,_,_,_,_,_,rfl,q4.k⟩,⟨_,_,_,_,_,_,_,_,rfl,q5.k⟩,⟨_,_,_,_,_,_,_,_,rfl,q7.k⟩,⟨_,_,_,_,_,_,_,_,rfl,q8.k⟩,⟨_,_,_,_,_,_,_,_,rfl,q2.k⟩,⟨_,_,_,_,_,_,_,_,rfl,q3.k⟩⟩
 obtain ⟨iC,ju⟩:=hR.el.ok (az B)
 have qX:=hR.len
 refine VO.app (bj _ _) (t:=33) (e:=dT) (sz:=28) (n:=nr) (c:=cr) (mm:=1) (known:=sK.flatten.map .val) (spare:=uA.map .val) (del:=some 199) (news:=([.bool s1,.slice p1 n1 c1,.bool t1,.slice y1 m1 d1,.bool s4,.slice p4 n4 c4,.bool t4,.slice y4 m4 d4,.bool s5,.slice p5 n5 c5,.bool t5,.slice y5 m5 d5,.bool s7,.slice p7 n7 c7,.bool t7,.slice y7 m7 d7,.bool s8,.slice p8 n8 c8,.bool t8,.slice y8 m8 d8,.bool s2,.slice p2 n2 c2,.bool t2,.slice y2 m2 d2,.bool s3,.slice p3 n3 c3,.bool t3,.slice y3 m3 d3]:List Value).map .val) (dst:=52) rfl rfl rfl rfl rfl rfl rfl rfl (Nat.le_of_ble_eq_true rfl) rfl (.inr ⟨199,rfl,congrArg (fun l=>some (dT,l)) (List.map_append ..),rfl⟩) (.inl rfl) (by rw [List.length_map,ju,qX]) (by rw [←List.map_append,List.length_map];exact hR.fl) hR.le hR.cm ⟨ao _,ao _,rfl⟩ ⟨ba iC,ba hR.so,rfl⟩ rfl (by omega)
  (fun w1 β k1 b1 ho=>⟨_,_,rfl,.inr ⟨β 51,0,rfl,cJ (rest:=[]) (ho.own 51 (.base (List.mem_append_right _ (List.mem_singleton.2 rfl))) _ _ rfl) rfl⟩⟩)
  (fun nv lx uN ρ FH FI fy jb gj eb Am iA=>wV rfl ?_)
 (repeat (first | refine wN ?_ | refine wP rfl ?_ | refine af rfl ?_ | refine wO rfl rfl ?_))
 obtain ⟨nx,sf⟩:∃ nx,nx=nr + 1:=⟨_,rfl⟩
 obtain ⟨qI,si⟩:∃ qI,qI=(sK++[[.bool s1,.slice p1 n1 c1,.bool t1,.slice y1 m1 d1,.bool s4,.slice p4 n4 c4,.bool t4,.slice y4 m4 d4,.bool s5,.slice p5 n5 c5,.bool t5,.slice y5 m5 d5,.bool s7,.slice p7 n7 c7,.bool t7,.slice y7 m7 d7,.bool s8,.slice p8 n8 c8,.bool t8,.slice y8 m8 d8,.bool s2,.slice p2 n2 c2,.bool t2,.slice y2 m2 d2,.bool s3,.slice p3 n3 c3,.bool t3,.slice y3 m3 d3]]:List (List Value)):=⟨_,rfl⟩
 have fm:nd (dD B) 28 nv nx lx qI uN (rows++[dC S F [] e]):=by rw [sf,si];exact ⟨by rw [qX,List.length_append];rfl,(hR.el.kp (az B) (by (with_reducible (repeat (first | assumption | exact kU _ | exact kR _ | exact Kp.of (U:=UU) (by assumption) | exact aF.of (by assumption) | refine kT ?_ (by assumption)))))).snoc ((az B).kp Al (by (with_reducible (repeat (first | assumption | exact kU _ | exact kR _ | exact Kp.of (U:=UU) (by assumption) | exact aF.of (by assumption) | refine kT ?_ (by assumption)))))),Am,iA,jb,gj,by simpa using eb⟩
 refine VS.narrow [(0,.box 198 0),(2,.val (.int .i64 ((rows:List aN).length:Int))),(5,.box 5 0),(8,.box 8 0)] [(198,(Runner,[.val (.slice none 0 0),.row 52 0 nx lx,.val (.slice none 0 0)])),(52,(dT,qI.flatten.map AV.val++uN)),(5,(28,([.bool sS,.slice pS nS cS,.bool tS,.slice yS mS dS,.bool sF,.slice pF nF cF,.bool tF,.slice yF mF dF,.int .i64 (keep:Int)]:List Value).map AV.val)),(8,(dT,([.bool s1,.slice p1 n1 c1,.bool t1,.slice y1 m1 d1,.bool s4,.slice p4 n4 c4,.bool t4,.slice y4 m4 d4,.bool s5,.slice p5 n5 c5,.bool t5,.slice y5 m5 d5,.bool s7,.slice p7 n7 c7,.bool t7,.slice y7 m7 d7,.bool s8,.slice p8 n8 c8,.bool t8,.slice y8 m8 d8,.bool s2,.slice p2 n2 c2,.bool t2,.slice y2 m2 d2,.bool s3,.slice p3 n3 c3,.bool t3,.slice y3 m3 d3]:List Value).map AV.val))] ⟨rfl,rfl,rfl,rfl,trivial⟩ ⟨by rw [sf];rfl,by rw [si];exact congrArg (fun l=>some (dT,l++uN)) (by simp),rfl,rfl,trivial⟩ rfl ⟨.lit rfl,.append (.vals _) (.none iA),.vals _,.vals _,trivial⟩ ?_
 refine VS.draw (bj _ _) (jL _ _) [74] (by kernel_rfl) (VO.run 80 rfl ?_)
 refine VO.CG (B:=B) (d2:=62) (d:=e.1 - ai e.1 (aD S F e.2)) kk rfl rfl rfl (fk Tryz.func74) rfl rfl (by show 62 < 2 * 99;omega) (fun j hj=> ?_) (Nat.le_of_ble_eq_true rfl) (fun tX EF FL=>q5.kr) (hK _ g4 (by grind) (by grind)) yV hB (fun AL k19 b19 C4=>wV rfl ?_) (fun AL nt FM FN k19 b19 C4 fx=>wV rfl ?_)
 ·have:j=52:=by simpa [ax,AV.cK] using hj
  subst this;intro h;cases h
 ·have uZ:kt (rows:List aN).length (e.1 - ai e.1 (aD S F e.2)) (kP [] (aD S F e.2 - ai e.1 (aD S F e.2)))=[]:=if_neg C4
  (repeat first|refine wN ?_|refine wP rfl ?_|refine af rfl ?_|refine ag rfl ?_|refine wO rfl rfl ?_)
  refine VO.cY (x:=.val (.slice none 0 0)) (p:=fun _=>none) (c:=0) rfl (fun β=>.inr ⟨none,rfl⟩) rfl (fk Tryz.func75) rfl (fun CJ Kz KA=>wV rfl ?_)
  (repeat first|refine wN ?_|refine wP rfl ?_|refine af rfl ?_|refine ag rfl ?_|refine wO rfl rfl ?_)
  have pD:di S F keep (rows:List aN).length ⟨[],rows,[]⟩ e=⟨[],rows++[dC S F [] e],[]⟩:=by rw [lW,uZ,nh];rfl
  (repeat first|refine wN ?_|refine wP rfl ?_|refine af rfl ?_|refine ag rfl ?_|refine wO rfl rfl ?_)
  refine VS.ko (bj _ _) rfl (fun wz β kz oz en=> ?_)
  obtain ⟨o1,o2⟩:=ea (en.own 198 _ _ rfl) 0 g rfl rfl
  have oR:=(en.own 52 _ _ rfl).cls
  rw [List.map_append,ah] at oR
  have nR:=fe hB dU (show cA 99 [g,rb] w 52 (β 52) from (en.own 52 _ _ rfl).new)
  rw [pD]
  refine ⟨rfl,oz.1,[g,β 52],⟨fun b hb=> ?_,_,_,_,o2,?_⟩⟩
  ·simp only [List.mem_cons,List.not_mem_nil,or_false] at hb
   rcases hb with rfl | rfl
   ·exact zc
   ·exact nR
  ·exact .inr (.inl ⟨β 52,rfl,rfl,rfl,rfl,rfl,⟨_,_,_,_,rfl,oR,(fm.kp (az B) (by (with_reducible (repeat (first | assumption | exact kU _ | exact kR _ | exact Kp.of (U:=UU) (by assumption) | exact aF.of (by assumption) | refine kT ?_ (by assumption)))))).o β⟩⟩)
 ·obtain ⟨q2,sj⟩:∃ q2:List Vq,q2=[((rows:List aN).length,e.1 - ai e.1 (aD S F e.2))]:=⟨_,rfl⟩
  rw [←sj] at fx
  have uZ:kt (rows:List aN).length (e.1 - ai e.1 (aD S F e.2)) (kP [] (aD S F e.2 - ai e.1 (aD S F e.2)))=q2:=by rw [sj];exact if_pos C4
  obtain ⟨nz,KB⟩:∃ nz,nz=1:=⟨_,rfl⟩
  obtain ⟨fu,CK⟩:∃ fu,fu=0:=⟨_,rfl⟩
  obtain ⟨ku,CL⟩:∃ ku:List Value,ku=[]:=⟨_,rfl⟩
  have fx:cX (cG B) 5 AL nz fu nt ku FM FN q2:=by rw [KB,CK,CL];exact fx
  refine VO.nil ?_
  refine VS.narrow [(0,.box 198 0),(2,.val (.int .i64 ((rows:List aN).length:Int))),(5,.box 5 0),(8,.box 8 0)] [(198,(Runner,[.row 62 fu nz nt,.row 52 0 nx lx,.val (.slice none 0 0)])),(52,(dT,qI.flatten.map AV.val++uN)),(5,(28,([.bool sS,.slice pS nS cS,.bool tS,.slice yS mS dS,.bool sF,.slice pF nF cF,.bool tF,.slice yF mF dF,.int .i64 (keep:Int)]:List Value).map AV.val)),(8,(dT,([.bool s1,.slice p1 n1 c1,.bool t1,.slice y1 m1 d1,.bool s4,.slice p4 n4 c4,.bool t4,.slice y4 m4 d4,.bool s5,.slice p5 n5 c5,.bool t5,.slice y5 m5 d5,.bool s7,.slice p7 n7 c7,.bool t7,.slice y7 m7 d7,.bool s8,.slice p8 n8 c8,.bool t8,.slice y8 m8 d8,.bool s2,.slice p2 n2 c2,.bool t2,.slice y2 m2 d2,.bool s3,.slice p3 n3 c3,.bool t3,.slice y3 m3 d3]:List Value).map AV.val)),(62,(cM,(ku++(FM.flatten++FN)).map AV.val))] ⟨rfl,rfl,rfl,rfl,trivial⟩ ⟨by rw [CK,KB];rfl,rfl,rfl,rfl,by rw [CL];rfl,trivial⟩ rfl ⟨.lit rfl,.append (.vals _) (.none iA),.vals _,.vals _,.vals _,trivial⟩ ?_
  (repeat first|refine wN ?_|refine wP rfl ?_|refine af rfl ?_|refine ag rfl ?_|refine wO rfl rfl ?_)
  by_cases lD:nz=0
  ·refine VO.cY (x:=.row 62 fu nz nt) (p:=fun _=>none) (c:=nt) rfl (fun β=>.inr ⟨_,congrArg (fun n=>Value.slice (some ⟨β 62,fu,none⟩) n nt) lD⟩) rfl (fk Tryz.func75) rfl (fun CJ Kz KA=>wV rfl ?_)
   (repeat first|refine wN ?_|refine wP rfl ?_|refine af rfl ?_|refine ag rfl ?_|refine wO rfl rfl ?_)
   have Ao:q2=[]:=List.eq_nil_of_length_eq_zero (by rw [←fx.len];exact lD)
   have pD:di S F keep (rows:List aN).length ⟨[],rows,[]⟩ e=⟨q2,rows++[dC S F [] e],[]⟩:=by rw [lW,uZ,nh,Ao];rfl
   (repeat first|refine wN ?_|refine wP rfl ?_|refine af rfl ?_|refine ag rfl ?_|refine wO rfl rfl ?_)
   refine VS.ko (bj _ _) rfl (fun wz β kz oz en=> ?_)
   obtain ⟨o1,o2⟩:=ea (en.own 198 _ _ rfl) 0 g rfl rfl
   have oR:=(en.own 52 _ _ rfl).cls
   rw [List.map_append,ah] at oR
   have nR:=fe hB dU (show cA 99 [g,rb] w 52 (β 52) from (en.own 52 _ _ rfl).new)
   have oV:=(en.own 62 _ _ rfl).cls
   rw [ah] at oV
   have nV:=fe hB dU (show cA 99 [g,rb] w 62 (β 62) from (en.own 62 _ _ rfl).new)
   rw [pD]
   refine ⟨rfl,oz.1,[g,β 62,β 52],⟨fun b hb=> ?_,_,_,_,o2,?_⟩⟩
   ·simp only [List.mem_cons,List.not_mem_nil,or_false] at hb
    rcases hb with rfl | rfl | rfl
    ·exact zc
    ·exact nV
    ·exact nR
   ·exact .inr (.inr (.inl ⟨β 62,β 52,rfl,rfl,rfl,⟨_,_,_,_,_,_,rfl,oV,fx.kp (aM B) (by (with_reducible (repeat (first | assumption | exact kU _ | exact kR _ | exact Kp.of (U:=UU) (by assumption) | exact aF.of (by assumption) | refine kT ?_ (by assumption)))))⟩,⟨_,_,_,_,rfl,oR,(fm.kp (az B) (by (with_reducible (repeat (first | assumption | exact kU _ | exact kR _ | exact Kp.of (U:=UU) (by assumption) | exact aF.of (by assumption) | refine kT ?_ (by assumption)))))).o β⟩⟩))
  obtain ⟨pp,qt,Jr⟩:∃ pp qt,q2=pp::qt:=by
   cases q2 with
   | nil=>exact absurd fx.len lD
   | cons pp qt=>exact ⟨pp,qt,rfl⟩
  subst Jr
  obtain ⟨Ap,vE,rfl,hE4,sk⟩:∃ Ap vE,FM=Ap::vE∧cG B AL Ap pp∧cL (cG B) AL qt vE:=by
   have:=fx.el
   cases this with
   | cons h1 h2=>exact ⟨_,_,rfl,h1,h2⟩
  obtain ⟨s9,p9,n9,c9,t9,y9,m9,d9,rfl,Ho⟩:=hE4
  have Aq:=fx.le
  have Ar:=fx.len
  have Au:=fx.cm
  have jF:ku.length=fu:=fx.pl.resolve_right (by omega)
  refine VO.cH rfl rfl (fk Tryz.func75) rfl lD (by intro h;cases h) (fun CJ Kz KA=>wV rfl ?_)
  (repeat first|refine wN ?_|refine wP rfl ?_|refine af rfl ?_|refine ag rfl ?_|refine wO rfl rfl ?_)
  refine VO.df rfl (([.int .i64 (pp.1:Int)]:List Value).map .val) rfl (bg jF 0 _ ⟨_,rfl⟩) (wV rfl ?_)
  (repeat first|refine wN ?_|refine wP rfl ?_|refine af rfl ?_|refine ag rfl ?_|refine wO rfl rfl ?_)
  have FO:IntKind.i64.wrap (((rows:List aN).length:Int) - (keep:Int))=((rows:List aN).length:Int) - (keep:Int):=IntWalk.i64_in _ (by omega)
  by_cases hx:pp.1 + keep=(rows:List aN).length
  ·refine VS.bD rfl (by rw [FO,beq_iff_eq];omega) ?_
   (repeat first|refine wN ?_|refine wP rfl ?_|refine af rfl ?_|refine ag rfl ?_|refine wO rfl rfl ?_)
   refine VO.df rfl (([.int .i64 (pp.1:Int)]:List Value).map .val) rfl (bg jF 0 _ ⟨_,rfl⟩) (wV rfl ?_)
   (repeat first|refine wN ?_|refine wP rfl ?_|refine af rfl ?_|refine ag rfl ?_|refine wO rfl rfl ?_)
   refine VO.df rfl (([.bool s9,.slice p9 n9 c9,.bool t9,.slice y9 m9 d9]:List Value).map .val) rfl (bg jF 1 _ ⟨[],rfl⟩) (wV rfl ?_)
   (repeat first|refine wN ?_|refine wP rfl ?_|refine af rfl ?_|refine ag rfl ?_|refine wO rfl rfl ?_)
   have ff:=fm.len
   have BP:pp.1 < nx:=by rw [ff,List.length_append,List.length_singleton];omega
   refine VO.cond rfl ⟨by omega,by omega⟩ (wV rfl ?_)
   obtain ⟨rq,zd⟩:∃ rq,(rows++[dC S F [] e])[pp.1]? =some rq:=⟨_,List.getElem?_eq_getElem (by rw [←ff];exact BP)⟩
   obtain ⟨ze,tz,zf⟩:=fm.el.at pp.1 rq zd
   have gF:=fm.fl
   have Hq:=fm.le
   refine VO.cond rfl (by show 0 + ((pp.1:Int)).toNat * 28 + 20 + 4≤_;rw [gF,Int.toNat_natCast];omega) (VO.fo 52 rfl (kc (new:=[.bool s9,.slice p9 n9 c9,.bool t9,.slice y9 m9 d9]) (o:=20) (fm.el.lens (az B)) tz (Nat.le_of_ble_eq_true rfl)) (wV rfl ?_))
   (repeat first|refine wN ?_|refine wP rfl ?_|refine af rfl ?_|refine ag rfl ?_|refine wO rfl rfl ?_)
   have hR3:nd (dD B) 28 CJ nx lx (qI.set pp.1 (ze.take 20++([.bool s9,.slice p9 n9 c9,.bool t9,.slice y9 m9 d9]++ze.drop (20 + ([.bool s9,.slice p9 n9 c9,.bool t9,.slice y9 m9 d9]:List Value).length)))) uN ((rows++[dC S F [] e]).modify pp.1 (fun r=>{ r with aZ:=pp.2 })):=
    ⟨by rw [List.length_modify];exact ff,by rw [gI zd];exact (fm.el.kp (az B) (by (with_reducible (repeat (first | assumption | exact kU _ | exact kR _ | exact Kp.of (U:=UU) (by assumption) | exact aF.of (by assumption) | refine kT ?_ (by assumption)))))).set (oB ((az B).kp zf (by (with_reducible (repeat (first | assumption | exact kU _ | exact kR _ | exact Kp.of (U:=UU) (by assumption) | exact aF.of (by assumption) | refine kT ?_ (by assumption)))))) ⟨_,_,_,_,_,_,_,_,rfl,Ho.kp (by (with_reducible (repeat (first | assumption | exact kU _ | exact kR _ | exact Kp.of (U:=UU) (by assumption) | exact aF.of (by assumption) | refine kT ?_ (by assumption)))))⟩),fm.so,fm.sl,fm.le,fm.cm,by
     rw [List.length_append,List.length_map,cV (ke (fm.el.lens (az B)) (sb ((az B).len zf) rfl)),List.length_set]
     rw [List.length_append,List.length_map,cV (fm.el.lens (az B))] at gF
     exact gF⟩
   refine VO.iz rfl rfl (fk Tryz.func76) rfl (by omega) Aq Au (fun j hj=> ?_) (Nat.le_of_ble_eq_true rfl) (fun w21 k21 b21=>wV rfl ?_)
   ·simp only [ax,AV.cK,List.flatMap_cons,List.flatMap_nil,List.mem_append,List.mem_cons,List.not_mem_nil,or_false,List.append_nil] at hj
    rcases hj with rfl | rfl <;> (intro h;cases h)
   (repeat first|refine wN ?_|refine wP rfl ?_|refine af rfl ?_|refine ag rfl ?_|refine wO rfl rfl ?_)
   have hV4:cX (cG B) 5 w21 (nz - 1) (if nt=1 then fu else fu + 5) (nt - 1) (ku++[.int .i64 (pp.1:Int),.bool s9,.slice p9 n9 c9,.bool t9,.slice y9 m9 d9]) vE FN qt:=⟨by rw [Ar];rfl,mD jF,by rw [List.all_append,fx.po];rfl,sk.kp (aM B) (by (with_reducible (repeat (first | assumption | exact kU _ | exact kR _ | exact Kp.of (U:=UU) (by assumption) | exact aF.of (by assumption) | refine kT ?_ (by assumption))))),fx.so,by omega,by omega,mG fx.fl⟩
   have pD:di S F keep (rows:List aN).length ⟨[],rows,[]⟩ e=⟨qt,(rows++[dC S F [] e]).modify pp.1 (fun r=>{ r with aZ:=pp.2 }),[]⟩:=by
    rw [lW,uZ,nh]
    exact if_pos hx
   (repeat first|refine wN ?_|refine wP rfl ?_|refine af rfl ?_|refine ag rfl ?_|refine wO rfl rfl ?_)
   refine VS.ko (bj _ _) rfl (fun wz β kz oz en=> ?_)
   obtain ⟨o1,o2⟩:=ea (en.own 198 _ _ rfl) 0 g rfl rfl
   have oR:=(en.own 52 _ _ rfl).cls
   rw [List.map_append,ah] at oR
   have nR:=fe hB dU (show cA 99 [g,rb] w 52 (β 52) from (en.own 52 _ _ rfl).new)
   have oV:=(en.own 62 _ _ rfl).cls
   rw [dL,ah] at oV
   have nV:=fe hB dU (show cA 99 [g,rb] w 62 (β 62) from (en.own 62 _ _ rfl).new)
   rw [pD]
   refine ⟨rfl,oz.1,[g,β 62,β 52],⟨fun b hb=> ?_,_,_,_,o2,?_⟩⟩
   ·simp only [List.mem_cons,List.not_mem_nil,or_false] at hb
    rcases hb with rfl | rfl | rfl
    ·exact zc
    ·exact nV
    ·exact nR
   ·exact .inr (.inr (.inl ⟨β 62,β 52,rfl,rfl,rfl,⟨_,_,_,_,_,_,rfl,oV,hV4.kp (aM B) (by (with_reducible (repeat (first | assumption | exact kU _ | exact kR _ | exact Kp.of (U:=UU) (by assumption) | exact aF.of (by assumption) | refine kT ?_ (by assumption)))))⟩,⟨_,_,_,_,rfl,oR,(hR3.kp (az B) (by (with_reducible (repeat (first | assumption | exact kU _ | exact kR _ | exact Kp.of (U:=UU) (by assumption) | exact aF.of (by assumption) | refine kT ?_ (by assumption)))))).o β⟩⟩))
  ·refine VS.bt rfl (by rw [FO,beq_eq_false_iff_ne];omega) ?_
   have pD:di S F keep (rows:List aN).length ⟨[],rows,[]⟩ e=⟨pp::qt,rows++[dC S F [] e],[]⟩:=by
    rw [lW,uZ,nh]
    exact if_neg hx
   (repeat first|refine wN ?_|refine wP rfl ?_|refine af rfl ?_|refine ag rfl ?_|refine wO rfl rfl ?_)
   refine VS.ko (bj _ _) rfl (fun wz β kz oz en=> ?_)
   obtain ⟨o1,o2⟩:=ea (en.own 198 _ _ rfl) 0 g rfl rfl
   have oR:=(en.own 52 _ _ rfl).cls
   rw [List.map_append,ah] at oR
   have nR:=fe hB dU (show cA 99 [g,rb] w 52 (β 52) from (en.own 52 _ _ rfl).new)
   have oV:=(en.own 62 _ _ rfl).cls
   rw [ah] at oV
   have nV:=fe hB dU (show cA 99 [g,rb] w 62 (β 62) from (en.own 62 _ _ rfl).new)
   rw [pD]
   refine ⟨rfl,oz.1,[g,β 62,β 52],⟨fun b hb=> ?_,_,_,_,o2,?_⟩⟩
   ·simp only [List.mem_cons,List.not_mem_nil,or_false] at hb
    rcases hb with rfl | rfl | rfl
    ·exact zc
    ·exact nV
    ·exact nR
   ·exact .inr (.inr (.inl ⟨β 62,β 52,rfl,rfl,rfl,⟨_,_,_,_,_,_,rfl,oV,fx.kp (aM B) (by (with_reducible (repeat (first | assumption | exact kU _ | exact kR _ | exact Kp.of (U:=UU) (by assumption) | exact aF.of (by assumption) | refine kT ?_ (by assumption)))))⟩,⟨_,_,_,_,rfl,oR,(fm.kp (az B) (by (with_reducible (repeat (first | assumption | exact kU _ | exact kR _ | exact Kp.of (U:=UU) (by assumption) | exact aF.of (by assumption) | refine kT ?_ (by assumption)))))).o β⟩⟩))
end Go.Proofs.YtabalinjfgcfeaaGreat
set_option maxRecDepth 4000
namespace Go.Proofs.YtabalinjfgcfeaaGreat
open Go.RowKit
attribute [local irreducible] aB VS
set_option maxRecDepth 4000 in
set_option maxHeartbeats 16000000 in
theorem iYear_C {B g keep D kk ks:Nat} {M S F:Rat} {e:Rat×Rat} {vb off nq cq:Nat} {pre KD:List Value} {KE:List (List Value)} {rb nr cr:Nat} {sK:List (List Value)} {uA:List Value} {q:List Vq} {rows:List aN} {uses:List Uq} {v u:Value} {w:World} (hg:aW w g Runner #[.slice (some ⟨vb,off,none⟩) nq cq,.slice (some ⟨rb,0,none⟩) nr cr,.slice none 0 0]) (AM:aW w vb cM (pre++(KE.flatten++KD)).toArray) (hV:cX (cG B) 5 w nq off cq pre KE KD q) (zg:aW w rb dT (sK.flatten++uA).toArray) (hR:cX (dD B) 28 w nr 0 cr [] sK uA rows)
  (uM:EB w v S F keep ks) (Im:YrV w u e ks) (se:1≤ks) (yh:ks≤kk) (yV:kk≤100000) (vC:Iz D (aD S F e.2)) (Dh:aD S F e.2≤M) (Ip:Iz D e.1) (gK: -M≤e.1) (Di:e.1≤M) (hK:∀ x,Iz D x→-(M + M)≤x→x≤M + M→dQ x kk)
  (vD:xy D M ⟨q,rows,[]⟩) (uy:(rows:List aN).length≤64) (uz:keep≤40) (hB:B≤w.heap.size) (dU:∀ b∈[g,vb,rb],B≤b):
  Calls Tryz.prog 39 #[.pointer (some ⟨g,0,none⟩),v,.int .i64 ((rows:List aN).length:Int),u] w fun o w'=>o=.returned (iB [])∧qn [g,vb,rb] w w'∧∃ Ky,mP B w' g Ky (di S F keep (rows:List aN).length ⟨q,rows,[]⟩ e):=by
 have hL0:=mB S F e.2
 have hM0:0≤M:=by grind
 obtain ⟨g1,g2,g3,g4,g5,g6,g7,g8,g9⟩:=sa vC hL0 Dh Ip gK Di
 have zc:B≤g:=dU g (by simp)
 have hlen:=vD.len
 obtain ⟨sS,pS,nS,cS,tS,yS,mS,dS,sF,pF,nF,cF,tF,yF,mF,dF,rfl,hS,hF⟩:=uM
 obtain ⟨sN,pN,nN,cN,tN,yN,mN,dN,sE,pE,nE,cE,tE,yE,mE,dE,rfl,hN,hE⟩:=Im
 have jt:q.length≤1000:=by dsimp only at hlen;omega
 have pC:iE (KU UU) 99 [g,vb,rb] [(Runner,[.row 199 off nq cq,.row 200 0 nr cr,.val (.slice none 0 0)]),(cM,(pre++(KE.flatten++KD)).map .val),(dT,(sK.flatten++uA).map .val)] w:=by
  have Ht:g≠vb:=fun e=>by subst e;exact absurd (bn hg AM) (by decide)
  have h02:g≠rb:=fun e=>by subst e;exact absurd (bn hg zg) (by decide)
  have zU:vb≠rb:=fun e=>by subst e;exact absurd (bn AM zg) (by decide)
  refine ⟨rfl,by simp [Ht,h02,zU],fun j g' c' hj hc=> ?_,fun c' hc=> ?_,fun c' hc k hk=> ?_⟩
  ·match j,hj,hc with
   | 0,hj,hc=>cases hj;cases hc;exact hg
   | 1,hj,hc=>cases hj;cases hc;rw [ah];exact AM
   | 2,hj,hc=>cases hj;cases hc;rw [ah];exact zg
   | j + 3,hj,_=>simp at hj
  ·simp only [List.mem_cons,List.not_mem_nil,or_false] at hc
   rcases hc with rfl | rfl | rfl
   ·exact ⟨rfl,rfl⟩
   ·exact ⟨rfl,ba (hV.all (aM B))⟩
   ·exact ⟨rfl,ba (hR.all (az B))⟩
  ·simp only [List.mem_cons,List.not_mem_nil,or_false] at hc
   rcases hc with rfl | rfl | rfl
   ·have:k=199∨k=200:=by simpa [ax,AV.cK] using hk
    rcases this with rfl | rfl
    ·exact ⟨by omega,by show 199 < 2 * 99 + 3;omega⟩
    ·exact ⟨by omega,by show 200 < 2 * 99 + 3;omega⟩
   ·rw [ao] at hk;cases hk
   ·rw [ao] at hk;cases hk
 refine dZ Tryz.prog w _ (KU UU) (fun t=>Nat.beq t 22) table (fun _ _=>trivial) (ad:=[g,vb,rb]) (us:=[_,_,_]) Tryz.func39 rfl Tryz.ntmps39 (Nat.le_of_ble_eq_true rfl) pC (Nat.le_of_ble_eq_true rfl) ?_
 (repeat first|refine wN ?_|refine wP rfl ?_|refine af rfl ?_|refine ag rfl ?_|refine wO rfl rfl ?_)
 refine VO.call rfl rfl (fk Tryz.func70) (fun cB ek du=>((mH _ _ S F keep e ks cB ⟨_,_,_,_,_,_,_,_,_,_,_,_,_,_,_,_,rfl,hS.k,hF.k⟩ ⟨_,_,_,_,_,_,_,_,_,_,_,_,_,_,_,_,rfl,hN.k,hE.k⟩ se (by omega)).mono (fun o w2 h=>And.intro h du.1.size)).mono ?_)
 rintro o w1 ⟨⟨r1,rfl,q1,aV⟩,EC⟩
 obtain ⟨s1,p1,n1,c1,t1,y1,m1,d1,rfl⟩:=q1.form
 refine ⟨_,rfl,aV,fun e9 _ bb1=>wV rfl ?_⟩
 replace q1:=q1.mono (Nat.le_trans hB EC)
 (repeat first|refine wN ?_|refine wP rfl ?_|refine af rfl ?_|refine ag rfl ?_|refine wO rfl rfl ?_)
 refine VO.call rfl rfl (fk Tryz.func44) (fun dB gp et=>((bE 0 dB (by omega) (by omega)).mono (fun o w2 h=>And.intro h et.1.size)).mono ?_)
 rintro o w2 ⟨⟨r2,rfl,q2,bl⟩,qF⟩
 obtain ⟨s2,p2,n2,c2,t2,y2,m2,d2,rfl⟩:=q2.form
 refine ⟨_,rfl,bl,fun fX _ bb2=>wV rfl ?_⟩
 replace q2:=q2.mono (Nat.le_trans hB qF)
 (repeat first|refine wN ?_|refine wP rfl ?_|refine af rfl ?_|refine ag rfl ?_|refine wO rfl rfl ?_)
 refine VO.call rfl rfl (fk Tryz.func44) (fun gr gX gU=>((bE 0 gr (by omega) (by omega)).mono (fun o w2 h=>And.intro h gU.1.size)).mono ?_)
 rintro o w3 ⟨⟨r3,rfl,q3,cC⟩,xz⟩
 obtain ⟨s3,p3,n3,c3,t3,y3,m3,d3,rfl⟩:=q3.form
 refine ⟨_,rfl,cC,fun kh _ bb3=>wV rfl ?_⟩
 replace q3:=q3.mono (Nat.le_trans hB xz)
 (repeat first|refine wN ?_|refine wP rfl ?_|refine af rfl ?_|refine ag rfl ?_|refine wO rfl rfl ?_)
 refine VO.fG rfl (fk Tryz.func71) (fun mZ β pR qx ho=>((fH _ _ e.1 [aD S F e.2] kk mZ ((hN.k).up (by omega)) (dV (ho.own 20 (.base (List.mem_singleton.2 rfl)) _ _ rfl) [] (vs:=[[.bool s1,.slice p1 n1 c1,.bool t1,.slice y1 m1 d1]]) (by rfl) rfl (bX.cons (q1.ki (hK _ vC (by grind) (by grind))) bX.nil) (Nat.le_of_ble_eq_true rfl) (by decide)) (by omega) (Nat.le_of_ble_eq_true rfl)).mono (fun o w2 h=>And.intro h qx.1.size)).mono ?_)
 rintro o w4 ⟨⟨r4,rfl,q4,z4,gT⟩,ED⟩
 rw [gQ] at q4
 obtain ⟨s4,p4,n4,c4,t4,y4,m4,d4,rfl⟩:=q4.form
 refine ⟨_,rfl,gT,fun oQ _ AJ=>wV rfl ?_⟩
 replace q4:=q4.mono (Nat.le_trans hB ED)
 (repeat first|refine wN ?_|refine wP rfl ?_|refine af rfl ?_|refine ag rfl ?_|refine wO rfl rfl ?_)
 refine VO.call rfl rfl (fk Tryz.func72) (fun j9 mw kj=>((bV _ _ e.1 (ai e.1 (aD S F e.2)) kk kk j9 ((hN.k).up (by omega)) (q4.ki (hK _ g1 (by grind) (by grind))) (by omega) (by omega)).mono (fun o w2 h=>And.intro h kj.1.size)).mono ?_)
 rintro o w5 ⟨⟨r5,rfl,q5,gg⟩,qG⟩
 obtain ⟨s5,p5,n5,c5,t5,y5,m5,d5,rfl⟩:=q5.form
 refine ⟨_,rfl,gg,fun na _ wX=>wV rfl ?_⟩
 replace q5:=q5.mono (Nat.le_trans hB qG)
 (repeat first|refine wN ?_|refine wP rfl ?_|refine af rfl ?_|refine ag rfl ?_|refine wO rfl rfl ?_)
 refine VO.call rfl rfl (fk Tryz.func72) (fun pz uh tn=>((bV _ _ (aD S F e.2) (ai e.1 (aD S F e.2)) kk kk pz (q1.ki (hK _ vC (by grind) (by grind))) (q4.ki (hK _ g1 (by grind) (by grind))) (by omega) (by omega)).mono (fun o w2 h=>And.intro h tn.1.size)).mono ?_)
 rintro o w6 ⟨⟨r6,rfl,q6,mO⟩,EE⟩
 obtain ⟨s6,p6,n6,c6,t6,y6,m6,d6,rfl⟩:=q6.form
 refine ⟨_,rfl,mO,fun tp _ Cp=>wV rfl ?_⟩
 replace q6:=q6.mono (Nat.le_trans hB EE)
 (repeat first|refine wN ?_|refine wP rfl ?_|refine af rfl ?_|refine ag rfl ?_|refine wO rfl rfl ?_)
 have lW:di S F keep (rows:List aN).length ⟨q,rows,[]⟩ e=rR keep (rows:List aN).length ⟨kt (rows:List aN).length (e.1 - ai e.1 (aD S F e.2)) (kP q (aD S F e.2 - ai e.1 (aD S F e.2))),rows++[dC S F q e],[]++nw (rows:List aN).length q (aD S F e.2 - ai e.1 (aD S F e.2))⟩:=rfl
 refine VO.CH (B:=B) (D:=D) (v:=199) (d2:=36) (M:=M + M) (mm:=aD S F e.2 - ai e.1 (aD S F e.2)) (q:=q) kk rfl rfl rfl (fk Tryz.func73) rfl rfl rfl (by show 36 < 2 * 99;omega) (by decide) rfl (fun _=>rfl) (fun j hj=> ?_) (Nat.le_of_ble_eq_true rfl) (fun tX EF FL=>hV.kp (aM B) (by (with_reducible (repeat (first | assumption | exact kU _ | exact kR _ | exact Kp.of (U:=UU) (by assumption) | exact aF.of (by assumption) | refine kT ?_ (by assumption)))))) (fun tX EF FL=>q6.kr) g7 g8 g9 (fun p hp=>⟨(vD.el p hp).1,(vD.el p hp).2.1,(vD.el p hp).2.2.1⟩) (fun x h1 h2 h3=>hK x h1 (by grind) h3) yV jt hB (fun w7 r7 KF nq1 cq1 KG KH KJ k7 b7 q7 hun hV1=> ?_) (fun w7 r7 KF nq1 cq1 KG KH KJ un uc vsu1 spu1 k7 b7 q7 hV1 hU1=> ?_)
 ·have:j=200:=by simpa [ax,AV.cK] using hj
  subst this;intro h;cases h
 ·obtain ⟨s7,p7,n7,c7,t7,y7,m7,d7,rfl⟩:=q7.form
  refine wV rfl ?_
  (repeat first|refine wN ?_|refine wP rfl ?_|refine af rfl ?_|refine ag rfl ?_|refine wO rfl rfl ?_)
  have nh:([]:List Uq)++nw rows.length q (aD S F e.2 - ai e.1 (aD S F e.2))=[]:=hun
  obtain ⟨u1,u2,u3⟩:=tx (q:=q) (m:=aD S F e.2 - ai e.1 (aD S F e.2)) (fun p hp=>⟨(vD.el p hp).1,(vD.el p hp).2.1⟩) g7 g8
  refine VO.call rfl rfl (fk Tryz.func16) (fun uK Ei za=>((dw _ _ (ai e.1 (aD S F e.2)) (qO q (aD S F e.2 - ai e.1 (aD S F e.2))) kk kk uK (q4.ki (hK _ g1 (by grind) (by grind))) (q7.ki (hK _ u1 (by grind) (by grind))) (by omega) (by omega)).mono (fun o w2 h=>And.intro h za.1.size)).mono ?_)
  rintro o w8 ⟨⟨r8,rfl,q8,qM⟩,yi⟩
  obtain ⟨s8,p8,n8,c8,t8,y8,m8,d8,rfl⟩:=q8.form
  refine ⟨_,rfl,qM,fun vz _ Ii=>wV rfl ?_⟩
  replace q8:=q8.mono (Nat.le_trans hB yi)
  (repeat first|refine wN ?_|refine wP rfl ?_|refine af rfl ?_|refine ag rfl ?_|refine wO rfl rfl ?_)
  have Kd:((0:Int):Rat)=0:=rfl
  have Al:dD B w8 [.bool s1,.slice p1 n1 c1,.bool t1,.slice y1 m1 d1,.bool s4,.slice p4 n4 c4,.bool t4,.slice y4 m4 d4,.bool s5,.slice p5 n5 c5,.bool t5,.slice y5 m5 d5,.bool s7,.slice p7 n7 c7,.bool t7,.slice y7 m7 d7,.bool s8,.slice p8 n8 c8,.bool t8,.slice y8 m8 d8,.bool s2,.slice p2 n2 c2,.bool t2,.slice y2 m2 d2,.bool s3,.slice p3 n3 c3,.bool t3,.slice y3 m3 d3] (dC S F q e):=⟨[.bool s1,.slice p1 n1 c1,.bool t1,.slice y1 m1 d1],[.bool s4,.slice p4 n4 c4,.bool t4,.slice y4 m4 d4],[.bool s5,.slice p5 n5 c5,.bool t5,.slice y5 m5 d5],[.bool s7,.slice p7 n7 c7,.bool t7,.slice y7 m7 d7],[.bool s8,.slice p8 n8 c8,.bool t8,.slice y8 m8 d8],[.bool s2,.slice p2 n2 c2,.bool t2,.slice y2 m2 d2],[.bool s3,.slice p3 n3 c3,.bool t3,.slice y3 m3 d3],rfl,⟨_,_,_,_,_,_,_,_,rfl,q1.k⟩,⟨_,_,_,_,_,_,_,_,rfl,q4.k⟩,⟨_,_,_,_,_,_,_,_,rfl,q5.k⟩,⟨_,_,_,_,_,_,_,_,rfl,q7.k⟩,⟨_,_,_,_,_,_,_,_,rfl,q8.k⟩,⟨_,_,_,_,_,_,_,_,rfl,q2.k⟩,⟨_,_,_,_,_,_,_,_,rfl,q3.k⟩⟩
  obtain ⟨iC,ju⟩:=hR.el.ok (az B)
  have qX:=hR.len
  refine VO.app (bj _ _) (t:=33) (e:=dT) (sz:=28) (n:=nr) (c:=cr) (mm:=1) (known:=sK.flatten.map .val) (spare:=uA.map .val) (del:=some 200) (news:=([.bool s1,.slice p1 n1 c1,.bool t1,.slice y1 m1 d1,.bool s4,.slice p4 n4 c4,.bool t4,.slice y4 m4 d4,.bool s5,.slice p5 n5 c5,.bool t5,.slice y5 m5 d5,.bool s7,.slice p7 n7 c7,.bool t7,.slice y7 m7 d7,.bool s8,.slice p8 n8 c8,.bool t8,.slice y8 m8 d8,.bool s2,.slice p2 n2 c2,.bool t2,.slice y2 m2 d2,.bool s3,.slice p3 n3 c3,.bool t3,.slice y3 m3 d3]:List Value).map .val) (dst:=52) rfl rfl rfl rfl rfl rfl rfl rfl (Nat.le_of_ble_eq_true rfl) rfl (.inr ⟨200,rfl,congrArg (fun l=>some (dT,l)) (List.map_append ..),rfl⟩) (.inl rfl) (by rw [List.length_map,ju,qX]) (by rw [←List.map_append,List.length_map];exact hR.fl) hR.le hR.cm ⟨ao _,ao _,rfl⟩ ⟨ba iC,ba hR.so,rfl⟩ rfl (by omega)
   (fun w1 β k1 b1 ho=>⟨_,_,rfl,.inr ⟨β 51,0,rfl,cJ (rest:=[]) (ho.own 51 (.base (List.mem_append_right _ (List.mem_singleton.2 rfl))) _ _ rfl) rfl⟩⟩)
   (fun nv lx uN ρ FH FI fy jb gj eb Am iA=>VO.fo 199 rfl (dR (ao _) _ _) (wV rfl ?_))
  (repeat (first | refine wN ?_ | refine wP rfl ?_ | refine af rfl ?_ | refine wO rfl rfl ?_))
  obtain ⟨nx,sf⟩:∃ nx,nx=nr + 1:=⟨_,rfl⟩
  obtain ⟨qI,si⟩:∃ qI,qI=(sK++[[.bool s1,.slice p1 n1 c1,.bool t1,.slice y1 m1 d1,.bool s4,.slice p4 n4 c4,.bool t4,.slice y4 m4 d4,.bool s5,.slice p5 n5 c5,.bool t5,.slice y5 m5 d5,.bool s7,.slice p7 n7 c7,.bool t7,.slice y7 m7 d7,.bool s8,.slice p8 n8 c8,.bool t8,.slice y8 m8 d8,.bool s2,.slice p2 n2 c2,.bool t2,.slice y2 m2 d2,.bool s3,.slice p3 n3 c3,.bool t3,.slice y3 m3 d3]]:List (List Value)):=⟨_,rfl⟩
  have fm:nd (dD B) 28 nv nx lx qI uN (rows++[dC S F q e]):=by rw [sf,si];exact ⟨by rw [qX,List.length_append];rfl,(hR.el.kp (az B) (by (with_reducible (repeat (first | assumption | exact kU _ | exact kR _ | exact Kp.of (U:=UU) (by assumption) | exact aF.of (by assumption) | refine kT ?_ (by assumption)))))).snoc ((az B).kp Al (by (with_reducible (repeat (first | assumption | exact kU _ | exact kR _ | exact Kp.of (U:=UU) (by assumption) | exact aF.of (by assumption) | refine kT ?_ (by assumption)))))),Am,iA,jb,gj,by simpa using eb⟩
  refine VS.narrow [(0,.box 198 0),(2,.val (.int .i64 ((rows:List aN).length:Int))),(5,.box 5 0),(8,.box 8 0)] [(198,(Runner,[.row 199 KF nq1 cq1,.row 52 0 nx lx,.val (.slice none 0 0)])),(52,(dT,qI.flatten.map AV.val++uN)),(5,(28,([.bool sS,.slice pS nS cS,.bool tS,.slice yS mS dS,.bool sF,.slice pF nF cF,.bool tF,.slice yF mF dF,.int .i64 (keep:Int)]:List Value).map AV.val)),(8,(dT,([.bool s1,.slice p1 n1 c1,.bool t1,.slice y1 m1 d1,.bool s4,.slice p4 n4 c4,.bool t4,.slice y4 m4 d4,.bool s5,.slice p5 n5 c5,.bool t5,.slice y5 m5 d5,.bool s7,.slice p7 n7 c7,.bool t7,.slice y7 m7 d7,.bool s8,.slice p8 n8 c8,.bool t8,.slice y8 m8 d8,.bool s2,.slice p2 n2 c2,.bool t2,.slice y2 m2 d2,.bool s3,.slice p3 n3 c3,.bool t3,.slice y3 m3 d3]:List Value).map AV.val)),(199,(cM,(KG++(KH.flatten++KJ)).map AV.val))] ⟨rfl,rfl,rfl,rfl,trivial⟩ ⟨by rw [sf];rfl,by rw [si];exact congrArg (fun l=>some (dT,l++uN)) (by simp),rfl,rfl,rfl,trivial⟩ rfl ⟨.lit rfl,.append (.vals _) (.none iA),.vals _,.vals _,.vals _,trivial⟩ ?_
  refine VS.draw (bj _ _) (jL _ _) [1000000 + 74] (by kernel_rfl) (VO.run 80 rfl ?_)
  have KL:nq1≤1000:=by rw [hV1.len];have:=(xx rows.length q (aD S F e.2 - ai e.1 (aD S F e.2))).2;omega
  refine VO.xp (B:=B) (v:=199) (d2:=62) (d:=e.1 - ai e.1 (aD S F e.2)) (q:=kP q (aD S F e.2 - ai e.1 (aD S F e.2))) kk rfl rfl rfl (fk Tryz.func74) rfl rfl rfl (by show 62 < 2 * 99;omega) (by decide) (fun j hj=> ?_) rfl (fun tX EF FL=>hV1.kp (aM B) (by (with_reducible (repeat (first | assumption | exact kU _ | exact kR _ | exact Kp.of (U:=UU) (by assumption) | exact aF.of (by assumption) | refine kT ?_ (by assumption)))))) (fun tX EF FL=>q5.kr) (hK _ g4 (by grind) (by grind)) yV KL hB (fun AL fu nz nt ku FM FN ρ19 k19 b19 fx=> ?_)
  ·have:j=52:=by simpa [ax,AV.cK] using hj
   subst this;exact ⟨(by intro h;cases h),by decide⟩
  obtain ⟨q2,sj⟩:∃ q2:List Vq,q2=kt rows.length (e.1 - ai e.1 (aD S F e.2)) (kP q (aD S F e.2 - ai e.1 (aD S F e.2))):=⟨_,rfl⟩
  rw [←sj] at fx
  have uZ:=sj.symm
  refine VO.fo 52 rfl (dR (by rw [cz,ao,iA];rfl) _ _) (wV rfl ?_)
  (repeat first|refine wN ?_|refine wP rfl ?_|refine af rfl ?_|refine ag rfl ?_|refine wO rfl rfl ?_)
  by_cases lD:nz=0
  ·refine VO.cY (x:=.row 62 fu nz nt) (p:=fun _=>none) (c:=nt) rfl (fun β=>.inr ⟨_,congrArg (fun n=>Value.slice (some ⟨β 62,fu,none⟩) n nt) lD⟩) rfl (fk Tryz.func75) rfl (fun CJ Kz KA=>wV rfl ?_)
   (repeat first|refine wN ?_|refine wP rfl ?_|refine af rfl ?_|refine ag rfl ?_|refine wO rfl rfl ?_)
   have Ao:q2=[]:=List.eq_nil_of_length_eq_zero (by rw [←fx.len];exact lD)
   have pD:di S F keep (rows:List aN).length ⟨q,rows,[]⟩ e=⟨q2,rows++[dC S F q e],[]⟩:=by rw [lW,uZ,nh,Ao];rfl
   (repeat first|refine wN ?_|refine wP rfl ?_|refine af rfl ?_|refine ag rfl ?_|refine wO rfl rfl ?_)
   refine VS.ko (bj _ _) rfl (fun wz β kz oz en=> ?_)
   obtain ⟨o1,o2⟩:=ea (en.own 198 _ _ rfl) 0 g rfl rfl
   have oR:=(en.own 52 _ _ rfl).cls
   rw [List.map_append,ah] at oR
   have nR:=fe hB dU (show cA 99 [g,vb,rb] w 52 (β 52) from (en.own 52 _ _ rfl).new)
   have oV:=(en.own 62 _ _ rfl).cls
   rw [ah] at oV
   have nV:=fe hB dU (show cA 99 [g,vb,rb] w 62 (β 62) from (en.own 62 _ _ rfl).new)
   rw [pD]
   refine ⟨rfl,oz.1,[g,β 62,β 52],⟨fun b hb=> ?_,_,_,_,o2,?_⟩⟩
   ·simp only [List.mem_cons,List.not_mem_nil,or_false] at hb
    rcases hb with rfl | rfl | rfl
    ·exact zc
    ·exact nV
    ·exact nR
   ·exact .inr (.inr (.inl ⟨β 62,β 52,rfl,rfl,rfl,⟨_,_,_,_,_,_,rfl,oV,fx.kp (aM B) (by (with_reducible (repeat (first | assumption | exact kU _ | exact kR _ | exact Kp.of (U:=UU) (by assumption) | exact aF.of (by assumption) | refine kT ?_ (by assumption)))))⟩,⟨_,_,_,_,rfl,oR,(fm.kp (az B) (by (with_reducible (repeat (first | assumption | exact kU _ | exact kR _ | exact Kp.of (U:=UU) (by assumption) | exact aF.of (by assumption) | refine kT ?_ (by assumption)))))).o β⟩⟩))
  obtain ⟨pp,qt,Jr⟩:∃ pp qt,q2=pp::qt:=by
   cases q2 with
   | nil=>exact absurd fx.len lD
   | cons pp qt=>exact ⟨pp,qt,rfl⟩
  subst Jr
  obtain ⟨Ap,vE,rfl,hE4,sk⟩:∃ Ap vE,FM=Ap::vE∧cG B AL Ap pp∧cL (cG B) AL qt vE:=by
   have:=fx.el
   cases this with
   | cons h1 h2=>exact ⟨_,_,rfl,h1,h2⟩
  obtain ⟨s9,p9,n9,c9,t9,y9,m9,d9,rfl,Ho⟩:=hE4
  have Aq:=fx.le
  have Ar:=fx.len
  have Au:=fx.cm
  have jF:ku.length=fu:=fx.pl.resolve_right (by omega)
  refine VO.cH rfl rfl (fk Tryz.func75) rfl lD (by intro h;cases h) (fun CJ Kz KA=>wV rfl ?_)
  (repeat first|refine wN ?_|refine wP rfl ?_|refine af rfl ?_|refine ag rfl ?_|refine wO rfl rfl ?_)
  refine VO.df rfl (([.int .i64 (pp.1:Int)]:List Value).map .val) rfl (bg jF 0 _ ⟨_,rfl⟩) (wV rfl ?_)
  (repeat first|refine wN ?_|refine wP rfl ?_|refine af rfl ?_|refine ag rfl ?_|refine wO rfl rfl ?_)
  have FO:IntKind.i64.wrap (((rows:List aN).length:Int) - (keep:Int))=((rows:List aN).length:Int) - (keep:Int):=IntWalk.i64_in _ (by omega)
  by_cases hx:pp.1 + keep=(rows:List aN).length
  ·refine VS.bD rfl (by rw [FO,beq_iff_eq];omega) ?_
   (repeat first|refine wN ?_|refine wP rfl ?_|refine af rfl ?_|refine ag rfl ?_|refine wO rfl rfl ?_)
   refine VO.df rfl (([.int .i64 (pp.1:Int)]:List Value).map .val) rfl (bg jF 0 _ ⟨_,rfl⟩) (wV rfl ?_)
   (repeat first|refine wN ?_|refine wP rfl ?_|refine af rfl ?_|refine ag rfl ?_|refine wO rfl rfl ?_)
   refine VO.df rfl (([.bool s9,.slice p9 n9 c9,.bool t9,.slice y9 m9 d9]:List Value).map .val) rfl (bg jF 1 _ ⟨[],rfl⟩) (wV rfl ?_)
   (repeat first|refine wN ?_|refine wP rfl ?_|refine af rfl ?_|refine ag rfl ?_|refine wO rfl rfl ?_)
   have ff:=fm.len
   have BP:pp.1 < nx:=by rw [ff,List.length_append,List.length_singleton];omega
   refine VO.cond rfl ⟨by omega,by omega⟩ (wV rfl ?_)
   obtain ⟨rq,zd⟩:∃ rq,(rows++[dC S F q e])[pp.1]? =some rq:=⟨_,List.getElem?_eq_getElem (by rw [←ff];exact BP)⟩
   obtain ⟨ze,tz,zf⟩:=fm.el.at pp.1 rq zd
   have gF:=fm.fl
   have Hq:=fm.le
   refine VO.cond rfl (by show 0 + ((pp.1:Int)).toNat * 28 + 20 + 4≤_;rw [gF,Int.toNat_natCast];omega) (VO.fo 52 rfl (kc (new:=[.bool s9,.slice p9 n9 c9,.bool t9,.slice y9 m9 d9]) (o:=20) (fm.el.lens (az B)) tz (Nat.le_of_ble_eq_true rfl)) (wV rfl ?_))
   (repeat first|refine wN ?_|refine wP rfl ?_|refine af rfl ?_|refine ag rfl ?_|refine wO rfl rfl ?_)
   have hR3:nd (dD B) 28 CJ nx lx (qI.set pp.1 (ze.take 20++([.bool s9,.slice p9 n9 c9,.bool t9,.slice y9 m9 d9]++ze.drop (20 + ([.bool s9,.slice p9 n9 c9,.bool t9,.slice y9 m9 d9]:List Value).length)))) uN ((rows++[dC S F q e]).modify pp.1 (fun r=>{ r with aZ:=pp.2 })):=
    ⟨by rw [List.length_modify];exact ff,by rw [gI zd];exact (fm.el.kp (az B) (by (with_reducible (repeat (first | assumption | exact kU _ | exact kR _ | exact Kp.of (U:=UU) (by assumption) | exact aF.of (by assumption) | refine kT ?_ (by assumption)))))).set (oB ((az B).kp zf (by (with_reducible (repeat (first | assumption | exact kU _ | exact kR _ | exact Kp.of (U:=UU) (by assumption) | exact aF.of (by assumption) | refine kT ?_ (by assumption)))))) ⟨_,_,_,_,_,_,_,_,rfl,Ho.kp (by (with_reducible (repeat (first | assumption | exact kU _ | exact kR _ | exact Kp.of (U:=UU) (by assumption) | exact aF.of (by assumption) | refine kT ?_ (by assumption)))))⟩),fm.so,fm.sl,fm.le,fm.cm,by
     rw [List.length_append,List.length_map,cV (ke (fm.el.lens (az B)) (sb ((az B).len zf) rfl)),List.length_set]
     rw [List.length_append,List.length_map,cV (fm.el.lens (az B))] at gF
     exact gF⟩
   refine VO.iz rfl rfl (fk Tryz.func76) rfl (by omega) Aq Au (fun j hj=> ?_) (Nat.le_of_ble_eq_true rfl) (fun w21 k21 b21=>wV rfl ?_)
   ·simp only [ax,AV.cK,List.flatMap_cons,List.flatMap_nil,List.mem_append,List.mem_cons,List.not_mem_nil,or_false,List.append_nil] at hj
    rcases hj with rfl | rfl <;> (intro h;cases h)
   (repeat first|refine wN ?_|refine wP rfl ?_|refine af rfl ?_|refine ag rfl ?_|refine wO rfl rfl ?_)
   have hV4:cX (cG B) 5 w21 (nz - 1) (if nt=1 then fu else fu + 5) (nt - 1) (ku++[.int .i64 (pp.1:Int),.bool s9,.slice p9 n9 c9,.bool t9,.slice y9 m9 d9]) vE FN qt:=⟨by rw [Ar];rfl,mD jF,by rw [List.all_append,fx.po];rfl,sk.kp (aM B) (by (with_reducible (repeat (first | assumption | exact kU _ | exact kR _ | exact Kp.of (U:=UU) (by assumption) | exact aF.of (by assumption) | refine kT ?_ (by assumption))))),fx.so,by omega,by omega,mG fx.fl⟩
   have pD:di S F keep (rows:List aN).length ⟨q,rows,[]⟩ e=⟨qt,(rows++[dC S F q e]).modify pp.1 (fun r=>{ r with aZ:=pp.2 }),[]⟩:=by
    rw [lW,uZ,nh]
    exact if_pos hx
   (repeat first|refine wN ?_|refine wP rfl ?_|refine af rfl ?_|refine ag rfl ?_|refine wO rfl rfl ?_)
   refine VS.ko (bj _ _) rfl (fun wz β kz oz en=> ?_)
   obtain ⟨o1,o2⟩:=ea (en.own 198 _ _ rfl) 0 g rfl rfl
   have oR:=(en.own 52 _ _ rfl).cls
   rw [List.map_append,ah] at oR
   have nR:=fe hB dU (show cA 99 [g,vb,rb] w 52 (β 52) from (en.own 52 _ _ rfl).new)
   have oV:=(en.own 62 _ _ rfl).cls
   rw [dL,ah] at oV
   have nV:=fe hB dU (show cA 99 [g,vb,rb] w 62 (β 62) from (en.own 62 _ _ rfl).new)
   rw [pD]
   refine ⟨rfl,oz.1,[g,β 62,β 52],⟨fun b hb=> ?_,_,_,_,o2,?_⟩⟩
   ·simp only [List.mem_cons,List.not_mem_nil,or_false] at hb
    rcases hb with rfl | rfl | rfl
    ·exact zc
    ·exact nV
    ·exact nR
   ·exact .inr (.inr (.inl ⟨β 62,β 52,rfl,rfl,rfl,⟨_,_,_,_,_,_,rfl,oV,hV4.kp (aM B) (by (with_reducible (repeat (first | assumption | exact kU _ | exact kR _ | exact Kp.of (U:=UU) (by assumption) | exact aF.of (by assumption) | refine kT ?_ (by assumption)))))⟩,⟨_,_,_,_,rfl,oR,(hR3.kp (az B) (by (with_reducible (repeat (first | assumption | exact kU _ | exact kR _ | exact Kp.of (U:=UU) (by assumption) | exact aF.of (by assumption) | refine kT ?_ (by assumption)))))).o β⟩⟩))
  ·refine VS.bt rfl (by rw [FO,beq_eq_false_iff_ne];omega) ?_
   have pD:di S F keep (rows:List aN).length ⟨q,rows,[]⟩ e=⟨pp::qt,rows++[dC S F q e],[]⟩:=by
    rw [lW,uZ,nh]
    exact if_neg hx
   (repeat first|refine wN ?_|refine wP rfl ?_|refine af rfl ?_|refine ag rfl ?_|refine wO rfl rfl ?_)
   refine VS.ko (bj _ _) rfl (fun wz β kz oz en=> ?_)
   obtain ⟨o1,o2⟩:=ea (en.own 198 _ _ rfl) 0 g rfl rfl
   have oR:=(en.own 52 _ _ rfl).cls
   rw [List.map_append,ah] at oR
   have nR:=fe hB dU (show cA 99 [g,vb,rb] w 52 (β 52) from (en.own 52 _ _ rfl).new)
   have oV:=(en.own 62 _ _ rfl).cls
   rw [ah] at oV
   have nV:=fe hB dU (show cA 99 [g,vb,rb] w 62 (β 62) from (en.own 62 _ _ rfl).new)
   rw [pD]
   refine ⟨rfl,oz.1,[g,β 62,β 52],⟨fun b hb=> ?_,_,_,_,o2,?_⟩⟩
   ·simp only [List.mem_cons,List.not_mem_nil,or_false] at hb
    rcases hb with rfl | rfl | rfl
    ·exact zc
    ·exact nV
    ·exact nR
   ·exact .inr (.inr (.inl ⟨β 62,β 52,rfl,rfl,rfl,⟨_,_,_,_,_,_,rfl,oV,fx.kp (aM B) (by (with_reducible (repeat (first | assumption | exact kU _ | exact kR _ | exact Kp.of (U:=UU) (by assumption) | exact aF.of (by assumption) | refine kT ?_ (by assumption)))))⟩,⟨_,_,_,_,rfl,oR,(fm.kp (az B) (by (with_reducible (repeat (first | assumption | exact kU _ | exact kR _ | exact Kp.of (U:=UU) (by assumption) | exact aF.of (by assumption) | refine kT ?_ (by assumption)))))).o β⟩⟩))
 ·obtain ⟨s7,p7,n7,c7,t7,y7,m7,d7,rfl⟩:=q7.form
  refine wV rfl ?_
  (repeat first|refine wN ?_|refine wP rfl ?_|refine af rfl ?_|refine ag rfl ?_|refine wO rfl rfl ?_)
  obtain ⟨Iq,Bi⟩:∃ Iq,Iq=nw rows.length q (aD S F e.2 - ai e.1 (aD S F e.2)):=⟨_,rfl⟩
  rw [←Bi] at hU1
  have nh:([]:List Uq)++nw rows.length q (aD S F e.2 - ai e.1 (aD S F e.2))=Iq:=Bi.symm
  have xK:=hU1
  obtain ⟨u1,u2,u3⟩:=tx (q:=q) (m:=aD S F e.2 - ai e.1 (aD S F e.2)) (fun p hp=>⟨(vD.el p hp).1,(vD.el p hp).2.1⟩) g7 g8
  refine VO.call rfl rfl (fk Tryz.func16) (fun uK Ei za=>((dw _ _ (ai e.1 (aD S F e.2)) (qO q (aD S F e.2 - ai e.1 (aD S F e.2))) kk kk uK (q4.ki (hK _ g1 (by grind) (by grind))) (q7.ki (hK _ u1 (by grind) (by grind))) (by omega) (by omega)).mono (fun o w2 h=>And.intro h za.1.size)).mono ?_)
  rintro o w8 ⟨⟨r8,rfl,q8,qM⟩,yi⟩
  obtain ⟨s8,p8,n8,c8,t8,y8,m8,d8,rfl⟩:=q8.form
  refine ⟨_,rfl,qM,fun vz _ Ii=>wV rfl ?_⟩
  replace q8:=q8.mono (Nat.le_trans hB yi)
  (repeat first|refine wN ?_|refine wP rfl ?_|refine af rfl ?_|refine ag rfl ?_|refine wO rfl rfl ?_)
  have Kd:((0:Int):Rat)=0:=rfl
  have Al:dD B w8 [.bool s1,.slice p1 n1 c1,.bool t1,.slice y1 m1 d1,.bool s4,.slice p4 n4 c4,.bool t4,.slice y4 m4 d4,.bool s5,.slice p5 n5 c5,.bool t5,.slice y5 m5 d5,.bool s7,.slice p7 n7 c7,.bool t7,.slice y7 m7 d7,.bool s8,.slice p8 n8 c8,.bool t8,.slice y8 m8 d8,.bool s2,.slice p2 n2 c2,.bool t2,.slice y2 m2 d2,.bool s3,.slice p3 n3 c3,.bool t3,.slice y3 m3 d3] (dC S F q e):=⟨[.bool s1,.slice p1 n1 c1,.bool t1,.slice y1 m1 d1],[.bool s4,.slice p4 n4 c4,.bool t4,.slice y4 m4 d4],[.bool s5,.slice p5 n5 c5,.bool t5,.slice y5 m5 d5],[.bool s7,.slice p7 n7 c7,.bool t7,.slice y7 m7 d7],[.bool s8,.slice p8 n8 c8,.bool t8,.slice y8 m8 d8],[.bool s2,.slice p2 n2 c2,.bool t2,.slice y2 m2 d2],[.bool s3,.slice p3 n3 c3,.bool t3,.slice y3 m3 d3],rfl,⟨_,_,_,_,_,_,_,_,rfl,q1.k⟩,⟨_,_,_,_,_,_,_,_,rfl,q4.k⟩,⟨_,_,_,_,_,_,_,_,rfl,q5.k⟩,⟨_,_,_,_,_,_,_,_,rfl,q7.k⟩,⟨_,_,_,_,_,_,_,_,rfl,q8.k⟩,⟨_,_,_,_,_,_,_,_,rfl,q2.k⟩,⟨_,_,_,_,_,_,_,_,rfl,q3.k⟩⟩
  obtain ⟨iC,ju⟩:=hR.el.ok (az B)
  have qX:=hR.len
  refine VO.app (bj _ _) (t:=33) (e:=dT) (sz:=28) (n:=nr) (c:=cr) (mm:=1) (known:=sK.flatten.map .val) (spare:=uA.map .val) (del:=some 200) (news:=([.bool s1,.slice p1 n1 c1,.bool t1,.slice y1 m1 d1,.bool s4,.slice p4 n4 c4,.bool t4,.slice y4 m4 d4,.bool s5,.slice p5 n5 c5,.bool t5,.slice y5 m5 d5,.bool s7,.slice p7 n7 c7,.bool t7,.slice y7 m7 d7,.bool s8,.slice p8 n8 c8,.bool t8,.slice y8 m8 d8,.bool s2,.slice p2 n2 c2,.bool t2,.slice y2 m2 d2,.bool s3,.slice p3 n3 c3,.bool t3,.slice y3 m3 d3]:List Value).map .val) (dst:=52) rfl rfl rfl rfl rfl rfl rfl rfl (Nat.le_of_ble_eq_true rfl) rfl (.inr ⟨200,rfl,congrArg (fun l=>some (dT,l)) (List.map_append ..),rfl⟩) (.inl rfl) (by rw [List.length_map,ju,qX]) (by rw [←List.map_append,List.length_map];exact hR.fl) hR.le hR.cm ⟨ao _,ao _,rfl⟩ ⟨ba iC,ba hR.so,rfl⟩ rfl (by omega)
   (fun w1 β k1 b1 ho=>⟨_,_,rfl,.inr ⟨β 51,0,rfl,cJ (rest:=[]) (ho.own 51 (.base (List.mem_append_right _ (List.mem_singleton.2 rfl))) _ _ rfl) rfl⟩⟩)
   (fun nv lx uN ρ FH FI fy jb gj eb Am iA=>VO.fo 199 rfl (dR (ao _) _ _) (VO.fo 36 rfl (dR (ao _) _ _) (wV rfl ?_)))
  (repeat (first | refine wN ?_ | refine wP rfl ?_ | refine af rfl ?_ | refine wO rfl rfl ?_))
  obtain ⟨nx,sf⟩:∃ nx,nx=nr + 1:=⟨_,rfl⟩
  obtain ⟨qI,si⟩:∃ qI,qI=(sK++[[.bool s1,.slice p1 n1 c1,.bool t1,.slice y1 m1 d1,.bool s4,.slice p4 n4 c4,.bool t4,.slice y4 m4 d4,.bool s5,.slice p5 n5 c5,.bool t5,.slice y5 m5 d5,.bool s7,.slice p7 n7 c7,.bool t7,.slice y7 m7 d7,.bool s8,.slice p8 n8 c8,.bool t8,.slice y8 m8 d8,.bool s2,.slice p2 n2 c2,.bool t2,.slice y2 m2 d2,.bool s3,.slice p3 n3 c3,.bool t3,.slice y3 m3 d3]]:List (List Value)):=⟨_,rfl⟩
  have fm:nd (dD B) 28 nv nx lx qI uN (rows++[dC S F q e]):=by rw [sf,si];exact ⟨by rw [qX,List.length_append];rfl,(hR.el.kp (az B) (by (with_reducible (repeat (first | assumption | exact kU _ | exact kR _ | exact Kp.of (U:=UU) (by assumption) | exact aF.of (by assumption) | refine kT ?_ (by assumption)))))).snoc ((az B).kp Al (by (with_reducible (repeat (first | assumption | exact kU _ | exact kR _ | exact Kp.of (U:=UU) (by assumption) | exact aF.of (by assumption) | refine kT ?_ (by assumption)))))),Am,iA,jb,gj,by simpa using eb⟩
  refine VS.narrow [(0,.box 198 0),(2,.val (.int .i64 ((rows:List aN).length:Int))),(5,.box 5 0),(8,.box 8 0)] [(198,(Runner,[.row 199 KF nq1 cq1,.row 52 0 nx lx,.row 36 0 un uc])),(52,(dT,qI.flatten.map AV.val++uN)),(5,(28,([.bool sS,.slice pS nS cS,.bool tS,.slice yS mS dS,.bool sF,.slice pF nF cF,.bool tF,.slice yF mF dF,.int .i64 (keep:Int)]:List Value).map AV.val)),(8,(dT,([.bool s1,.slice p1 n1 c1,.bool t1,.slice y1 m1 d1,.bool s4,.slice p4 n4 c4,.bool t4,.slice y4 m4 d4,.bool s5,.slice p5 n5 c5,.bool t5,.slice y5 m5 d5,.bool s7,.slice p7 n7 c7,.bool t7,.slice y7 m7 d7,.bool s8,.slice p8 n8 c8,.bool t8,.slice y8 m8 d8,.bool s2,.slice p2 n2 c2,.bool t2,.slice y2 m2 d2,.bool s3,.slice p3 n3 c3,.bool t3,.slice y3 m3 d3]:List Value).map AV.val)),(199,(cM,(KG++(KH.flatten++KJ)).map AV.val)),(36,(er,(vsu1.flatten++spu1).map AV.val))] ⟨rfl,rfl,rfl,rfl,trivial⟩ ⟨by rw [sf];rfl,by rw [si];exact congrArg (fun l=>some (dT,l++uN)) (by simp),rfl,rfl,rfl,rfl,trivial⟩ rfl ⟨.lit rfl,.append (.vals _) (.none iA),.vals _,.vals _,.vals _,.vals _,trivial⟩ ?_
  refine VS.draw (bj _ _) (jL _ _) [1000000 + 74] (by kernel_rfl) (VO.run 80 rfl ?_)
  have KL:nq1≤1000:=by rw [hV1.len];have:=(xx rows.length q (aD S F e.2 - ai e.1 (aD S F e.2))).2;omega
  refine VO.xp (B:=B) (v:=199) (d2:=62) (d:=e.1 - ai e.1 (aD S F e.2)) (q:=kP q (aD S F e.2 - ai e.1 (aD S F e.2))) kk rfl rfl rfl (fk Tryz.func74) rfl rfl rfl (by show 62 < 2 * 99;omega) (by decide) (fun j hj=> ?_) rfl (fun tX EF FL=>hV1.kp (aM B) (by (with_reducible (repeat (first | assumption | exact kU _ | exact kR _ | exact Kp.of (U:=UU) (by assumption) | exact aF.of (by assumption) | refine kT ?_ (by assumption)))))) (fun tX EF FL=>q5.kr) (hK _ g4 (by grind) (by grind)) yV KL hB (fun AL fu nz nt ku FM FN ρ19 k19 b19 fx=> ?_)
  ·have:j=52∨j=36:=by simpa [ax,AV.cK] using hj
   rcases this with rfl | rfl <;> exact ⟨(by intro h;cases h),by decide⟩
  obtain ⟨q2,sj⟩:∃ q2:List Vq,q2=kt rows.length (e.1 - ai e.1 (aD S F e.2)) (kP q (aD S F e.2 - ai e.1 (aD S F e.2))):=⟨_,rfl⟩
  rw [←sj] at fx
  have uZ:=sj.symm
  refine VO.fo 52 rfl (dR (by rw [cz,ao,iA];rfl) _ _) (VO.fo 36 rfl (dR (ao _) _ _) (wV rfl ?_))
  (repeat first|refine wN ?_|refine wP rfl ?_|refine af rfl ?_|refine ag rfl ?_|refine wO rfl rfl ?_)
  by_cases lD:nz=0
  ·refine VO.cY (x:=.row 62 fu nz nt) (p:=fun _=>none) (c:=nt) rfl (fun β=>.inr ⟨_,congrArg (fun n=>Value.slice (some ⟨β 62,fu,none⟩) n nt) lD⟩) rfl (fk Tryz.func75) rfl (fun CJ Kz KA=>wV rfl ?_)
   (repeat first|refine wN ?_|refine wP rfl ?_|refine af rfl ?_|refine ag rfl ?_|refine wO rfl rfl ?_)
   have Ao:q2=[]:=List.eq_nil_of_length_eq_zero (by rw [←fx.len];exact lD)
   have pD:di S F keep (rows:List aN).length ⟨q,rows,[]⟩ e=⟨q2,rows++[dC S F q e],Iq⟩:=by rw [lW,uZ,nh,Ao];rfl
   (repeat first|refine wN ?_|refine wP rfl ?_|refine af rfl ?_|refine ag rfl ?_|refine wO rfl rfl ?_)
   refine VS.ko (bj _ _) rfl (fun wz β kz oz en=> ?_)
   obtain ⟨o1,o2⟩:=ea (en.own 198 _ _ rfl) 0 g rfl rfl
   have oR:=(en.own 52 _ _ rfl).cls
   rw [List.map_append,ah] at oR
   have nR:=fe hB dU (show cA 99 [g,vb,rb] w 52 (β 52) from (en.own 52 _ _ rfl).new)
   have oV:=(en.own 62 _ _ rfl).cls
   rw [ah] at oV
   have nV:=fe hB dU (show cA 99 [g,vb,rb] w 62 (β 62) from (en.own 62 _ _ rfl).new)
   have oU:=(en.own 36 _ _ rfl).cls
   rw [ah] at oU
   have nU:=fe hB dU (show cA 99 [g,vb,rb] w 36 (β 36) from (en.own 36 _ _ rfl).new)
   rw [pD]
   refine ⟨rfl,oz.1,[g,β 62,β 52,β 36],⟨fun b hb=> ?_,_,_,_,o2,?_⟩⟩
   ·simp only [List.mem_cons,List.not_mem_nil,or_false] at hb
    rcases hb with rfl | rfl | rfl | rfl
    ·exact zc
    ·exact nV
    ·exact nR
    ·exact nU
   ·exact .inr (.inr (.inr ⟨β 62,β 52,β 36,rfl,⟨_,_,_,_,_,_,rfl,oV,fx.kp (aM B) (by (with_reducible (repeat (first | assumption | exact kU _ | exact kR _ | exact Kp.of (U:=UU) (by assumption) | exact aF.of (by assumption) | refine kT ?_ (by assumption)))))⟩,⟨_,_,_,_,rfl,oR,(fm.kp (az B) (by (with_reducible (repeat (first | assumption | exact kU _ | exact kR _ | exact Kp.of (U:=UU) (by assumption) | exact aF.of (by assumption) | refine kT ?_ (by assumption)))))).o β⟩,⟨_,_,_,_,rfl,oU,xK.kp (dk B) (by (with_reducible (repeat (first | assumption | exact kU _ | exact kR _ | exact Kp.of (U:=UU) (by assumption) | exact aF.of (by assumption) | refine kT ?_ (by assumption)))))⟩⟩))
  obtain ⟨pp,qt,Jr⟩:∃ pp qt,q2=pp::qt:=by
   cases q2 with
   | nil=>exact absurd fx.len lD
   | cons pp qt=>exact ⟨pp,qt,rfl⟩
  subst Jr
  obtain ⟨Ap,vE,rfl,hE4,sk⟩:∃ Ap vE,FM=Ap::vE∧cG B AL Ap pp∧cL (cG B) AL qt vE:=by
   have:=fx.el
   cases this with
   | cons h1 h2=>exact ⟨_,_,rfl,h1,h2⟩
  obtain ⟨s9,p9,n9,c9,t9,y9,m9,d9,rfl,Ho⟩:=hE4
  have Aq:=fx.le
  have Ar:=fx.len
  have Au:=fx.cm
  have jF:ku.length=fu:=fx.pl.resolve_right (by omega)
  refine VO.cH rfl rfl (fk Tryz.func75) rfl lD (by intro h;cases h) (fun CJ Kz KA=>wV rfl ?_)
  (repeat first|refine wN ?_|refine wP rfl ?_|refine af rfl ?_|refine ag rfl ?_|refine wO rfl rfl ?_)
  refine VO.df rfl (([.int .i64 (pp.1:Int)]:List Value).map .val) rfl (bg jF 0 _ ⟨_,rfl⟩) (wV rfl ?_)
  (repeat first|refine wN ?_|refine wP rfl ?_|refine af rfl ?_|refine ag rfl ?_|refine wO rfl rfl ?_)
  have FO:IntKind.i64.wrap (((rows:List aN).length:Int) - (keep:Int))=((rows:List aN).length:Int) - (keep:Int):=IntWalk.i64_in _ (by omega)
  by_cases hx:pp.1 + keep=(rows:List aN).length
  ·refine VS.bD rfl (by rw [FO,beq_iff_eq];omega) ?_
   (repeat first|refine wN ?_|refine wP rfl ?_|refine af rfl ?_|refine ag rfl ?_|refine wO rfl rfl ?_)
   refine VO.df rfl (([.int .i64 (pp.1:Int)]:List Value).map .val) rfl (bg jF 0 _ ⟨_,rfl⟩) (wV rfl ?_)
   (repeat first|refine wN ?_|refine wP rfl ?_|refine af rfl ?_|refine ag rfl ?_|refine wO rfl rfl ?_)
   refine VO.df rfl (([.bool s9,.slice p9 n9 c9,.bool t9,.slice y9 m9 d9]:List Value).map .val) rfl (bg jF 1 _ ⟨[],rfl⟩) (wV rfl ?_)
   (repeat first|refine wN ?_|refine wP rfl ?_|refine af rfl ?_|refine ag rfl ?_|refine wO rfl rfl ?_)
   have ff:=fm.len
   have BP:pp.1 < nx:=by rw [ff,List.length_append,List.length_singleton];omega
   refine VO.cond rfl ⟨by omega,by omega⟩ (wV rfl ?_)
   obtain ⟨rq,zd⟩:∃ rq,(rows++[dC S F q e])[pp.1]? =some rq:=⟨_,List.getElem?_eq_getElem (by rw [←ff];exact BP)⟩
   obtain ⟨ze,tz,zf⟩:=fm.el.at pp.1 rq zd
   have gF:=fm.fl
   have Hq:=fm.le
   refine VO.cond rfl (by show 0 + ((pp.1:Int)).toNat * 28 + 20 + 4≤_;rw [gF,Int.toNat_natCast];omega) (VO.fo 52 rfl (kc (new:=[.bool s9,.slice p9 n9 c9,.bool t9,.slice y9 m9 d9]) (o:=20) (fm.el.lens (az B)) tz (Nat.le_of_ble_eq_true rfl)) (wV rfl ?_))
   (repeat first|refine wN ?_|refine wP rfl ?_|refine af rfl ?_|refine ag rfl ?_|refine wO rfl rfl ?_)
   have hR3:nd (dD B) 28 CJ nx lx (qI.set pp.1 (ze.take 20++([.bool s9,.slice p9 n9 c9,.bool t9,.slice y9 m9 d9]++ze.drop (20 + ([.bool s9,.slice p9 n9 c9,.bool t9,.slice y9 m9 d9]:List Value).length)))) uN ((rows++[dC S F q e]).modify pp.1 (fun r=>{ r with aZ:=pp.2 })):=
    ⟨by rw [List.length_modify];exact ff,by rw [gI zd];exact (fm.el.kp (az B) (by (with_reducible (repeat (first | assumption | exact kU _ | exact kR _ | exact Kp.of (U:=UU) (by assumption) | exact aF.of (by assumption) | refine kT ?_ (by assumption)))))).set (oB ((az B).kp zf (by (with_reducible (repeat (first | assumption | exact kU _ | exact kR _ | exact Kp.of (U:=UU) (by assumption) | exact aF.of (by assumption) | refine kT ?_ (by assumption)))))) ⟨_,_,_,_,_,_,_,_,rfl,Ho.kp (by (with_reducible (repeat (first | assumption | exact kU _ | exact kR _ | exact Kp.of (U:=UU) (by assumption) | exact aF.of (by assumption) | refine kT ?_ (by assumption)))))⟩),fm.so,fm.sl,fm.le,fm.cm,by
     rw [List.length_append,List.length_map,cV (ke (fm.el.lens (az B)) (sb ((az B).len zf) rfl)),List.length_set]
     rw [List.length_append,List.length_map,cV (fm.el.lens (az B))] at gF
     exact gF⟩
   refine VO.iz rfl rfl (fk Tryz.func76) rfl (by omega) Aq Au (fun j hj=> ?_) (Nat.le_of_ble_eq_true rfl) (fun w21 k21 b21=>wV rfl ?_)
   ·simp only [ax,AV.cK,List.flatMap_cons,List.flatMap_nil,List.mem_append,List.mem_cons,List.not_mem_nil,or_false,List.append_nil] at hj
    rcases hj with rfl | rfl | rfl <;> (intro h;cases h)
   (repeat first|refine wN ?_|refine wP rfl ?_|refine af rfl ?_|refine ag rfl ?_|refine wO rfl rfl ?_)
   have hV4:cX (cG B) 5 w21 (nz - 1) (if nt=1 then fu else fu + 5) (nt - 1) (ku++[.int .i64 (pp.1:Int),.bool s9,.slice p9 n9 c9,.bool t9,.slice y9 m9 d9]) vE FN qt:=⟨by rw [Ar];rfl,mD jF,by rw [List.all_append,fx.po];rfl,sk.kp (aM B) (by (with_reducible (repeat (first | assumption | exact kU _ | exact kR _ | exact Kp.of (U:=UU) (by assumption) | exact aF.of (by assumption) | refine kT ?_ (by assumption))))),fx.so,by omega,by omega,mG fx.fl⟩
   have pD:di S F keep (rows:List aN).length ⟨q,rows,[]⟩ e=⟨qt,(rows++[dC S F q e]).modify pp.1 (fun r=>{ r with aZ:=pp.2 }),Iq⟩:=by
    rw [lW,uZ,nh]
    exact if_pos hx
   (repeat first|refine wN ?_|refine wP rfl ?_|refine af rfl ?_|refine ag rfl ?_|refine wO rfl rfl ?_)
   refine VS.ko (bj _ _) rfl (fun wz β kz oz en=> ?_)
   obtain ⟨o1,o2⟩:=ea (en.own 198 _ _ rfl) 0 g rfl rfl
   have oR:=(en.own 52 _ _ rfl).cls
   rw [List.map_append,ah] at oR
   have nR:=fe hB dU (show cA 99 [g,vb,rb] w 52 (β 52) from (en.own 52 _ _ rfl).new)
   have oV:=(en.own 62 _ _ rfl).cls
   rw [dL,ah] at oV
   have nV:=fe hB dU (show cA 99 [g,vb,rb] w 62 (β 62) from (en.own 62 _ _ rfl).new)
   have oU:=(en.own 36 _ _ rfl).cls
   rw [ah] at oU
   have nU:=fe hB dU (show cA 99 [g,vb,rb] w 36 (β 36) from (en.own 36 _ _ rfl).new)
   rw [pD]
   refine ⟨rfl,oz.1,[g,β 62,β 52,β 36],⟨fun b hb=> ?_,_,_,_,o2,?_⟩⟩
   ·simp only [List.mem_cons,List.not_mem_nil,or_false] at hb
    rcases hb with rfl | rfl | rfl | rfl
    ·exact zc
    ·exact nV
    ·exact nR
    ·exact nU
   ·exact .inr (.inr (.inr ⟨β 62,β 52,β 36,rfl,⟨_,_,_,_,_,_,rfl,oV,hV4.kp (aM B) (by (with_reducible (repeat (first | assumption | exact kU _ | exact kR _ | exact Kp.of (U:=UU) (by assumption) | exact aF.of (by assumption) | refine kT ?_ (by assumption)))))⟩,⟨_,_,_,_,rfl,oR,(hR3.kp (az B) (by (with_reducible (repeat (first | assumption | exact kU _ | exact kR _ | exact Kp.of (U:=UU) (by assumption) | exact aF.of (by assumption) | refine kT ?_ (by assumption)))))).o β⟩,⟨_,_,_,_,rfl,oU,xK.kp (dk B) (by (with_reducible (repeat (first | assumption | exact kU _ | exact kR _ | exact Kp.of (U:=UU) (by assumption) | exact aF.of (by assumption) | refine kT ?_ (by assumption)))))⟩⟩))
  ·refine VS.bt rfl (by rw [FO,beq_eq_false_iff_ne];omega) ?_
   have pD:di S F keep (rows:List aN).length ⟨q,rows,[]⟩ e=⟨pp::qt,rows++[dC S F q e],Iq⟩:=by
    rw [lW,uZ,nh]
    exact if_neg hx
   (repeat first|refine wN ?_|refine wP rfl ?_|refine af rfl ?_|refine ag rfl ?_|refine wO rfl rfl ?_)
   refine VS.ko (bj _ _) rfl (fun wz β kz oz en=> ?_)
   obtain ⟨o1,o2⟩:=ea (en.own 198 _ _ rfl) 0 g rfl rfl
   have oR:=(en.own 52 _ _ rfl).cls
   rw [List.map_append,ah] at oR
   have nR:=fe hB dU (show cA 99 [g,vb,rb] w 52 (β 52) from (en.own 52 _ _ rfl).new)
   have oV:=(en.own 62 _ _ rfl).cls
   rw [ah] at oV
   have nV:=fe hB dU (show cA 99 [g,vb,rb] w 62 (β 62) from (en.own 62 _ _ rfl).new)
   have oU:=(en.own 36 _ _ rfl).cls
   rw [ah] at oU
   have nU:=fe hB dU (show cA 99 [g,vb,rb] w 36 (β 36) from (en.own 36 _ _ rfl).new)
   rw [pD]
   refine ⟨rfl,oz.1,[g,β 62,β 52,β 36],⟨fun b hb=> ?_,_,_,_,o2,?_⟩⟩
   ·simp only [List.mem_cons,List.not_mem_nil,or_false] at hb
    rcases hb with rfl | rfl | rfl | rfl
    ·exact zc
    ·exact nV
    ·exact nR
    ·exact nU
   ·exact .inr (.inr (.inr ⟨β 62,β 52,β 36,rfl,⟨_,_,_,_,_,_,rfl,oV,fx.kp (aM B) (by (with_reducible (repeat (first | assumption | exact kU _ | exact kR _ | exact Kp.of (U:=UU) (by assumption) | exact aF.of (by assumption) | refine kT ?_ (by assumption)))))⟩,⟨_,_,_,_,rfl,oR,(fm.kp (az B) (by (with_reducible (repeat (first | assumption | exact kU _ | exact kR _ | exact Kp.of (U:=UU) (by assumption) | exact aF.of (by assumption) | refine kT ?_ (by assumption)))))).o β⟩,⟨_,_,_,_,rfl,oU,xK.kp (dk B) (by (with_reducible (repeat (first | assumption | exact kU _ | exact kR _ | exact Kp.of (U:=UU) (by assumption) | exact aF.of (by assumption) | refine kT ?_ (by assumption)))))⟩⟩))
end Go.Proofs.YtabalinjfgcfeaaGreat
set_option maxRecDepth 4000
namespace Go.Proofs.YtabalinjfgcfeaaGreat
open Go.RowKit
attribute [local irreducible] aB VS
set_option maxRecDepth 4000 in
set_option maxHeartbeats 16000000 in
theorem iYear_D {B g keep D kk ks:Nat} {M S F:Rat} {e:Rat×Rat} {vb off nq cq:Nat} {pre KD:List Value} {KE:List (List Value)} {rb nr cr:Nat} {sK:List (List Value)} {uA:List Value} {ub nu cu:Nat} {vsu:List (List Value)} {spu:List Value} {q:List Vq} {rows:List aN} {uses:List Uq} {v u:Value} {w:World} (hg:aW w g Runner #[.slice (some ⟨vb,off,none⟩) nq cq,.slice (some ⟨rb,0,none⟩) nr cr,.slice (some ⟨ub,0,none⟩) nu cu]) (AM:aW w vb cM (pre++(KE.flatten++KD)).toArray) (hV:cX (cG B) 5 w nq off cq pre KE KD q) (zg:aW w rb dT (sK.flatten++uA).toArray) (hR:cX (dD B) 28 w nr 0 cr [] sK uA rows) (hcU:aW w ub er (vsu.flatten++spu).toArray) (hU:cX (nb B) 6 w nu 0 cu [] vsu spu uses)
  (uM:EB w v S F keep ks) (Im:YrV w u e ks) (se:1≤ks) (yh:ks≤kk) (yV:kk≤100000) (vC:Iz D (aD S F e.2)) (Dh:aD S F e.2≤M) (Ip:Iz D e.1) (gK: -M≤e.1) (Di:e.1≤M) (hK:∀ x,Iz D x→-(M + M)≤x→x≤M + M→dQ x kk)
  (vD:xy D M ⟨q,rows,uses⟩) (uy:(rows:List aN).length≤64) (uz:keep≤40) (hB:B≤w.heap.size) (dU:∀ b∈[g,vb,rb,ub],B≤b):
  Calls Tryz.prog 39 #[.pointer (some ⟨g,0,none⟩),v,.int .i64 ((rows:List aN).length:Int),u] w fun o w'=>o=.returned (iB [])∧qn [g,vb,rb,ub] w w'∧∃ Ky,mP B w' g Ky (di S F keep (rows:List aN).length ⟨q,rows,uses⟩ e):=by
 have hL0:=mB S F e.2
 have hM0:0≤M:=by grind
 obtain ⟨g1,g2,g3,g4,g5,g6,g7,g8,g9⟩:=sa vC hL0 Dh Ip gK Di
 have zc:B≤g:=dU g (by simp)
 have hlen:=vD.len
 obtain ⟨sS,pS,nS,cS,tS,yS,mS,dS,sF,pF,nF,cF,tF,yF,mF,dF,rfl,hS,hF⟩:=uM
 obtain ⟨sN,pN,nN,cN,tN,yN,mN,dN,sE,pE,nE,cE,tE,yE,mE,dE,rfl,hN,hE⟩:=Im
 have jt:q.length≤1000:=by dsimp only at hlen;omega
 have Aj:uses.length≤1000:=by dsimp only at hlen;omega
 have pC:iE (KU UU) 99 [g,vb,rb,ub] [(Runner,[.row 199 off nq cq,.row 200 0 nr cr,.row 201 0 nu cu]),(cM,(pre++(KE.flatten++KD)).map .val),(dT,(sK.flatten++uA).map .val),(er,(vsu.flatten++spu).map .val)] w:=by
  have Ht:g≠vb:=fun e=>by subst e;exact absurd (bn hg AM) (by decide)
  have h02:g≠rb:=fun e=>by subst e;exact absurd (bn hg zg) (by decide)
  have h03:g≠ub:=fun e=>by subst e;exact absurd (bn hg hcU) (by decide)
  have zU:vb≠rb:=fun e=>by subst e;exact absurd (bn AM zg) (by decide)
  have h13:vb≠ub:=fun e=>by subst e;exact absurd (bn AM hcU) (by decide)
  have h23:rb≠ub:=fun e=>by subst e;exact absurd (bn zg hcU) (by decide)
  refine ⟨rfl,by simp [Ht,h02,h03,zU,h13,h23],fun j g' c' hj hc=> ?_,fun c' hc=> ?_,fun c' hc k hk=> ?_⟩
  ·match j,hj,hc with
   | 0,hj,hc=>cases hj;cases hc;exact hg
   | 1,hj,hc=>cases hj;cases hc;rw [ah];exact AM
   | 2,hj,hc=>cases hj;cases hc;rw [ah];exact zg
   | 3,hj,hc=>cases hj;cases hc;rw [ah];exact hcU
   | j + 4,hj,_=>simp at hj
  ·simp only [List.mem_cons,List.not_mem_nil,or_false] at hc
   rcases hc with rfl | rfl | rfl | rfl
   ·exact ⟨rfl,rfl⟩
   ·exact ⟨rfl,ba (hV.all (aM B))⟩
   ·exact ⟨rfl,ba (hR.all (az B))⟩
   ·exact ⟨rfl,ba (hU.all (dk B))⟩
  ·simp only [List.mem_cons,List.not_mem_nil,or_false] at hc
   rcases hc with rfl | rfl | rfl | rfl
   ·have:k=199∨k=200∨k=201:=by simpa [ax,AV.cK] using hk
    rcases this with rfl | rfl | rfl
    ·exact ⟨by omega,by show 199 < 2 * 99 + 4;omega⟩
    ·exact ⟨by omega,by show 200 < 2 * 99 + 4;omega⟩
    ·exact ⟨by omega,by show 201 < 2 * 99 + 4;omega⟩
   ·rw [ao] at hk;cases hk
   ·rw [ao] at hk;cases hk
   ·rw [ao] at hk;cases hk
 refine dZ Tryz.prog w _ (KU UU) (fun t=>Nat.beq t 22) table (fun _ _=>trivial) (ad:=[g,vb,rb,ub]) (us:=[_,_,_]) Tryz.func39 rfl Tryz.ntmps39 (Nat.le_of_ble_eq_true rfl) pC (Nat.le_of_ble_eq_true rfl) ?_
 (repeat first|refine wN ?_|refine wP rfl ?_|refine af rfl ?_|refine ag rfl ?_|refine wO rfl rfl ?_)
 refine VO.call rfl rfl (fk Tryz.func70) (fun cB ek du=>((mH _ _ S F keep e ks cB ⟨_,_,_,_,_,_,_,_,_,_,_,_,_,_,_,_,rfl,hS.k,hF.k⟩ ⟨_,_,_,_,_,_,_,_,_,_,_,_,_,_,_,_,rfl,hN.k,hE.k⟩ se (by omega)).mono (fun o w2 h=>And.intro h du.1.size)).mono ?_)
 rintro o w1 ⟨⟨r1,rfl,q1,aV⟩,EC⟩
 obtain ⟨s1,p1,n1,c1,t1,y1,m1,d1,rfl⟩:=q1.form
 refine ⟨_,rfl,aV,fun e9 _ bb1=>wV rfl ?_⟩
 replace q1:=q1.mono (Nat.le_trans hB EC)
 (repeat first|refine wN ?_|refine wP rfl ?_|refine af rfl ?_|refine ag rfl ?_|refine wO rfl rfl ?_)
 refine VO.call rfl rfl (fk Tryz.func44) (fun dB gp et=>((bE 0 dB (by omega) (by omega)).mono (fun o w2 h=>And.intro h et.1.size)).mono ?_)
 rintro o w2 ⟨⟨r2,rfl,q2,bl⟩,qF⟩
 obtain ⟨s2,p2,n2,c2,t2,y2,m2,d2,rfl⟩:=q2.form
 refine ⟨_,rfl,bl,fun fX _ bb2=>wV rfl ?_⟩
 replace q2:=q2.mono (Nat.le_trans hB qF)
 (repeat first|refine wN ?_|refine wP rfl ?_|refine af rfl ?_|refine ag rfl ?_|refine wO rfl rfl ?_)
 refine VO.call rfl rfl (fk Tryz.func44) (fun gr gX gU=>((bE 0 gr (by omega) (by omega)).mono (fun o w2 h=>And.intro h gU.1.size)).mono ?_)
 rintro o w3 ⟨⟨r3,rfl,q3,cC⟩,xz⟩
 obtain ⟨s3,p3,n3,c3,t3,y3,m3,d3,rfl⟩:=q3.form
 refine ⟨_,rfl,cC,fun kh _ bb3=>wV rfl ?_⟩
 replace q3:=q3.mono (Nat.le_trans hB xz)
 (repeat first|refine wN ?_|refine wP rfl ?_|refine af rfl ?_|refine ag rfl ?_|refine wO rfl rfl ?_)
 refine VO.fG rfl (fk Tryz.func71) (fun mZ β pR qx ho=>((fH _ _ e.1 [aD S F e.2] kk mZ ((hN.k).up (by omega)) (dV (ho.own 20 (.base (List.mem_singleton.2 rfl)) _ _ rfl) [] (vs:=[[.bool s1,.slice p1 n1 c1,.bool t1,.slice y1 m1 d1]]) (by rfl) rfl (bX.cons (q1.ki (hK _ vC (by grind) (by grind))) bX.nil) (Nat.le_of_ble_eq_true rfl) (by decide)) (by omega) (Nat.le_of_ble_eq_true rfl)).mono (fun o w2 h=>And.intro h qx.1.size)).mono ?_)
 rintro o w4 ⟨⟨r4,rfl,q4,z4,gT⟩,ED⟩
 rw [gQ] at q4
 obtain ⟨s4,p4,n4,c4,t4,y4,m4,d4,rfl⟩:=q4.form
 refine ⟨_,rfl,gT,fun oQ _ AJ=>wV rfl ?_⟩
 replace q4:=q4.mono (Nat.le_trans hB ED)
 (repeat first|refine wN ?_|refine wP rfl ?_|refine af rfl ?_|refine ag rfl ?_|refine wO rfl rfl ?_)
 refine VO.call rfl rfl (fk Tryz.func72) (fun j9 mw kj=>((bV _ _ e.1 (ai e.1 (aD S F e.2)) kk kk j9 ((hN.k).up (by omega)) (q4.ki (hK _ g1 (by grind) (by grind))) (by omega) (by omega)).mono (fun o w2 h=>And.intro h kj.1.size)).mono ?_)
 rintro o w5 ⟨⟨r5,rfl,q5,gg⟩,qG⟩
 obtain ⟨s5,p5,n5,c5,t5,y5,m5,d5,rfl⟩:=q5.form
 refine ⟨_,rfl,gg,fun na _ wX=>wV rfl ?_⟩
 replace q5:=q5.mono (Nat.le_trans hB qG)
 (repeat first|refine wN ?_|refine wP rfl ?_|refine af rfl ?_|refine ag rfl ?_|refine wO rfl rfl ?_)
 refine VO.call rfl rfl (fk Tryz.func72) (fun pz uh tn=>((bV _ _ (aD S F e.2) (ai e.1 (aD S F e.2)) kk kk pz (q1.ki (hK _ vC (by grind) (by grind))) (q4.ki (hK _ g1 (by grind) (by grind))) (by omega) (by omega)).mono (fun o w2 h=>And.intro h tn.1.size)).mono ?_)
 rintro o w6 ⟨⟨r6,rfl,q6,mO⟩,EE⟩
 obtain ⟨s6,p6,n6,c6,t6,y6,m6,d6,rfl⟩:=q6.form
 refine ⟨_,rfl,mO,fun tp _ Cp=>wV rfl ?_⟩
 replace q6:=q6.mono (Nat.le_trans hB EE)
 (repeat first|refine wN ?_|refine wP rfl ?_|refine af rfl ?_|refine ag rfl ?_|refine wO rfl rfl ?_)
 have lW:di S F keep (rows:List aN).length ⟨q,rows,uses⟩ e=rR keep (rows:List aN).length ⟨kt (rows:List aN).length (e.1 - ai e.1 (aD S F e.2)) (kP q (aD S F e.2 - ai e.1 (aD S F e.2))),rows++[dC S F q e],uses++nw (rows:List aN).length q (aD S F e.2 - ai e.1 (aD S F e.2))⟩:=rfl
 refine VO.CI (u:=201) (us0:=uses) (B:=B) (D:=D) (v:=199) (d2:=36) (M:=M + M) (mm:=aD S F e.2 - ai e.1 (aD S F e.2)) (q:=q) kk rfl rfl rfl (fk Tryz.func73) rfl rfl rfl (fun tX EF FL=>hU.kp (dk B) (by (with_reducible (repeat (first | assumption | exact kU _ | exact kR _ | exact Kp.of (U:=UU) (by assumption) | exact aF.of (by assumption) | refine kT ?_ (by assumption)))))) Aj (by decide) (by decide) rfl (by show 36 < 2 * 99;omega) (by decide) rfl (fun _=>rfl) (fun j hj=> ?_) rfl (fun tX EF FL=>hV.kp (aM B) (by (with_reducible (repeat (first | assumption | exact kU _ | exact kR _ | exact Kp.of (U:=UU) (by assumption) | exact aF.of (by assumption) | refine kT ?_ (by assumption)))))) (fun tX EF FL=>q6.kr) g7 g8 g9 (fun p hp=>⟨(vD.el p hp).1,(vD.el p hp).2.1,(vD.el p hp).2.2.1⟩) (fun x h1 h2 h3=>hK x h1 (by grind) h3) yV jt hB (fun w7 r7 KF nq1 cq1 KG KH KJ un uc vsu1 spu1 ρ7 k7 b7 q7 hV1 hU1=> ?_)
 ·have:j=200:=by simpa [ax,AV.cK] using hj
  subst this;exact ⟨(by intro h;cases h),by decide⟩
 obtain ⟨s7,p7,n7,c7,t7,y7,m7,d7,rfl⟩:=q7.form
 refine VO.fo 200 rfl (dR (ao _) _ _) (wV rfl ?_)
 (repeat first|refine wN ?_|refine wP rfl ?_|refine af rfl ?_|refine ag rfl ?_|refine wO rfl rfl ?_)
 obtain ⟨Iq,Bi⟩:∃ Iq,Iq=uses++nw rows.length q (aD S F e.2 - ai e.1 (aD S F e.2)):=⟨_,rfl⟩
 rw [←Bi] at hU1
 have nh:=Bi.symm
 have xK:=hU1
 obtain ⟨u1,u2,u3⟩:=tx (q:=q) (m:=aD S F e.2 - ai e.1 (aD S F e.2)) (fun p hp=>⟨(vD.el p hp).1,(vD.el p hp).2.1⟩) g7 g8
 refine VO.call rfl rfl (fk Tryz.func16) (fun uK Ei za=>((dw _ _ (ai e.1 (aD S F e.2)) (qO q (aD S F e.2 - ai e.1 (aD S F e.2))) kk kk uK (q4.ki (hK _ g1 (by grind) (by grind))) (q7.ki (hK _ u1 (by grind) (by grind))) (by omega) (by omega)).mono (fun o w2 h=>And.intro h za.1.size)).mono ?_)
 rintro o w8 ⟨⟨r8,rfl,q8,qM⟩,yi⟩
 obtain ⟨s8,p8,n8,c8,t8,y8,m8,d8,rfl⟩:=q8.form
 refine ⟨_,rfl,qM,fun vz _ Ii=>wV rfl ?_⟩
 replace q8:=q8.mono (Nat.le_trans hB yi)
 (repeat first|refine wN ?_|refine wP rfl ?_|refine af rfl ?_|refine ag rfl ?_|refine wO rfl rfl ?_)
 have Kd:((0:Int):Rat)=0:=rfl
 have Al:dD B w8 [.bool s1,.slice p1 n1 c1,.bool t1,.slice y1 m1 d1,.bool s4,.slice p4 n4 c4,.bool t4,.slice y4 m4 d4,.bool s5,.slice p5 n5 c5,.bool t5,.slice y5 m5 d5,.bool s7,.slice p7 n7 c7,.bool t7,.slice y7 m7 d7,.bool s8,.slice p8 n8 c8,.bool t8,.slice y8 m8 d8,.bool s2,.slice p2 n2 c2,.bool t2,.slice y2 m2 d2,.bool s3,.slice p3 n3 c3,.bool t3,.slice y3 m3 d3] (dC S F q e):=⟨[.bool s1,.slice p1 n1 c1,.bool t1,.slice y1 m1 d1],[.bool s4,.slice p4 n4 c4,.bool t4,.slice y4 m4 d4],[.bool s5,.slice p5 n5 c5,.bool t5,.slice y5 m5 d5],[.bool s7,.slice p7 n7 c7,.bool t7,.slice y7 m7 d7],[.bool s8,.slice p8 n8 c8,.bool t8,.slice y8 m8 d8],[.bool s2,.slice p2 n2 c2,.bool t2,.slice y2 m2 d2],[.bool s3,.slice p3 n3 c3,.bool t3,.slice y3 m3 d3],rfl,⟨_,_,_,_,_,_,_,_,rfl,q1.k⟩,⟨_,_,_,_,_,_,_,_,rfl,q4.k⟩,⟨_,_,_,_,_,_,_,_,rfl,q5.k⟩,⟨_,_,_,_,_,_,_,_,rfl,q7.k⟩,⟨_,_,_,_,_,_,_,_,rfl,q8.k⟩,⟨_,_,_,_,_,_,_,_,rfl,q2.k⟩,⟨_,_,_,_,_,_,_,_,rfl,q3.k⟩⟩
 obtain ⟨iC,ju⟩:=hR.el.ok (az B)
 have qX:=hR.len
 refine VO.app (bj _ _) (t:=33) (e:=dT) (sz:=28) (n:=nr) (c:=cr) (mm:=1) (known:=sK.flatten.map .val) (spare:=uA.map .val) (del:=some 200) (news:=([.bool s1,.slice p1 n1 c1,.bool t1,.slice y1 m1 d1,.bool s4,.slice p4 n4 c4,.bool t4,.slice y4 m4 d4,.bool s5,.slice p5 n5 c5,.bool t5,.slice y5 m5 d5,.bool s7,.slice p7 n7 c7,.bool t7,.slice y7 m7 d7,.bool s8,.slice p8 n8 c8,.bool t8,.slice y8 m8 d8,.bool s2,.slice p2 n2 c2,.bool t2,.slice y2 m2 d2,.bool s3,.slice p3 n3 c3,.bool t3,.slice y3 m3 d3]:List Value).map .val) (dst:=52) rfl rfl rfl rfl rfl rfl rfl rfl (Nat.le_of_ble_eq_true rfl) rfl (.inr ⟨200,rfl,congrArg (fun l=>some (dT,l)) (List.map_append ..),rfl⟩) (.inl rfl) (by rw [List.length_map,ju,qX]) (by rw [←List.map_append,List.length_map];exact hR.fl) hR.le hR.cm ⟨ao _,ao _,rfl⟩ ⟨ba iC,ba hR.so,rfl⟩ rfl (by omega)
  (fun w1 β k1 b1 ho=>⟨_,_,rfl,.inr ⟨β 51,0,rfl,cJ (rest:=[]) (ho.own 51 (.base (List.mem_append_right _ (List.mem_singleton.2 rfl))) _ _ rfl) rfl⟩⟩)
  (fun nv lx uN ρ FH FI fy jb gj eb Am iA=>VO.fo 199 rfl (dR (ao _) _ _) (VO.fo 36 rfl (dR (ao _) _ _) (wV rfl ?_)))
 (repeat (first | refine wN ?_ | refine wP rfl ?_ | refine af rfl ?_ | refine wO rfl rfl ?_))
 obtain ⟨nx,sf⟩:∃ nx,nx=nr + 1:=⟨_,rfl⟩
 obtain ⟨qI,si⟩:∃ qI,qI=(sK++[[.bool s1,.slice p1 n1 c1,.bool t1,.slice y1 m1 d1,.bool s4,.slice p4 n4 c4,.bool t4,.slice y4 m4 d4,.bool s5,.slice p5 n5 c5,.bool t5,.slice y5 m5 d5,.bool s7,.slice p7 n7 c7,.bool t7,.slice y7 m7 d7,.bool s8,.slice p8 n8 c8,.bool t8,.slice y8 m8 d8,.bool s2,.slice p2 n2 c2,.bool t2,.slice y2 m2 d2,.bool s3,.slice p3 n3 c3,.bool t3,.slice y3 m3 d3]]:List (List Value)):=⟨_,rfl⟩
 have fm:nd (dD B) 28 nv nx lx qI uN (rows++[dC S F q e]):=by rw [sf,si];exact ⟨by rw [qX,List.length_append];rfl,(hR.el.kp (az B) (by (with_reducible (repeat (first | assumption | exact kU _ | exact kR _ | exact Kp.of (U:=UU) (by assumption) | exact aF.of (by assumption) | refine kT ?_ (by assumption)))))).snoc ((az B).kp Al (by (with_reducible (repeat (first | assumption | exact kU _ | exact kR _ | exact Kp.of (U:=UU) (by assumption) | exact aF.of (by assumption) | refine kT ?_ (by assumption)))))),Am,iA,jb,gj,by simpa using eb⟩
 refine VS.narrow [(0,.box 198 0),(2,.val (.int .i64 ((rows:List aN).length:Int))),(5,.box 5 0),(8,.box 8 0)] [(198,(Runner,[.row 199 KF nq1 cq1,.row 52 0 nx lx,.row 36 0 un uc])),(52,(dT,qI.flatten.map AV.val++uN)),(5,(28,([.bool sS,.slice pS nS cS,.bool tS,.slice yS mS dS,.bool sF,.slice pF nF cF,.bool tF,.slice yF mF dF,.int .i64 (keep:Int)]:List Value).map AV.val)),(8,(dT,([.bool s1,.slice p1 n1 c1,.bool t1,.slice y1 m1 d1,.bool s4,.slice p4 n4 c4,.bool t4,.slice y4 m4 d4,.bool s5,.slice p5 n5 c5,.bool t5,.slice y5 m5 d5,.bool s7,.slice p7 n7 c7,.bool t7,.slice y7 m7 d7,.bool s8,.slice p8 n8 c8,.bool t8,.slice y8 m8 d8,.bool s2,.slice p2 n2 c2,.bool t2,.slice y2 m2 d2,.bool s3,.slice p3 n3 c3,.bool t3,.slice y3 m3 d3]:List Value).map AV.val)),(199,(cM,(KG++(KH.flatten++KJ)).map AV.val)),(36,(er,(vsu1.flatten++spu1).map AV.val))] ⟨rfl,rfl,rfl,rfl,trivial⟩ ⟨by rw [sf];rfl,by rw [si];exact congrArg (fun l=>some (dT,l++uN)) (by simp),rfl,rfl,rfl,rfl,trivial⟩ rfl ⟨.lit rfl,.append (.vals _) (.none iA),.vals _,.vals _,.vals _,.vals _,trivial⟩ ?_
 refine VS.draw (bj _ _) (jL _ _) [1000000 + 74] (by kernel_rfl) (VO.run 80 rfl ?_)
 have KL:nq1≤1000:=by rw [hV1.len];have:=(xx rows.length q (aD S F e.2 - ai e.1 (aD S F e.2))).2;omega
 refine VO.xp (B:=B) (v:=199) (d2:=62) (d:=e.1 - ai e.1 (aD S F e.2)) (q:=kP q (aD S F e.2 - ai e.1 (aD S F e.2))) kk rfl rfl rfl (fk Tryz.func74) rfl rfl rfl (by show 62 < 2 * 99;omega) (by decide) (fun j hj=> ?_) rfl (fun tX EF FL=>hV1.kp (aM B) (by (with_reducible (repeat (first | assumption | exact kU _ | exact kR _ | exact Kp.of (U:=UU) (by assumption) | exact aF.of (by assumption) | refine kT ?_ (by assumption)))))) (fun tX EF FL=>q5.kr) (hK _ g4 (by grind) (by grind)) yV KL hB (fun AL fu nz nt ku FM FN ρ19 k19 b19 fx=> ?_)
 ·have:j=52∨j=36:=by simpa [ax,AV.cK] using hj
  rcases this with rfl | rfl <;> exact ⟨(by intro h;cases h),by decide⟩
 obtain ⟨q2,sj⟩:∃ q2:List Vq,q2=kt rows.length (e.1 - ai e.1 (aD S F e.2)) (kP q (aD S F e.2 - ai e.1 (aD S F e.2))):=⟨_,rfl⟩
 rw [←sj] at fx
 have uZ:=sj.symm
 refine VO.fo 52 rfl (dR (by rw [cz,ao,iA];rfl) _ _) (VO.fo 36 rfl (dR (ao _) _ _) (wV rfl ?_))
 (repeat first|refine wN ?_|refine wP rfl ?_|refine af rfl ?_|refine ag rfl ?_|refine wO rfl rfl ?_)
 by_cases lD:nz=0
 ·refine VO.cY (x:=.row 62 fu nz nt) (p:=fun _=>none) (c:=nt) rfl (fun β=>.inr ⟨_,congrArg (fun n=>Value.slice (some ⟨β 62,fu,none⟩) n nt) lD⟩) rfl (fk Tryz.func75) rfl (fun CJ Kz KA=>wV rfl ?_)
  (repeat first|refine wN ?_|refine wP rfl ?_|refine af rfl ?_|refine ag rfl ?_|refine wO rfl rfl ?_)
  have Ao:q2=[]:=List.eq_nil_of_length_eq_zero (by rw [←fx.len];exact lD)
  have pD:di S F keep (rows:List aN).length ⟨q,rows,uses⟩ e=⟨q2,rows++[dC S F q e],Iq⟩:=by rw [lW,uZ,nh,Ao];rfl
  (repeat first|refine wN ?_|refine wP rfl ?_|refine af rfl ?_|refine ag rfl ?_|refine wO rfl rfl ?_)
  refine VS.ko (bj _ _) rfl (fun wz β kz oz en=> ?_)
  obtain ⟨o1,o2⟩:=ea (en.own 198 _ _ rfl) 0 g rfl rfl
  have oR:=(en.own 52 _ _ rfl).cls
  rw [List.map_append,ah] at oR
  have nR:=fe hB dU (show cA 99 [g,vb,rb,ub] w 52 (β 52) from (en.own 52 _ _ rfl).new)
  have oV:=(en.own 62 _ _ rfl).cls
  rw [ah] at oV
  have nV:=fe hB dU (show cA 99 [g,vb,rb,ub] w 62 (β 62) from (en.own 62 _ _ rfl).new)
  have oU:=(en.own 36 _ _ rfl).cls
  rw [ah] at oU
  have nU:=fe hB dU (show cA 99 [g,vb,rb,ub] w 36 (β 36) from (en.own 36 _ _ rfl).new)
  rw [pD]
  refine ⟨rfl,oz.1,[g,β 62,β 52,β 36],⟨fun b hb=> ?_,_,_,_,o2,?_⟩⟩
  ·simp only [List.mem_cons,List.not_mem_nil,or_false] at hb
   rcases hb with rfl | rfl | rfl | rfl
   ·exact zc
   ·exact nV
   ·exact nR
   ·exact nU
  ·exact .inr (.inr (.inr ⟨β 62,β 52,β 36,rfl,⟨_,_,_,_,_,_,rfl,oV,fx.kp (aM B) (by (with_reducible (repeat (first | assumption | exact kU _ | exact kR _ | exact Kp.of (U:=UU) (by assumption) | exact aF.of (by assumption) | refine kT ?_ (by assumption)))))⟩,⟨_,_,_,_,rfl,oR,(fm.kp (az B) (by (with_reducible (repeat (first | assumption | exact kU _ | exact kR _ | exact Kp.of (U:=UU) (by assumption) | exact aF.of (by assumption) | refine kT ?_ (by assumption)))))).o β⟩,⟨_,_,_,_,rfl,oU,xK.kp (dk B) (by (with_reducible (repeat (first | assumption | exact kU _ | exact kR _ | exact Kp.of (U:=UU) (by assumption) | exact aF.of (by assumption) | refine kT ?_ (by assumption)))))⟩⟩))
 obtain ⟨pp,qt,Jr⟩:∃ pp qt,q2=pp::qt:=by
  cases q2 with
  | nil=>exact absurd fx.len lD
  | cons pp qt=>exact ⟨pp,qt,rfl⟩
 subst Jr
 obtain ⟨Ap,vE,rfl,hE4,sk⟩:∃ Ap vE,FM=Ap::vE∧cG B AL Ap pp∧cL (cG B) AL qt vE:=by
  have:=fx.el
  cases this with
  | cons h1 h2=>exact ⟨_,_,rfl,h1,h2⟩
 obtain ⟨s9,p9,n9,c9,t9,y9,m9,d9,rfl,Ho⟩:=hE4
 have Aq:=fx.le
 have Ar:=fx.len
 have Au:=fx.cm
 have jF:ku.length=fu:=fx.pl.resolve_right (by omega)
 refine VO.cH rfl rfl (fk Tryz.func75) rfl lD (by intro h;cases h) (fun CJ Kz KA=>wV rfl ?_)
 (repeat first|refine wN ?_|refine wP rfl ?_|refine af rfl ?_|refine ag rfl ?_|refine wO rfl rfl ?_)
 refine VO.df rfl (([.int .i64 (pp.1:Int)]:List Value).map .val) rfl (bg jF 0 _ ⟨_,rfl⟩) (wV rfl ?_)
 (repeat first|refine wN ?_|refine wP rfl ?_|refine af rfl ?_|refine ag rfl ?_|refine wO rfl rfl ?_)
 have FO:IntKind.i64.wrap (((rows:List aN).length:Int) - (keep:Int))=((rows:List aN).length:Int) - (keep:Int):=IntWalk.i64_in _ (by omega)
 by_cases hx:pp.1 + keep=(rows:List aN).length
 ·refine VS.bD rfl (by rw [FO,beq_iff_eq];omega) ?_
  (repeat first|refine wN ?_|refine wP rfl ?_|refine af rfl ?_|refine ag rfl ?_|refine wO rfl rfl ?_)
  refine VO.df rfl (([.int .i64 (pp.1:Int)]:List Value).map .val) rfl (bg jF 0 _ ⟨_,rfl⟩) (wV rfl ?_)
  (repeat first|refine wN ?_|refine wP rfl ?_|refine af rfl ?_|refine ag rfl ?_|refine wO rfl rfl ?_)
  refine VO.df rfl (([.bool s9,.slice p9 n9 c9,.bool t9,.slice y9 m9 d9]:List Value).map .val) rfl (bg jF 1 _ ⟨[],rfl⟩) (wV rfl ?_)
  (repeat first|refine wN ?_|refine wP rfl ?_|refine af rfl ?_|refine ag rfl ?_|refine wO rfl rfl ?_)
  have ff:=fm.len
  have BP:pp.1 < nx:=by rw [ff,List.length_append,List.length_singleton];omega
  refine VO.cond rfl ⟨by omega,by omega⟩ (wV rfl ?_)
  obtain ⟨rq,zd⟩:∃ rq,(rows++[dC S F q e])[pp.1]? =some rq:=⟨_,List.getElem?_eq_getElem (by rw [←ff];exact BP)⟩
  obtain ⟨ze,tz,zf⟩:=fm.el.at pp.1 rq zd
  have gF:=fm.fl
  have Hq:=fm.le
  refine VO.cond rfl (by show 0 + ((pp.1:Int)).toNat * 28 + 20 + 4≤_;rw [gF,Int.toNat_natCast];omega) (VO.fo 52 rfl (kc (new:=[.bool s9,.slice p9 n9 c9,.bool t9,.slice y9 m9 d9]) (o:=20) (fm.el.lens (az B)) tz (Nat.le_of_ble_eq_true rfl)) (wV rfl ?_))
  (repeat first|refine wN ?_|refine wP rfl ?_|refine af rfl ?_|refine ag rfl ?_|refine wO rfl rfl ?_)
  have hR3:nd (dD B) 28 CJ nx lx (qI.set pp.1 (ze.take 20++([.bool s9,.slice p9 n9 c9,.bool t9,.slice y9 m9 d9]++ze.drop (20 + ([.bool s9,.slice p9 n9 c9,.bool t9,.slice y9 m9 d9]:List Value).length)))) uN ((rows++[dC S F q e]).modify pp.1 (fun r=>{ r with aZ:=pp.2 })):=
   ⟨by rw [List.length_modify];exact ff,by rw [gI zd];exact (fm.el.kp (az B) (by (with_reducible (repeat (first | assumption | exact kU _ | exact kR _ | exact Kp.of (U:=UU) (by assumption) | exact aF.of (by assumption) | refine kT ?_ (by assumption)))))).set (oB ((az B).kp zf (by (with_reducible (repeat (first | assumption | exact kU _ | exact kR _ | exact Kp.of (U:=UU) (by assumption) | exact aF.of (by assumption) | refine kT ?_ (by assumption)))))) ⟨_,_,_,_,_,_,_,_,rfl,Ho.kp (by (with_reducible (repeat (first | assumption | exact kU _ | exact kR _ | exact Kp.of (U:=UU) (by assumption) | exact aF.of (by assumption) | refine kT ?_ (by assumption)))))⟩),fm.so,fm.sl,fm.le,fm.cm,by
    rw [List.length_append,List.length_map,cV (ke (fm.el.lens (az B)) (sb ((az B).len zf) rfl)),List.length_set]
    rw [List.length_append,List.length_map,cV (fm.el.lens (az B))] at gF
    exact gF⟩
  refine VO.iz rfl rfl (fk Tryz.func76) rfl (by omega) Aq Au (fun j hj=> ?_) (Nat.le_of_ble_eq_true rfl) (fun w21 k21 b21=>wV rfl ?_)
  ·simp only [ax,AV.cK,List.flatMap_cons,List.flatMap_nil,List.mem_append,List.mem_cons,List.not_mem_nil,or_false,List.append_nil] at hj
   rcases hj with rfl | rfl | rfl <;> (intro h;cases h)
  (repeat first|refine wN ?_|refine wP rfl ?_|refine af rfl ?_|refine ag rfl ?_|refine wO rfl rfl ?_)
  have hV4:cX (cG B) 5 w21 (nz - 1) (if nt=1 then fu else fu + 5) (nt - 1) (ku++[.int .i64 (pp.1:Int),.bool s9,.slice p9 n9 c9,.bool t9,.slice y9 m9 d9]) vE FN qt:=⟨by rw [Ar];rfl,mD jF,by rw [List.all_append,fx.po];rfl,sk.kp (aM B) (by (with_reducible (repeat (first | assumption | exact kU _ | exact kR _ | exact Kp.of (U:=UU) (by assumption) | exact aF.of (by assumption) | refine kT ?_ (by assumption))))),fx.so,by omega,by omega,mG fx.fl⟩
  have pD:di S F keep (rows:List aN).length ⟨q,rows,uses⟩ e=⟨qt,(rows++[dC S F q e]).modify pp.1 (fun r=>{ r with aZ:=pp.2 }),Iq⟩:=by
   rw [lW,uZ,nh]
   exact if_pos hx
  (repeat first|refine wN ?_|refine wP rfl ?_|refine af rfl ?_|refine ag rfl ?_|refine wO rfl rfl ?_)
  refine VS.ko (bj _ _) rfl (fun wz β kz oz en=> ?_)
  obtain ⟨o1,o2⟩:=ea (en.own 198 _ _ rfl) 0 g rfl rfl
  have oR:=(en.own 52 _ _ rfl).cls
  rw [List.map_append,ah] at oR
  have nR:=fe hB dU (show cA 99 [g,vb,rb,ub] w 52 (β 52) from (en.own 52 _ _ rfl).new)
  have oV:=(en.own 62 _ _ rfl).cls
  rw [dL,ah] at oV
  have nV:=fe hB dU (show cA 99 [g,vb,rb,ub] w 62 (β 62) from (en.own 62 _ _ rfl).new)
  have oU:=(en.own 36 _ _ rfl).cls
  rw [ah] at oU
  have nU:=fe hB dU (show cA 99 [g,vb,rb,ub] w 36 (β 36) from (en.own 36 _ _ rfl).new)
  rw [pD]
  refine ⟨rfl,oz.1,[g,β 62,β 52,β 36],⟨fun b hb=> ?_,_,_,_,o2,?_⟩⟩
  ·simp only [List.mem_cons,List.not_mem_nil,or_false] at hb
   rcases hb with rfl | rfl | rfl | rfl
   ·exact zc
   ·exact nV
   ·exact nR
   ·exact nU
  ·exact .inr (.inr (.inr ⟨β 62,β 52,β 36,rfl,⟨_,_,_,_,_,_,rfl,oV,hV4.kp (aM B) (by (with_reducible (repeat (first | assumption | exact kU _ | exact kR _ | exact Kp.of (U:=UU) (by assumption) | exact aF.of (by assumption) | refine kT ?_ (by assumption)))))⟩,⟨_,_,_,_,rfl,oR,(hR3.kp (az B) (by (with_reducible (repeat (first | assumption | exact kU _ | exact kR _ | exact Kp.of (U:=UU) (by assumption) | exact aF.of (by assumption) | refine kT ?_ (by assumption)))))).o β⟩,⟨_,_,_,_,rfl,oU,xK.kp (dk B) (by (with_reducible (repeat (first | assumption | exact kU _ | exact kR _ | exact Kp.of (U:=UU) (by assumption) | exact aF.of (by assumption) | refine kT ?_ (by assumption)))))⟩⟩))
 ·refine VS.bt rfl (by rw [FO,beq_eq_false_iff_ne];omega) ?_
  have pD:di S F keep (rows:List aN).length ⟨q,rows,uses⟩ e=⟨pp::qt,rows++[dC S F q e],Iq⟩:=by
   rw [lW,uZ,nh]
   exact if_neg hx
  (repeat first|refine wN ?_|refine wP rfl ?_|refine af rfl ?_|refine ag rfl ?_|refine wO rfl rfl ?_)
  refine VS.ko (bj _ _) rfl (fun wz β kz oz en=> ?_)
  obtain ⟨o1,o2⟩:=ea (en.own 198 _ _ rfl) 0 g rfl rfl
  have oR:=(en.own 52 _ _ rfl).cls
  rw [List.map_append,ah] at oR
  have nR:=fe hB dU (show cA 99 [g,vb,rb,ub] w 52 (β 52) from (en.own 52 _ _ rfl).new)
  have oV:=(en.own 62 _ _ rfl).cls
  rw [ah] at oV
  have nV:=fe hB dU (show cA 99 [g,vb,rb,ub] w 62 (β 62) from (en.own 62 _ _ rfl).new)
  have oU:=(en.own 36 _ _ rfl).cls
  rw [ah] at oU
  have nU:=fe hB dU (show cA 99 [g,vb,rb,ub] w 36 (β 36) from (en.own 36 _ _ rfl).new)
  rw [pD]
  refine ⟨rfl,oz.1,[g,β 62,β 52,β 36],⟨fun b hb=> ?_,_,_,_,o2,?_⟩⟩
  ·simp only [List.mem_cons,List.not_mem_nil,or_false] at hb
   rcases hb with rfl | rfl | rfl | rfl
   ·exact zc
   ·exact nV
   ·exact nR
   ·exact nU
  ·exact .inr (.inr (.inr ⟨β 62,β 52,β 36,rfl,⟨_,_,_,_,_,_,rfl,oV,fx.kp (aM B) (by (with_reducible (repeat (first | assumption | exact kU _ | exact kR _ | exact Kp.of (U:=UU) (by assumption) | exact aF.of (by assumption) | refine kT ?_ (by assumption)))))⟩,⟨_,_,_,_,rfl,oR,(fm.kp (az B) (by (with_reducible (repeat (first | assumption | exact kU _ | exact kR _ | exact Kp.of (U:=UU) (by assumption) | exact aF.of (by assumption) | refine kT ?_ (by assumption)))))).o β⟩,⟨_,_,_,_,rfl,oU,xK.kp (dk B) (by (with_reducible (repeat (first | assumption | exact kU _ | exact kR _ | exact Kp.of (U:=UU) (by assumption) | exact aF.of (by assumption) | refine kT ?_ (by assumption)))))⟩⟩))
end Go.Proofs.YtabalinjfgcfeaaGreat
set_option maxRecDepth 4000
namespace Go.Proofs.YtabalinjfgcfeaaGreat
open Go.RowKit
attribute [local irreducible] aB VS
theorem Hu {B g keep D kk ks:Nat} {M S F:Rat} {e:Rat×Rat} {ad:List Nat} {s:CC} {v u:Value} {w:World} (hs:mP B w g ad s)
  (uM:EB w v S F keep ks) (Im:YrV w u e ks) (se:1≤ks) (yh:ks≤kk) (yV:kk≤100000) (vC:Iz D (aD S F e.2)) (Dh:aD S F e.2≤M) (Ip:Iz D e.1) (gK: -M≤e.1) (Di:e.1≤M) (hK:∀ x,Iz D x→-(M + M)≤x→x≤M + M→dQ x kk)
  (vD:xy D M s) (uy:s.rows.length≤64) (uz:keep≤40) (hB:B≤w.heap.size):
  Calls Tryz.prog 39 #[.pointer (some ⟨g,0,none⟩),v,.int .i64 (s.rows.length:Int),u] w fun o w'=>o=.returned (iB [])∧qn ad w w'∧∃ Ky,mP B w' g Ky (di S F keep s.rows.length s e):=by
 obtain ⟨q,rows,uses⟩:=s
 obtain ⟨had,vv,r,uu,hg,h⟩:=hs
 rcases h with ⟨rfl,rfl,rfl,rfl,rfl,rfl,rfl⟩ | ⟨rb,rfl,rfl,rfl,rfl,rfl,n,c,vs,sp,rfl,h1,h2⟩ | ⟨vb,rb,rfl,rfl,rfl,⟨off,nq,cq,pre,KE,KD,rfl,h3,h4⟩,n,c,vs,sp,rfl,h1,h2⟩ | ⟨vb,rb,ub,rfl,⟨off,nq,cq,pre,KE,KD,rfl,h3,h4⟩,⟨n,c,vs,sp,rfl,h1,h2⟩,n',c',gD,sp',rfl,h5,h6⟩
 ·exact iYear_A (q:=[]) (rows:=[]) (uses:=[]) hg uM Im se yh yV vC Dh Ip gK Di hK vD uy uz hB had
 ·exact iYear_B (q:=[]) (uses:=[]) hg h1 h2 uM Im se yh yV vC Dh Ip gK Di hK vD uy uz hB had
 ·exact iYear_C (uses:=[]) hg h3 h4 h1 h2 uM Im se yh yV vC Dh Ip gK Di hK vD uy uz hB had
 ·exact iYear_D hg h3 h4 h1 h2 h5 h6 uM Im se yh yV vC Dh Ip gK Di hK vD uy uz hB had
abbrev RR:=Bool×List Nat×Bool×List Nat
def RR.q (x:RR):Rat:=rq x.1 x.2.1 x.2.2.1 x.2.2.2
def RR.ok (x:RR):Bool:=En x.1 x.2.1 x.2.2.1 x.2.2.2
def tA (w:World) (cs:List Value) (x:RR):Prop:=∃ p c r d,cs=[.bool x.1,.slice p x.2.1.length c,.bool x.2.2.1,.slice r x.2.2.2.length d]∧eQ w (.agg #[.bool x.1,.slice p x.2.1.length c,.bool x.2.2.1,.slice r x.2.2.2.length d]) x.1 x.2.1 x.2.2.1 x.2.2.2
theorem tA.kp {T:TypeId→Bool} {w w':World} {cs:List Value} {x:RR} (h:tA w cs x) (k:aF ⟨UU,fun _=>True,T⟩ w w'):tA w' cs x:=by
 obtain ⟨p,c,r,d,h1,h2⟩:=h
 exact ⟨p,c,r,d,h1,h2.kp k⟩
def RR.mM (x:RR) (k:Nat):Prop:=x.2.1.length≤k∧x.2.2.2.length≤k
def xQ (kk:Nat) (w:World) (cs:List Value) (e:RR×RR):Prop:=∃ a b,cs=a++b∧tA w a e.1∧tA w b e.2∧e.1.mM kk∧e.2.mM kk
theorem tA.len {w:World} {cs:List Value} {x:RR} (h:tA w cs x):cs.length=4:=by obtain ⟨p,c,r,d,rfl,_⟩:=h;rfl
theorem tA.ok {w:World} {cs:List Value} {x:RR} (h:tA w cs x):cs.all aU=true:=by obtain ⟨p,c,r,d,rfl,_⟩:=h;rfl
theorem fN (kk:Nat):ln (xQ kk) 8 where
 kp:=fun h k=>by
  obtain ⟨a,b,h0,h1,h2,h3⟩:=h
  exact ⟨a,b,h0,h1.kp k,h2.kp k,h3⟩
 len:=fun h=>by obtain ⟨a,b,rfl,h1,h2,h3⟩:=h;rw [List.length_append,h1.len,h2.len]
 ok:=fun h=>by obtain ⟨a,b,rfl,h1,h2,h3⟩:=h;rw [List.all_append,h1.ok,h2.ok];rfl
def jk (w:World) (v:Value) (a b:RR) (keep:Int):Prop:=∃ p c r d p' c' r' d',v=.agg #[.bool a.1,.slice p a.2.1.length c,.bool a.2.2.1,.slice r a.2.2.2.length d,.bool b.1,.slice p' b.2.1.length c',.bool b.2.2.1,.slice r' b.2.2.2.length d',.int .i64 keep]∧
 eQ w (.agg #[.bool a.1,.slice p a.2.1.length c,.bool a.2.2.1,.slice r a.2.2.2.length d]) a.1 a.2.1 a.2.2.1 a.2.2.2∧eQ w (.agg #[.bool b.1,.slice p' b.2.1.length c',.bool b.2.2.1,.slice r' b.2.2.2.length d']) b.1 b.2.1 b.2.2.1 b.2.2.2
theorem eQ.o9 {w:World} {v:Value} {x:RR} {k:Nat} (h:eQ w v x.1 x.2.1 x.2.2.1 x.2.2.2) (hk:x.mM k):bJ w v x.q k:=⟨_,_,_,_,h,rfl,hk.1,hk.2⟩
theorem jk.v {w:World} {v:Value} {a b:RR} {keep:Int} {ks:Nat} (h:jk w v a b keep) (ha:a.mM ks) (hb:b.mM ks):EB w v a.q b.q keep ks:=by
 obtain ⟨p,c,r,d,p',c',r',d',rfl,h1,h2⟩:=h
 exact ⟨_,_,_,_,_,_,_,_,_,_,_,_,_,_,_,_,rfl,h1.o9 ha,h2.o9 hb⟩
theorem jk.kp {T:TypeId→Bool} {w w':World} {v:Value} {a b:RR} {keep:Int} (h:jk w v a b keep) (k:aF ⟨UU,fun _=>True,T⟩ w w'):jk w' v a b keep:=by
 obtain ⟨p,c,r,d,p',c',r',d',h0,h1,h2⟩:=h
 exact ⟨p,c,r,d,p',c',r',d',h0,h1.kp k,h2.kp k⟩
theorem fO (x:RR) (b:Bool) (hb:x.ok=b) (v:Value) (w:World) (h:eQ w v x.1 x.2.1 x.2.2.1 x.2.2.2) {k:Nat} (hx:x.mM k) (hk:k≤100000):
 Calls Tryz.prog 68 #[v] w fun e w'=>e=.returned (.bool b)∧aj w w':=hb▸rO _ _ _ _ v w h (Nat.le_trans hx.1 (by omega)) (Nat.le_trans hx.2 (by omega))
def jl (a b:RR) (keep:Int):Bool:=a.ok && (b.ok && (decide (dJ a.q 0≥0) && (decide (dJ a.q 1≤0) && (decide (keep≥0) && decide (keep≤40)))))
set_option maxRecDepth 4000 in
theorem EG (v:Value) (a b:RR) (keep:Int) (k:Nat) (w:World) (h:jk w v a b keep) (ha:a.mM k) (hb:b.mM k) (hk:k≤100000):
  Calls Tryz.prog 35 #[v] w fun o w'=>o=.returned (.bool (jl a b keep))∧aj w w':=by
 obtain ⟨p,c,r,d,p',c',r',d',rfl,h1,h2⟩:=h
 refine aw (C:=cf Tryz.prog w _) (args:=[_]) Tryz.func35 rfl Tryz.ntmps35 (Nat.le_of_ble_eq_true rfl) ?_
 (repeat first|refine wN ?_|refine wP rfl ?_|refine aa rfl ?_|refine ab rfl ?_|refine wO rfl rfl ?_)
 cases e1:a.ok with
 | false=>
  refine VO.call rfl rfl (fk Tryz.func68) (fun cB ek du=>(fO a false e1 _ cB (h1.kp (Kp.of (U:=UU) du)) ha hk).mono ?_)
  rintro e w1 ⟨rfl,aV⟩
  skip
  refine ⟨_,rfl,aV,fun e9 _ bb1=>wV rfl ?_⟩
  (repeat first|refine wN ?_|refine wP rfl ?_|refine aa rfl ?_|refine ab rfl ?_|refine wO rfl rfl ?_)
  refine VS.ret (aL _ _) rfl rfl (fun wz kz bz=> ?_)
  exact ⟨by unfold jl;rw [e1];rfl,bz⟩
 | true=>
 refine VO.call rfl rfl (fk Tryz.func68) (fun cB ek du=>(fO a true e1 _ cB (h1.kp (Kp.of (U:=UU) du)) ha hk).mono ?_)
 rintro e w1 ⟨rfl,aV⟩
 skip
 refine ⟨_,rfl,aV,fun e9 _ bb1=>wV rfl ?_⟩
 (repeat first|refine wN ?_|refine wP rfl ?_|refine aa rfl ?_|refine ab rfl ?_|refine wO rfl rfl ?_)
 cases e2:b.ok with
 | false=>
  refine VO.call rfl rfl (fk Tryz.func68) (fun dB gp et=>(fO b false e2 _ dB (h2.kp (Kp.of (U:=UU) et)) hb hk).mono ?_)
  rintro e w2 ⟨rfl,bl⟩
  skip
  refine ⟨_,rfl,bl,fun fX _ bb2=>wV rfl ?_⟩
  (repeat first|refine wN ?_|refine wP rfl ?_|refine aa rfl ?_|refine ab rfl ?_|refine wO rfl rfl ?_)
  refine VS.ret (aL _ _) rfl rfl (fun wz kz bz=> ?_)
  exact ⟨by unfold jl;rw [e1,e2];rfl,bz⟩
 | true=>
 refine VO.call rfl rfl (fk Tryz.func68) (fun dB gp et=>(fO b true e2 _ dB (h2.kp (Kp.of (U:=UU) et)) hb hk).mono ?_)
 rintro e w2 ⟨rfl,bl⟩
 skip
 refine ⟨_,rfl,bl,fun fX _ bb2=>wV rfl ?_⟩
 (repeat first|refine wN ?_|refine wP rfl ?_|refine aa rfl ?_|refine ab rfl ?_|refine wO rfl rfl ?_)
 obtain ⟨sg,jm⟩:∃ sg,dJ a.q 0=sg:=⟨_,rfl⟩
 have hrul:jl a b keep=(decide (sg≥0) && (decide (dJ a.q 1≤0) && (decide (keep≥0) && decide (keep≤40)))):=by unfold jl;rw [e1,e2,jm];rfl
 rw [hrul]
 refine VO.call rfl rfl (fk Tryz.func13) (fun gr gX gU=>(bR _ a.q k gr ((h1.o9 ha).kp (Kp.of (U:=UU) gU)) (by omega) sg jm).mono ?_)
 rintro e w3 ⟨rfl,cC⟩
 skip
 refine ⟨_,rfl,cC,fun kh _ bb3=>wV rfl ?_⟩
 (repeat first|refine wN ?_|refine wP rfl ?_|refine aa rfl ?_|refine ab rfl ?_|refine wO rfl rfl ?_)
 by_cases e3':sg < 0
 ·have e3:¬ sg≥0:=by omega
  rw [decide_eq_false e3]
  (repeat first|refine wN ?_|refine wP rfl ?_|refine aa rfl ?_|refine ab rfl ?_|refine wO rfl rfl ?_)
  refine VS.ret (aL _ _) rfl rfl (fun wz kz bz=> ?_)
  exact ⟨rfl,bz⟩
 have e3:sg≥0:=by omega
 rw [decide_eq_true e3]
 (repeat first|refine wN ?_|refine wP rfl ?_|refine aa rfl ?_|refine ab rfl ?_|refine wO rfl rfl ?_)
 refine VO.call rfl rfl (fk Tryz.func44) (fun mZ pR qx=>(bE 1 mZ (by omega) (by omega)).mono ?_)
 rintro e w4 ⟨r4,rfl,q4,gT⟩
 obtain ⟨s4,p4,n4,c4,t4,y4,m4,d4,rfl⟩:=q4.form
 refine ⟨_,rfl,gT,fun oQ _ AJ=>wV rfl ?_⟩
 (repeat first|refine wN ?_|refine wP rfl ?_|refine aa rfl ?_|refine ab rfl ?_|refine wO rfl rfl ?_)
 have h11:((1:Int):Rat)=1:=rfl
 rw [h11] at q4
 obtain ⟨cm,eT⟩:∃ cm,dJ a.q 1=cm:=⟨_,rfl⟩
 rw [eT]
 refine VO.call rfl rfl (fk Tryz.func12) (fun j9 mw kj=>(dK _ _ a.q 1 k 1 j9 ((h1.o9 ha).kp (Kp.of (U:=UU) kj)) (q4.ki ⟨Sz.small (by decide),Sz.small (by decide)⟩) (by omega) (by omega) cm eT).mono ?_)
 rintro e w5 ⟨rfl,gg⟩
 skip
 refine ⟨_,rfl,gg,fun na _ wX=>wV rfl ?_⟩
 (repeat first|refine wN ?_|refine wP rfl ?_|refine aa rfl ?_|refine ab rfl ?_|refine wO rfl rfl ?_)
 by_cases e4':0 < cm
 ·have e4:¬ cm≤0:=by omega
  rw [decide_eq_false e4]
  (repeat first|refine wN ?_|refine wP rfl ?_|refine aa rfl ?_|refine ab rfl ?_|refine wO rfl rfl ?_)
  refine VS.ret (aL _ _) rfl rfl (fun wz kz bz=> ?_)
  exact ⟨rfl,bz⟩
 have e4:cm≤0:=by omega
 rw [decide_eq_true e4]
 (repeat first|refine wN ?_|refine wP rfl ?_|refine aa rfl ?_|refine ab rfl ?_|refine wO rfl rfl ?_)
 by_cases e5':keep < 0
 ·have e5:¬ keep≥0:=by omega
  rw [decide_eq_false e5]
  (repeat first|refine wN ?_|refine wP rfl ?_|refine aa rfl ?_|refine ab rfl ?_|refine wO rfl rfl ?_)
  refine VS.ret (aL _ _) rfl rfl (fun wz kz bz=> ?_)
  exact ⟨rfl,bz⟩
 have e5:keep≥0:=by omega
 rw [decide_eq_true e5]
 (repeat first|refine wN ?_|refine wP rfl ?_|refine aa rfl ?_|refine ab rfl ?_|refine wO rfl rfl ?_)
 refine VS.ret (aL _ _) rfl rfl (fun wz kz bz=> ?_)
 exact ⟨rfl,bz⟩
theorem CM (v:Value) (cs:List Value) (e:RR×RR) (k:Nat) (w:World) (hv:v=.agg cs.toArray) (h:xQ k w cs e) (hk:k≤100000):
  Calls Tryz.prog 38 #[v] w fun o w'=>o=.returned (.bool (e.1.ok && e.2.ok))∧aj w w':=by
 obtain ⟨_,_,rfl,⟨p,c,r,d,rfl,h1⟩,⟨p',c',r',d',rfl,h2⟩,ha,hb⟩:=h
 subst hv
 refine aw (C:=cf Tryz.prog w _) (args:=[_]) Tryz.func38 rfl Tryz.ntmps38 (Nat.le_of_ble_eq_true rfl) ?_
 (repeat first|refine wN ?_|refine wP rfl ?_|refine aa rfl ?_|refine ab rfl ?_|refine wO rfl rfl ?_)
 cases e1:e.1.ok with
 | false=>
  refine VO.call rfl rfl (fk Tryz.func68) (fun cB ek du=>(fO e.1 false e1 _ cB (h1.kp (Kp.of (U:=UU) du)) ha hk).mono ?_)
  rintro e w1 ⟨rfl,aV⟩
  skip
  refine ⟨_,rfl,aV,fun e9 _ bb1=>wV rfl ?_⟩
  (repeat first|refine wN ?_|refine wP rfl ?_|refine aa rfl ?_|refine ab rfl ?_|refine wO rfl rfl ?_)
  refine VS.ret (aL _ _) rfl rfl (fun wz kz bz=> ?_)
  exact ⟨rfl,bz⟩
 | true=>
 refine VO.call rfl rfl (fk Tryz.func68) (fun cB ek du=>(fO e.1 true e1 _ cB (h1.kp (Kp.of (U:=UU) du)) ha hk).mono ?_)
 rintro e w1 ⟨rfl,aV⟩
 skip
 refine ⟨_,rfl,aV,fun e9 _ bb1=>wV rfl ?_⟩
 (repeat first|refine wN ?_|refine wP rfl ?_|refine aa rfl ?_|refine ab rfl ?_|refine wO rfl rfl ?_)
 obtain ⟨b2,bl⟩:∃ b2,e.2.ok=b2:=⟨_,rfl⟩
 rw [bl]
 refine VO.call rfl rfl (fk Tryz.func68) (fun dB gp et=>(fO e.2 b2 bl _ dB (h2.kp (Kp.of (U:=UU) et)) hb hk).mono ?_)
 rintro e w2 ⟨rfl,bl⟩
 skip
 refine ⟨_,rfl,bl,fun fX _ bb2=>wV rfl ?_⟩
 (repeat first|refine wN ?_|refine wP rfl ?_|refine aa rfl ?_|refine ab rfl ?_|refine wO rfl rfl ?_)
 refine VS.ret (aL _ _) rfl rfl (fun wz kz bz=> ?_)
 exact ⟨rfl,bz⟩
def pG (e:RR×RR):Bool:=e.1.ok && e.2.ok
theorem EH (v:Value) (cs:List Value) (e:RR×RR) (k:Nat) (w:World) (hv:v=.agg cs.toArray) (h:xQ k w cs e) (hk:k≤100000) (b:Bool) (hb:pG e=b):
 Calls Tryz.prog 38 #[v] w fun o w'=>o=.returned (.bool b)∧aj w w':=hb▸CM v cs e k w hv h hk
theorem zh (v:Value) (cs:List Value) (e:RR×RR) (k:Nat) (w:World) (hv:v=.agg cs.toArray) (h:xQ k w cs e) (hk:k≤100000) (b:Bool) (hb:pG e=b):
  Calls Tryz.prog 37 #[v] w fun o w'=>o=.returned (.bool !b)∧aj w w':=by
 have h0:=h
 obtain ⟨_,_,rfl,⟨p,c,r,d,rfl,h1⟩,⟨p',c',r',d',rfl,h2⟩,ha,xS⟩:=h
 subst hv
 refine aw (C:=cf Tryz.prog w _) (args:=[_]) Tryz.func37 rfl Tryz.ntmps37 (Nat.le_of_ble_eq_true rfl) ?_
 (repeat first|refine wN ?_|refine wP rfl ?_|refine aa rfl ?_|refine ab rfl ?_|refine wO rfl rfl ?_)
 refine VO.call rfl rfl (fk Tryz.func38) (fun cB ek du=>(EH _ _ e k cB rfl ((fN k).kp h0 (Kp.of (U:=UU) du)) hk b hb).mono ?_)
 rintro e w1 ⟨rfl,aV⟩
 skip
 refine ⟨_,rfl,aV,fun e9 _ bb1=>wV rfl ?_⟩
 (repeat first|refine wN ?_|refine wP rfl ?_|refine aa rfl ?_|refine ab rfl ?_|refine wO rfl rfl ?_)
 refine VS.ret (aL _ _) rfl rfl (fun wz kz bz=> ?_)
 exact ⟨rfl,bz⟩
end Go.Proofs.YtabalinjfgcfeaaGreat
