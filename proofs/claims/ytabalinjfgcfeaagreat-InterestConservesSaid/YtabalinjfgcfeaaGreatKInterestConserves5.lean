/- Be of the proof,laid behind one another. -/
import Derived.Test.YtabalinjfgcfeaaGreatKInterestConserves4
set_option linter.all false
set_option maxRecDepth 4000
namespace Go.Proofs.YtabalinjfgcfeaaGreat
open Go.RowKit
attribute [local irreducible] aB VS
def Iz (D:Nat) (x:Rat):Prop:=∃ n:Int,x * ((D:Int):Rat)=((n:Int):Rat)
theorem Iz.zero {D:Nat}:Iz D 0:=⟨0,by rw [Rat.zero_mul];rfl⟩
theorem Iz.add {D:Nat} {x y:Rat} (h:Iz D x) (k:Iz D y):Iz D (x + y):=by
 obtain ⟨a,ha⟩:=h;obtain ⟨b,hb⟩:=k
 exact ⟨a + b,by rw [Rat.intCast_add,←ha,←hb];grind⟩
theorem Iz.sub {D:Nat} {x y:Rat} (h:Iz D x) (k:Iz D y):Iz D (x - y):=by
 obtain ⟨a,ha⟩:=h;obtain ⟨b,hb⟩:=k
 exact ⟨a - b,by rw [Rat.intCast_sub,←ha,←hb];grind⟩
theorem VO.via {C:Cx} {m:Option (List FuncId)} {full:Array Oper} {l:List Oper} {Q:Exit→Act→World→Prop} {F:Fr} {H:Hp} {w:World} {P:Fr→Hp→World→Prop} {stk0 stk1:List It} (h1:(∀ F' H' w',P F' H' w'→VS C Q stk1 F' H' w')→aB C m full l (VS C Q stk0) F H w) (h2:∀ F' H' w',P F' H' w'→VS C Q stk1 F' H' w'):aB C m full l (VS C Q stk0) F H w:=h1 h2
theorem vJ {d:Rat} (h:d≠0):dK d 0≠0:=fun e=>h (by
 have h1:=jG.1 (show dK d 0≤0 by omega)
 have h2:=rX.1 (show dK d 0≥0 by omega)
 grind)
theorem rnr_ok' {a y:AV} {r:Value} (h:aH a=true) (hr:aU r=true) (hu:aH y=true):[a,.val r,y].all aH=true:=by
 rw [List.all_cons,List.all_cons,List.all_cons,h,hu]
 show (true && (aU r && true))=true
 rw [hr];rfl
structure uR (B:Nat) (w:World) (n c:Nat) (vs:List (List Value)) (sp:List AV) (es:List Uq):Prop where
 len:n=es.length
 el:cM (np B) w es vs
 so:sp.all aH=true
 sl:ax sp=[]
 le:n≤c
 cm:c≤9223372036854775807
 fl:(vs.flatten.map AV.val++sp).length=c * 6
theorem uR.kp {B n c:Nat} {w w':World} {vs:List (List Value)} {sp:List AV} {es:List Uq} (h:uR B w n c vs sp es) (k:Kp UU w w'):uR B w' n c vs sp es:=⟨h.len,h.el.kp (dm B) k,h.so,h.sl,h.le,h.cm,h.fl⟩
theorem uR.o {B n c:Nat} {w:World} {vs:List (List Value)} {sp:List AV} {es:List Uq} (h:uR B w n c vs sp es) (β:Nat→Nat):cY (np B) 6 w n 0 c [] vs (sp.map (AV.leaf β)) es:=
 ⟨h.len,.inl rfl,rfl,h.el,cJ h.so,h.le,h.cm,by have:=h.fl;rw [List.length_append,List.length_map] at this;rw [List.length_append,List.length_map];exact this⟩
theorem bh {pre:List Value} {off:Nat} {cs:List Value} {vs:List (List Value)} {spare:List Value} (iP:pre.length=off) (k:Nat) (ds:List Value) (hd:ds <+:cs.drop k):∀ (j:Nat) (u:AV),(ds.map AV.val)[j]? =some u→((pre++((cs::vs).flatten++spare)).map AV.val)[off + k + j]? =some u:=by
 intro j u hj
 obtain ⟨t,ht⟩:=hd
 rw [List.getElem?_map] at hj ⊢
 have hlt:j < ds.length:=by
  by_cases h:j < ds.length
  ·exact h
  ·rw [List.getElem?_eq_none (by omega)] at hj;cases hj
 have hk:k + j < cs.length:=by
  have:=congrArg List.length ht
  rw [List.length_append,List.length_drop] at this;omega
 rw [List.getElem?_append_right (by omega),iP,List.flatten_cons,List.append_assoc,show off + k + j - off=k + j by omega,List.getElem?_append_left hk,←List.getElem?_drop,←ht,List.getElem?_append_left hlt]
 exact hj
theorem si {pre:List Value} {off:Nat} {a x1 x2 x3 x4 y1 y2 y3 y4:Value} {vs:List (List Value)} {spare:List Value} (iP:pre.length=off):
  ((pre++(([a,x1,x2,x3,x4]::vs).flatten++spare)).map AV.val).take (off + 1)++([.val y1,.val y2,.val y3,.val y4]++((pre++(([a,x1,x2,x3,x4]::vs).flatten++spare)).map AV.val).drop (off + 1 + 4))=(pre++(([a,y1,y2,y3,y4]::vs).flatten++spare)).map AV.val:=by
 have e:off=(pre.map AV.val).length:=by rw [List.length_map];exact iP.symm
 rw [List.map_append,e,Nat.add_assoc,List.take_length_add_append,List.drop_length_add_append,List.append_assoc,List.map_append]
 simp
theorem mM {pre:List Value} {off c':Nat} {a y1 y2 y3 y4:Value} (iP:pre.length=off):(pre++[a,y1,y2,y3,y4]).length=(if c'=1 then off else off + 5)∨c' - 1=0:=by
 by_cases h:c'=1
 ·exact .inr (by omega)
 ·rw [if_neg h,List.length_append,iP];exact .inl rfl
theorem mO {a x1 x2 x3 x4:Value} {vs:List (List Value)} {spare:List Value} {c':Nat} (h:(([a,x1,x2,x3,x4]::vs).flatten++spare).length=c' * 5):(vs.flatten++spare).length=(c' - 1) * 5:=by
 rw [List.flatten_cons,List.append_assoc,List.length_append] at h
 have h':5 + (vs.flatten++spare).length=c' * 5:=h
 omega
theorem dM (pre cs:List Value) (vs:List (List Value)) (spare:List Value):(pre++((cs::vs).flatten++spare)).map AV.val=((pre++cs)++(vs.flatten++spare)).map AV.val:=by
 rw [List.flatten_cons,List.append_assoc,List.append_assoc]
def sj (B:Nat) (D:Nat) (M:Rat) (W0:World) (rv:Value) (y:Nat) (q:List Vq) (m:Rat) (idx:Nat) (L:List (Nat×AV)) (Mm:List (Nat×(TypeId×List AV))) (w':World):Prop:=
 ∃ (q':List Vq) (aR n' c':Nat) (bL:List Value) (gE:List (List Value)) (ak:List Value) (m' s':Rat) (done:List Uq) (v8 Us:AV) (Um:List (Nat×(TypeId×List AV))) (s1 t1 s2 t2:Bool) (p1 y1 p2 y2:Option Addr) (n1 c1 m1 d1 n2 c2 m2 d2:Nat),
  idx=2 * q'.length + (if 0 < m' then 1 else 0)∧L=[(0,.box 154 0),(1,.val (.int .i64 (y:Int))),(5,.box 5 0),(6,.box 6 0),(7,.box 7 0),(8,v8)]∧
  Mm=(154,(Runner,[.row 155 aR n' c',.val rv,Us]))::(155,(cO,(bL++(gE.flatten++ak)).map .val))::(5,(26,([.bool s1,.slice p1 n1 c1,.bool t1,.slice y1 m1 d1]:List Value).map .val))::(6,(26,([.bool false,.slice none 0 0,.bool false,.slice none 0 0]:List Value).map .val))::(7,(26,([.bool s2,.slice p2 n2 c2,.bool t2,.slice y2 m2 d2]:List Value).map .val))::Um∧
  cY (cH B) 5 w' n' aR c' bL gE ak q'∧cQ w' (.agg #[.bool s1,.slice p1 n1 c1,.bool t1,.slice y1 m1 d1]) m'∧aK w' W0.heap.size (.agg #[.bool s2,.slice p2 n2 c2,.bool t2,.slice y2 m2 d2]) s'∧Iz D m'∧Iz D s'∧0≤m'∧0≤s'∧s' + m'=m∧(∀ p∈q',Iz D p.2∧0≤p.2∧p.2≤M)∧
  nH y q m=done++nH y q' m'∧kW q m=kW q' m'∧qW q m=s' + qW q' m'∧((n'=0∧v8=.val (.pointer none))∨(n'≠0∧v8=.kx 155 aR))∧done.length + (if 0 < m' then q'.length else 0)≤q.length∧
  ((Us=.val (.slice none 0 0)∧Um=[]∧done=[])∨∃ un uc oI qL,Us=.row 47 0 un uc∧Um=[(47,(et,oI.flatten.map .val++qL))]∧uR B w' un uc oI qL (done))
def sk (B:Nat) (D:Nat) (M:Rat) (W0:World) (rv:Value) (y:Nat) (q:List Vq) (m:Rat) (yq Ax:Nat) (me:List (List Value)) (nt:List Value) (us0:List Uq) (idx:Nat) (L:List (Nat×AV)) (Mm:List (Nat×(TypeId×List AV))) (w':World):Prop:=
 ∃ (q':List Vq) (aR n' c':Nat) (bL:List Value) (gE:List (List Value)) (ak:List Value) (m' s':Rat) (done:List Uq) (v8 Us:AV) (Um:List (Nat×(TypeId×List AV))) (s1 t1 s2 t2:Bool) (p1 y1 p2 y2:Option Addr) (n1 c1 m1 d1 n2 c2 m2 d2:Nat),
  idx=2 * q'.length + (if 0 < m' then 1 else 0)∧L=[(0,.box 154 0),(1,.val (.int .i64 (y:Int))),(5,.box 5 0),(6,.box 6 0),(7,.box 7 0),(8,v8)]∧
  Mm=(154,(Runner,[.row 155 aR n' c',.val rv,Us]))::(155,(cO,(bL++(gE.flatten++ak)).map .val))::(5,(26,([.bool s1,.slice p1 n1 c1,.bool t1,.slice y1 m1 d1]:List Value).map .val))::(6,(26,([.bool false,.slice none 0 0,.bool false,.slice none 0 0]:List Value).map .val))::(7,(26,([.bool s2,.slice p2 n2 c2,.bool t2,.slice y2 m2 d2]:List Value).map .val))::Um∧
  cY (cH B) 5 w' n' aR c' bL gE ak q'∧cQ w' (.agg #[.bool s1,.slice p1 n1 c1,.bool t1,.slice y1 m1 d1]) m'∧aK w' W0.heap.size (.agg #[.bool s2,.slice p2 n2 c2,.bool t2,.slice y2 m2 d2]) s'∧Iz D m'∧Iz D s'∧0≤m'∧0≤s'∧s' + m'=m∧(∀ p∈q',Iz D p.2∧0≤p.2∧p.2≤M)∧
  nH y q m=done++nH y q' m'∧kW q m=kW q' m'∧qW q m=s' + qW q' m'∧((n'=0∧v8=.val (.pointer none))∨(n'≠0∧v8=.kx 155 aR))∧done.length + (if 0 < m' then q'.length else 0)≤q.length∧
  ((Us=.row 156 0 yq Ax∧Um=[(156,(et,me.flatten.map .val++nt.map .val))]∧done=[]∧aE (KU UU) W0 w')∨∃ un uc oI qL,Us=.row 47 0 un uc∧Um=[(47,(et,oI.flatten.map .val++qL))]∧uR B w' un uc oI qL (us0++done))
set_option maxRecDepth 4000 in
set_option maxHeartbeats 8000000 in
theorem Me (B g b off n c y D kk:Nat) (M m:Rat) (pre:List Value) (vs:List (List Value)) (spare:List Value) (q:List Vq) (rv v:Value) (w:World)
  (hg:aW w g Runner #[.slice (some ⟨b,off,none⟩) n c,rv,.slice none 0 0]) (hb:aW w b cO (pre++(vs.flatten++spare)).toArray) (hO:cY (cH B) 5 w n off c pre vs spare q) (hr:aU rv=true) (hv:cQ w v m) (hmI:Iz D m) (yp:0≤m) (hmM:m≤M) (hq:∀ p∈q,Iz D p.2∧0≤p.2∧p.2≤M)
  (hK:∀ x,Iz D x→0≤x→x≤M→dV x kk) (hk:kk≤100000) (jv:q.length≤1000) (hB:B≤w.heap.size):
  Calls Tryz.prog 73 #[.pointer (some ⟨g,0,none⟩),.int .i64 (y:Int),v] w fun o w'=>∃ x,o=.returned x∧aK w' w.heap.size x (qW q m)∧qA [g,b] w w'∧∃ aR n' c' bL gE ak uv,aW w' g Runner #[.slice (some ⟨b,aR,none⟩) n' c',rv,uv]∧aW w' b cO (bL++(gE.flatten++ak)).toArray∧cY (cH B) 5 w' n' aR c' bL gE ak (kW q m)∧((uv=.slice none 0 0∧nH y q m=[])∨∃ b' un uc oI qL,w.heap.size≤b'∧uv=.slice (some ⟨b',0,none⟩) un uc∧aW w' b' et (oI.flatten++qL).toArray∧cY (np B) 6 w' un 0 uc [] oI qL (nH y q m)):=by
 have hgb:g≠b:=fun e=>by subst e;exact absurd (bo hg hb) (by decide)
 obtain ⟨s0,p0,n0,c0,t0,y0,m0,d0,rfl⟩:=hv.form
 have pM:iG (KU UU) 77 [g,b] [(Runner,[.row 155 off n c,.val rv,.val (.slice none 0 0)]),(cO,(pre++(vs.flatten++spare)).map .val)] w:=by
  refine ⟨rfl,by simp [hgb],fun j g' c' hj hc=> ?_,fun c' hc=> ?_,fun c' hc k hk=> ?_⟩
  ·match j,hj,hc with
   | 0,hj,hc=>cases hj;cases hc;exact hg
   | 1,hj,hc=>cases hj;cases hc;rw [ah];exact hb
   | j + 2,hj,_=>simp at hj
  ·rcases List.mem_cons.1 hc with rfl | hc
   ·exact ⟨rfl,Au rfl hr rfl⟩
   ·cases List.mem_singleton.1 hc
    exact ⟨rfl,bb (hO.all (aM B))⟩
  ·rcases List.mem_cons.1 hc with rfl | hc
   ·have:k=155:=by simpa [ax,AV.cL] using hk
    subst this;exact ⟨by omega,by show 155 < 2 * 77 + 2;omega⟩
   ·cases List.mem_singleton.1 hc
    rw [ao] at hk;cases hk
 refine ea Tryz.prog w _ (KU UU) (fun t=>Nat.beq t 22) table (fun _ _=>trivial) (ad:=[g,b]) (us:=[_,_]) Tryz.func73 rfl Tryz.ntmps73 (Nat.le_of_ble_eq_true rfl) pM (Nat.le_of_ble_eq_true rfl) ?_
 (repeat first|refine wN ?_|refine wP rfl ?_|refine af rfl ?_|refine ag rfl ?_|refine wO rfl rfl ?_)
 refine VO.call rfl rfl (fk Tryz.func44) (fun cC er dv=>((bF 0 cC (by omega) (by omega)).mono (fun o w2 h=>And.intro h dv.1.size)).mono ?_)
 rintro o w1 ⟨⟨r9,rfl,q9,Gf⟩,Fx⟩
 obtain ⟨s9,p9,n9,c9,t9,y9,m9,d9,rfl⟩:=q9.form
 refine ⟨_,rfl,Gf,fun Ba _ bb9=>wV rfl ?_⟩
 (repeat first|refine wN ?_|refine wP rfl ?_|refine af rfl ?_|refine ag rfl ?_|refine wO rfl rfl ?_)
 have LV:((0:Int):Rat)=0:=rfl
 rw [LV] at q9
 apply VO.via (P:=fun F' H' w'=>Entry (sj B D M w rv y q m ) (2 * q.length + (if 0 < m then 1 else 0)) F' H' w')
 ·intro cont
  by_cases lH:n=0
  ·refine VO.cZ (x:=.row 155 off n c) (p:=fun _=>none) (c:=c) rfl (fun β=>.inr ⟨_,congrArg (fun n=>Value.slice (some ⟨β 155,off,none⟩) n c) lH⟩) rfl (fk Tryz.func75) rfl (fun w3 k3 b3=>wV rfl ?_)
   (repeat first|refine wN ?_|refine wP rfl ?_|refine af rfl ?_|refine ag rfl ?_|refine wO rfl rfl ?_)
   refine cont _ _ _ ⟨_,_,?_,?_,?_,?_,⟨q,off,n,c,pre,vs,spare,m,0,[],.val (.pointer none),_,_,_,_,_,_,_,_,_,_,_,_,_,_,_,_,_,_,rfl,rfl,rfl,hO.kp (aM B) (by (with_reducible (repeat (first | assumption | exact kU _ | exact kR _ | exact Kp.of (U:=UU) (by assumption) | exact aE.of (by assumption) | refine kT ?_ (by assumption))))),hv.k,(q9.mono Fx).kp (by (with_reducible (repeat (first | assumption | exact kU _ | exact kR _ | exact Kp.of (U:=UU) (by assumption) | exact aE.of (by assumption) | refine kT ?_ (by assumption))))),hmI,Iz.zero,yp,Rat.le_refl,by grind,hq,rfl,rfl,by grind,.inl ⟨lH,rfl⟩,by split <;> simp,.inl ⟨rfl,rfl,rfl⟩⟩⟩
   ·(repeat first|exact trivial|refine ⟨rfl,?_⟩)
   ·(repeat first|exact trivial|refine ⟨rfl,?_⟩)
   ·rfl
   ·exact ⟨.lit rfl,.vals _,.vals _,.vals _,.vals _,trivial⟩
  ·refine VO.cI rfl rfl (fk Tryz.func75) rfl lH (by intro h;cases h) (fun w3 k3 b3=>wV rfl ?_)
   (repeat first|refine wN ?_|refine wP rfl ?_|refine af rfl ?_|refine ag rfl ?_|refine wO rfl rfl ?_)
   refine cont _ _ _ ⟨_,_,?_,?_,?_,?_,⟨q,off,n,c,pre,vs,spare,m,0,[],.kx 155 off,_,_,_,_,_,_,_,_,_,_,_,_,_,_,_,_,_,_,rfl,rfl,rfl,hO.kp (aM B) (by (with_reducible (repeat (first | assumption | exact kU _ | exact kR _ | exact Kp.of (U:=UU) (by assumption) | exact aE.of (by assumption) | refine kT ?_ (by assumption))))),hv.k,(q9.mono Fx).kp (by (with_reducible (repeat (first | assumption | exact kU _ | exact kR _ | exact Kp.of (U:=UU) (by assumption) | exact aE.of (by assumption) | refine kT ?_ (by assumption))))),hmI,Iz.zero,yp,Rat.le_refl,by grind,hq,rfl,rfl,by grind,.inr ⟨lH,rfl⟩,by split <;> simp,.inl ⟨rfl,rfl,rfl⟩⟩⟩
   ·(repeat first|exact trivial|refine ⟨rfl,?_⟩)
   ·(repeat first|exact trivial|refine ⟨rfl,?_⟩)
   ·rfl
   ·exact ⟨.lit rfl,.vals _,.vals _,.vals _,.vals _,trivial⟩
 ·intro F0 H0 w0' hent
  refine VS.loop (J:=sj B D M w rv y q m ) _ hent ?_
  rintro idx L Mm w' ⟨q',aR,n',c',bL,gE,ak,m',s',done,v8,Us,Um,s1,t1,s2,t2,p1,y1,p2,y2,n1,c1,m1,d1,n2,c2,m2,d2,rfl,rfl,rfl,gI,DY,uD,lC,Jf,tD,hs0,hsm,zL,eU,eL,eS,Jg,iV,hUs⟩
  have oJ:m'≤M:=by grind
  have hsM:s'≤M:=by grind
  rcases hUs with ⟨rfl,rfl,rfl⟩ | ⟨un,uc,oI,qL,rfl,rfl,tG⟩
  ·rcases Jg with ⟨lH,rfl⟩ | ⟨lH,rfl⟩
   ·have DJ:q'=[]:=List.eq_nil_of_length_eq_zero (by rw [←gI.len];exact lH)
    subst DJ
    have fU:nH y [] m'=[]:=rfl
    have fL:kW [] m'=[]:=rfl
    have fS:qW [] m'=0:=rfl
    (repeat first|refine wN ?_|refine wP rfl ?_|refine af rfl ?_|refine ag rfl ?_|refine wO rfl rfl ?_)
    refine VS.oy (bk _ _) rfl (fun wz β kz oz en=> ?_)
    obtain ⟨o1,o2⟩:=eb (en.own 154 _ _ rfl) 0 g rfl rfl
    obtain ⟨o3,o4⟩:=eb (en.own 155 _ _ rfl) 1 b rfl rfl
    rw [ah] at o4
    replace o3:β 155=b:=o3
    rw [fU] at eU
    rw [fL] at eL
    rw [fS,show s' + 0=s' by grind] at eS
    refine ⟨_,rfl,?_,oz.1,aR,n',c',bL,gE,ak,.slice none 0 0,?_,o4,?_,.inl ⟨rfl,?_⟩⟩
    ·rw [eS];exact uD.k
    ·rw [←o3];exact o2
    ·rw [eL];exact gI.kp (aM B) (by (with_reducible (repeat (first | assumption | exact kU _ | exact kR _ | exact Kp.of (U:=UU) (by assumption) | exact aE.of (by assumption) | refine kT ?_ (by assumption)))))
    ·rw [eU];rfl
   ·obtain ⟨e,fv,rfl⟩:∃ e fv,q'=e::fv:=by
     cases q' with
     | nil=>exact absurd gI.len lH
     | cons e fv=>exact ⟨e,fv,rfl⟩
    obtain ⟨cs,fO,rfl,hE,qM⟩:∃ cs fO,gE=cs::fO∧cH B w' cs e∧cM (cH B) w' fv fO:=by
     have:=gI.el
     cases this with
     | cons h1 h2=>exact ⟨_,_,rfl,h1,h2⟩
    obtain ⟨s3,p3,n3,c3,t3,y3,m3,d3,rfl,Mf⟩:=hE
    have uP:=gI.le
    have qG:=gI.len
    have uL:=gI.cm
    have iP:bL.length=aR:=gI.pl.resolve_right (by omega)
    obtain ⟨ni,zU,Gr⟩:=zL e (by simp)
    (repeat first|refine wN ?_|refine wP rfl ?_|refine af rfl ?_|refine ag rfl ?_|refine wO rfl rfl ?_)
    obtain ⟨sg,jn⟩:∃ sg,dK m' 0=sg:=⟨_,rfl⟩
    refine VO.call rfl rfl (fk Tryz.func13) (fun cC er dv=>(bS _ m' kk cC (DY.ki (hK m' lC tD oJ)) (by omega) sg jn).mono ?_)
    rintro e w1 ⟨rfl,aV⟩
    skip
    refine ⟨_,rfl,aV,fun fe _ bb1=>wV rfl ?_⟩
    (repeat first|refine wN ?_|refine wP rfl ?_|refine af rfl ?_|refine ag rfl ?_|refine wO rfl rfl ?_)
    by_cases hm:0 < m'
    ·have jk:sg > 0:=by rw [←jn];exact ff.2 hm
     rw [if_pos hm] at iV
     refine VS.bE rfl (decide_eq_true jk) ?_
     (repeat first|refine wN ?_|refine wP rfl ?_|refine af rfl ?_|refine ag rfl ?_|refine wO rfl rfl ?_)
     refine VO.dh rfl (([.bool s3,.slice p3 n3 c3,.bool t3,.slice y3 m3 d3]:List Value).map .val) rfl (bh iP 1 _ ⟨[],rfl⟩) (wV rfl ?_)
     (repeat first|refine wN ?_|refine wP rfl ?_|refine af rfl ?_|refine ag rfl ?_|refine wO rfl rfl ?_)
     have pZ:=cR e.2 m'
     have Fy:0≤ai e.2 m':=by rcases pZ with ⟨h,_⟩ | ⟨h,_⟩ <;> rw [h] <;> assumption
     have pw:Iz D (ai e.2 m'):=by rcases pZ with ⟨h,_⟩ | ⟨h,_⟩ <;> rw [h] <;> assumption
     have za:=di e.2 m'
     have vC:=cd e.2 m'
     have lI:=hK _ pw Fy (Rat.le_trans vC oJ)
     refine VO.fI rfl (fk Tryz.func71) (fun dC β gu eu ho=>((fJ _ _ e.2 [m'] kk dC (Mf.rd.ki (hK e.2 ni zU Gr)) (dW (ho.own 31 (.base (List.mem_singleton.2 rfl)) _ _ rfl) [] (vs:=[[.bool s1,.slice p1 n1 c1,.bool t1,.slice y1 m1 d1]]) (by rfl) rfl (bZ.cons (DY.ki (hK m' lC tD oJ)) bZ.nil) (Nat.le_of_ble_eq_true rfl) (by decide)) (by omega) (Nat.le_of_ble_eq_true rfl)).mono (fun o w2 h=>And.intro h eu.1.size)).mono ?_)
     rintro o w2 ⟨⟨r4,rfl,q4,z4,bm⟩,qN⟩
     rw [gR] at q4
     have xA:aK w2 w.heap.size r4 (ai e.2 m'):=q4.mono qN
     obtain ⟨s4,p4,n4,c4,t4,y4,m4,d4,rfl⟩:=xA.form
     refine ⟨_,rfl,bm,fun fZ _ bb2=>wV rfl ?_⟩
     (repeat first|refine wN ?_|refine wP rfl ?_|refine af rfl ?_|refine ag rfl ?_|refine wO rfl rfl ?_)
     refine VO.dh rfl (([.int .i64 (e.1:Int)]:List Value).map .val) rfl (bh iP 0 _ ⟨_,rfl⟩) (wV rfl ?_)
     (repeat first|refine wN ?_|refine wP rfl ?_|refine af rfl ?_|refine ag rfl ?_|refine wO rfl rfl ?_)
     refine VO.app (bk _ _) (t:=34) (e:=et) (sz:=6) (n:=0) (c:=0) (mm:=1) (known:=[]) (spare:=[]) (del:=none) (news:=([.int .i64 (e.1:Int),.int .i64 (y:Int),.bool s4,.slice p4 n4 c4,.bool t4,.slice y4 m4 d4]:List Value).map .val) (dst:=47) rfl rfl rfl rfl rfl rfl rfl rfl (Nat.le_of_ble_eq_true rfl) rfl (.inl ⟨rfl,rfl,rfl,rfl,rfl,rfl,by omega⟩) (.inl rfl) rfl rfl (Nat.le_refl _) (by omega) ⟨rfl,rfl,rfl⟩ ⟨rfl,rfl,rfl⟩ rfl (by omega)
      (fun w1 β k1 b1 ho=>⟨_,_,rfl,.inr ⟨β 46,0,rfl,cK (rest:=[]) (ho.own 46 (.base (List.mem_append_right _ (List.mem_singleton.2 rfl))) _ _ rfl) rfl⟩⟩)
      (fun nD cap' eG ρ GM GN fC jc gm ed mL dy=>wV rfl ?_)
     (repeat first|refine wN ?_|refine wP rfl ?_|refine af rfl ?_|refine ag rfl ?_|refine wO rfl rfl ?_)
     have xS:uR B nD (0 + 1) cap' ([[.int .i64 (e.1:Int),.int .i64 (y:Int),.bool s4,.slice p4 n4 c4,.bool t4,.slice y4 m4 d4]]:List (List Value)) eG (([]++[(e.1,y,ai e.2 m')])):=⟨by simp <;> omega,by exact cM.cons (show np B nD [.int .i64 (e.1:Int),.int .i64 (y:Int),.bool s4,.slice p4 n4 c4,.bool t4,.slice y4 m4 d4] (e.1,y,ai e.2 m') from ⟨s4,p4,n4,c4,t4,y4,m4,d4,rfl,(xA.mono hB).kp (by (with_reducible (repeat (first | assumption | exact kU _ | exact kR _ | exact Kp.of (U:=UU) (by assumption) | exact aE.of (by assumption) | refine kT ?_ (by assumption)))))⟩) cM.nil,mL,dy,jc,gm,by simpa using ed⟩
     refine VO.call rfl rfl (fk Tryz.func16) (fun kg mG ku=>((dx _ _ s' (ai e.2 m') kk kk kg (uD.rd.ki (hK s' Jf hs0 hsM)) (xA.rd.ki lI) (by omega) (by omega)).mono (fun o w2 h=>And.intro h ku.1.size)).mono ?_)
     rintro o w5 ⟨⟨r5,rfl,q5,gi⟩,qO⟩
     obtain ⟨s5,p5,n5,c5,t5,y5,m5,d5,rfl⟩:=q5.form
     refine ⟨_,rfl,gi,fun nk _ xf=>wV rfl ?_⟩
     (repeat first|refine wN ?_|refine wP rfl ?_|refine af rfl ?_|refine ag rfl ?_|refine wO rfl rfl ?_)
     refine VO.call rfl rfl (fk Tryz.func72) (fun pK ux tw=>(bW _ _ m' (ai e.2 m') kk kk pK (DY.ki (hK m' lC tD oJ)) (xA.rd.ki lI) (by omega) (by omega)).mono ?_)
     rintro e w6 ⟨r6,rfl,q6,mX⟩
     obtain ⟨s6,p6,n6,c6,t6,y6,m6,d6,rfl⟩:=q6.form
     refine ⟨_,rfl,mX,fun tx _ CR=>wV rfl ?_⟩
     (repeat first|refine wN ?_|refine wP rfl ?_|refine af rfl ?_|refine ag rfl ?_|refine wO rfl rfl ?_)
     refine VO.dh rfl (([.bool s3,.slice p3 n3 c3,.bool t3,.slice y3 m3 d3]:List Value).map .val) rfl (bh iP 1 _ ⟨[],rfl⟩) (wV rfl ?_)
     (repeat first|refine wN ?_|refine wP rfl ?_|refine af rfl ?_|refine ag rfl ?_|refine wO rfl rfl ?_)
     refine VO.call rfl rfl (fk Tryz.func72) (fun yn DX xX=>((bW _ _ e.2 (ai e.2 m') kk kk yn (Mf.rd.ki (hK e.2 ni zU Gr)) (xA.rd.ki lI) (by omega) (by omega)).mono (fun o w2 h=>And.intro h xX.1.size)).mono ?_)
     rintro o w7 ⟨⟨r7,rfl,q7,uO⟩,Fz⟩
     obtain ⟨s7,p7,n7,c7,t7,y7,m7,d7,rfl⟩:=q7.form
     refine ⟨_,rfl,uO,fun zj _ bb7=>wV rfl ?_⟩
     (repeat first|refine wN ?_|refine wP rfl ?_|refine af rfl ?_|refine ag rfl ?_|refine wO rfl rfl ?_)
     refine VO.cond rfl (by show aR + 1 + 4≤_;rw [List.length_map,List.length_append,List.length_append,List.flatten_cons,List.length_append,iP];show aR + 1 + 4≤aR + (6 - 1 + _ + _);omega) (VO.ft 155 rfl (si iP) (wV rfl ?_))
     (repeat first|refine wN ?_|refine wP rfl ?_|refine af rfl ?_|refine ag rfl ?_|refine wO rfl rfl ?_)
     refine VO.dh rfl (([.bool s7,.slice p7 n7 c7,.bool t7,.slice y7 m7 d7]:List Value).map .val) rfl (bh iP 1 _ ⟨[],rfl⟩) (wV rfl ?_)
     (repeat first|refine wN ?_|refine wP rfl ?_|refine af rfl ?_|refine ag rfl ?_|refine wO rfl rfl ?_)
     have xV:0≤e.2 - ai e.2 m':=by grind
     have Mg:e.2 - ai e.2 m'≤M:=by grind
     have Mh:Iz D (e.2 - ai e.2 m'):=ni.sub pw
     obtain ⟨jD,jE⟩:∃ jD,dK (e.2 - ai e.2 m') 0=jD:=⟨_,rfl⟩
     refine VO.call rfl rfl (fk Tryz.func13) (fun uQ Fg zl=>(bS _ (e.2 - ai e.2 m') kk uQ (q7.ki (hK _ Mh xV Mg)) (by omega) jD jE).mono ?_)
     rintro e w8 ⟨rfl,qU⟩
     skip
     refine ⟨_,rfl,qU,fun vH _ JL=>wV rfl ?_⟩
     (repeat first|refine wN ?_|refine wP rfl ?_|refine af rfl ?_|refine ag rfl ?_|refine wO rfl rfl ?_)
     have hE7:cH B w8 [.int .i64 (e.1:Int),.bool s7,.slice p7 n7 c7,.bool t7,.slice y7 m7 d7] (e.1,e.2 - ai e.2 m'):=⟨s7,p7,n7,c7,t7,y7,m7,d7,rfl,(q7.mono (Nat.le_trans hB Fz)).kp (by (with_reducible (repeat (first | assumption | exact kU _ | exact kR _ | exact Kp.of (U:=UU) (by assumption) | exact aE.of (by assumption) | refine kT ?_ (by assumption)))))⟩
     have yW:=gI.so
     have Je:=gI.po
     have sO:=gI.fl
     have CC:0≤m' - ai e.2 m':=by grind
     have EO:0≤s' + ai e.2 m':=by grind
     have xB:s' + ai e.2 m' + (m' - ai e.2 m')=m:=by grind
     have xC:=(q6.kr (w':=w8) (by (with_reducible (repeat (first | assumption | exact kU _ | exact kR _ | exact Kp.of (U:=UU) (by assumption) | exact aE.of (by assumption) | refine kT ?_ (by assumption))))))
     have xD:aK w8 w.heap.size _ (s' + ai e.2 m'):=(q5.mono qO).kp (by (with_reducible (repeat (first | assumption | exact kU _ | exact kR _ | exact Kp.of (U:=UU) (by assumption) | exact aE.of (by assumption) | refine kT ?_ (by assumption)))))
     have Mi:cM (cH B) w8 fv fO:=qM.kp (aM B) (by (with_reducible (repeat (first | assumption | exact kU _ | exact kR _ | exact Kp.of (U:=UU) (by assumption) | exact aE.of (by assumption) | refine kT ?_ (by assumption)))))
     by_cases hz:e.2 - ai e.2 m'=0
     ·have qP:(jD == 0)=true:=by rw [←jE,hz];rfl
      refine VS.bE rfl qP ?_
      (repeat first|refine wN ?_|refine wP rfl ?_|refine af rfl ?_|refine ag rfl ?_|refine wO rfl rfl ?_)
      obtain ⟨e1,e2,e3⟩:=fN (y:=y) (p:=e) (q:=fv) hm hz
      rw [e1,←List.singleton_append,←List.append_assoc] at eU
      rw [e2] at eL
      rw [e3] at eS
      refine VO.iA rfl rfl (fk Tryz.func76) rfl (by omega) uP uL (fun j hj=> ?_) (Nat.le_of_ble_eq_true rfl) (fun w9 k9 b9=>wV rfl ?_)
      ·rcases List.mem_cons.1 hj with rfl | hj
       ·intro h;cases h
       ·cases List.mem_singleton.1 hj
        intro h;cases h
      (repeat first|refine wN ?_|refine wP rfl ?_|refine af rfl ?_|refine ag rfl ?_|refine wO rfl rfl ?_)
      have hO9:cY (cH B) 5 w9 (n' - 1) (if c'=1 then aR else aR + 5) (c' - 1) (bL++[.int .i64 (e.1:Int),.bool s7,.slice p7 n7 c7,.bool t7,.slice y7 m7 d7]) fO ak fv:=⟨by rw [qG];rfl,mM iP,by rw [List.all_append,Je];rfl,Mi.kp (aM B) (by (with_reducible (repeat (first | assumption | exact kU _ | exact kR _ | exact Kp.of (U:=UU) (by assumption) | exact aE.of (by assumption) | refine kT ?_ (by assumption))))),yW,by omega,by omega,mO sO⟩
      have jh:∀ (v8:AV) (wb:World),aE (KU UU) w9 wb→((n' - 1=0∧v8=.val (.pointer none))∨(n' - 1≠0∧v8=.kx 155 (if c'=1 then aR else aR + 5)))→sj B D M w rv y q m (2 * fv.length + (if 0 < m' - ai e.2 m' then 1 else 0)) [(0,.box 154 0),(1,.val (.int .i64 (y:Int))),(5,.box 5 0),(6,.box 6 0),(7,.box 7 0),(8,v8)]
        ((154,(Runner,[.row 155 (if c'=1 then aR else aR + 5) (n' - 1) (c' - 1),.val rv,.row 47 0 (0 + 1) cap']))::(155,(cO,((bL++([.int .i64 (e.1:Int),.bool s7,.slice p7 n7 c7,.bool t7,.slice y7 m7 d7]:List Value))++(fO.flatten++ak)).map AV.val))::(5,(26,([.bool s6,.slice p6 n6 c6,.bool t6,.slice y6 m6 d6]:List Value).map .val))::(6,(26,([.bool false,.slice none 0 0,.bool false,.slice none 0 0]:List Value).map .val))::(7,(26,([.bool s5,.slice p5 n5 c5,.bool t5,.slice y5 m5 d5]:List Value).map .val))::[(47,(et,([[.int .i64 (e.1:Int),.int .i64 (y:Int),.bool s4,.slice p4 n4 c4,.bool t4,.slice y4 m4 d4]]:List (List Value)).flatten.map AV.val++eG))]) wb:=fun v8 wb kb Jg=>
       ⟨fv,_,_,_,_,fO,ak,m' - ai e.2 m',s' + ai e.2 m',[]++[(e.1,y,ai e.2 m')],v8,_,_,_,_,_,_,_,_,_,_,_,_,_,_,_,_,_,_,rfl,rfl,rfl,hO9.kp (aM B) (by (with_reducible (repeat (first | assumption | exact kU _ | exact kR _ | exact Kp.of (U:=UU) (by assumption) | exact aE.of (by assumption) | refine kT ?_ (by assumption))))),xC.k,xD.k,lC.sub pw,Jf.add pw,CC,EO,xB,fun p hp=>zL p (by simp [hp]),eU,eL,by rw [eS];grind,Jg,by simp at iV ⊢;split <;> omega,.inr ⟨_,_,_,_,rfl,rfl,xS.kp (by (with_reducible (repeat (first | assumption | exact kU _ | exact kR _ | exact Kp.of (U:=UU) (by assumption) | exact aE.of (by assumption) | refine kT ?_ (by assumption)))))⟩⟩
      have hlt:2 * fv.length + (if 0 < m' - ai e.2 m' then 1 else 0) < 2 * (e::fv).length + (if 0 < m' then 1 else 0):=by
       rw [if_pos hm,List.length_cons];split <;> omega
      by_cases sP:n' - 1=0
      ·refine VO.cZ (x:=.row 155 (if c'=1 then aR else aR + 5) (n' - 1) (c' - 1)) (p:=fun _=>none) (c:=c' - 1) rfl (fun β=>.inr ⟨_,congrArg (fun n=>Value.slice (some ⟨β 155,(if c'=1 then aR else aR + 5),none⟩) n (c' - 1)) sP⟩) rfl (fk Tryz.func75) rfl (fun wb Jh Mj=>wV rfl ?_)
       (repeat first|refine wN ?_|refine wP rfl ?_|refine af rfl ?_|refine ag rfl ?_|refine wO rfl rfl ?_)
       refine VS.back _ hlt ⟨_,_,?_,?_,?_,?_,jh _ wb (by (with_reducible (repeat (first | assumption | exact kU _ | exact kR _ | exact Kp.of (U:=UU) (by assumption) | exact aE.of (by assumption) | refine kT ?_ (by assumption))))) (.inl ⟨sP,rfl⟩)⟩
       ·(repeat first|exact trivial|refine ⟨rfl,?_⟩)
       ·exact ⟨rfl,congrArg (fun l=>some (cO,l)) (dM _ _ _ _),rfl,rfl,rfl,rfl,trivial⟩
       ·rfl
       ·exact ⟨.lit rfl,.vals _,.vals _,.vals _,.vals _,.append (.vals _) (.none dy),trivial⟩
      ·refine VO.cI rfl rfl (fk Tryz.func75) rfl sP (by intro h;cases h) (fun wb Jh Mj=>wV rfl ?_)
       (repeat first|refine wN ?_|refine wP rfl ?_|refine af rfl ?_|refine ag rfl ?_|refine wO rfl rfl ?_)
       refine VS.back _ hlt ⟨_,_,?_,?_,?_,?_,jh _ wb (by (with_reducible (repeat (first | assumption | exact kU _ | exact kR _ | exact Kp.of (U:=UU) (by assumption) | exact aE.of (by assumption) | refine kT ?_ (by assumption))))) (.inr ⟨sP,rfl⟩)⟩
       ·(repeat first|exact trivial|refine ⟨rfl,?_⟩)
       ·exact ⟨rfl,congrArg (fun l=>some (cO,l)) (dM _ _ _ _),rfl,rfl,rfl,rfl,trivial⟩
       ·rfl
       ·exact ⟨.lit rfl,.vals _,.vals _,.vals _,.vals _,.append (.vals _) (.none dy),trivial⟩
     ·have qP:(jD == 0)=false:=by rw [←jE,beq_eq_false_iff_ne];exact vJ hz
      refine VS.bu rfl qP ?_
      (repeat first|refine wN ?_|refine wP rfl ?_|refine af rfl ?_|refine ag rfl ?_|refine wO rfl rfl ?_)
      obtain ⟨e0,e1,e2,e3⟩:=fM (y:=y) (p:=e) (q:=fv) hm hz
      refine VO.cI rfl rfl (fk Tryz.func75) rfl lH (by intro h;cases h) (fun wb Jh Mj=>wV rfl ?_)
      (repeat first|refine wN ?_|refine wP rfl ?_|refine af rfl ?_|refine ag rfl ?_|refine wO rfl rfl ?_)
      refine VS.back (2 * (e::fv).length + 0) (by rw [if_pos hm];omega) ⟨_,_,?_,?_,?_,?_,⟨(e.1,e.2 - ai e.2 m')::fv,aR,n',c',bL,[.int .i64 (e.1:Int),.bool s7,.slice p7 n7 c7,.bool t7,.slice y7 m7 d7]::fO,ak,m' - ai e.2 m',s' + ai e.2 m',[]++[(e.1,y,ai e.2 m')],.kx 155 aR,_,_,_,_,_,_,_,_,_,_,_,_,_,_,_,_,_,_,by rw [if_neg e0];rfl,rfl,rfl,⟨qG,.inl iP,Je,.cons ((aM B).kp hE7 (by (with_reducible (repeat (first | assumption | exact kU _ | exact kR _ | exact Kp.of (U:=UU) (by assumption) | exact aE.of (by assumption) | refine kT ?_ (by assumption)))))) (Mi.kp (aM B) (by (with_reducible (repeat (first | assumption | exact kU _ | exact kR _ | exact Kp.of (U:=UU) (by assumption) | exact aE.of (by assumption) | refine kT ?_ (by assumption)))))),yW,uP,uL,by simpa using sO⟩,xC.k,xD.k,lC.sub pw,Jf.add pw,CC,EO,xB,fun p hp=> ?_,?_,?_,?_,.inr ⟨lH,rfl⟩,?_,.inr ⟨_,_,_,_,rfl,rfl,xS.kp (by (with_reducible (repeat (first | assumption | exact kU _ | exact kR _ | exact Kp.of (U:=UU) (by assumption) | exact aE.of (by assumption) | refine kT ?_ (by assumption)))))⟩⟩⟩
      ·(repeat first|exact trivial|refine ⟨rfl,?_⟩)
      ·exact ⟨rfl,rfl,rfl,rfl,rfl,rfl,trivial⟩
      ·rfl
      ·exact ⟨.lit rfl,.vals _,.vals _,.vals _,.vals _,.append (.vals _) (.none dy),trivial⟩
      ·rcases List.mem_cons.1 hp with rfl | hp
       ·exact ⟨Mh,xV,Mg⟩
       ·exact zL p (by simp [hp])
      ·rw [eU,e1,gw y _ e0,List.append_nil]
      ·rw [eL,e2,fK _ e0]
      ·rw [eS,e3,gz _ e0];grind
      ·rw [if_neg e0];simp at iV ⊢;omega
    ·have jk:¬ sg > 0:=by rw [←jn];exact fun h=>hm (ff.1 h)
     refine VS.bu rfl (decide_eq_false jk) ?_
     have fU:=gw y (e::fv) hm
     have fL:=fK (e::fv) hm
     have fS:=gz (e::fv) hm
     (repeat first|refine wN ?_|refine wP rfl ?_|refine af rfl ?_|refine ag rfl ?_|refine wO rfl rfl ?_)
     refine VS.oy (bk _ _) rfl (fun wz β kz oz en=> ?_)
     obtain ⟨o1,o2⟩:=eb (en.own 154 _ _ rfl) 0 g rfl rfl
     obtain ⟨o3,o4⟩:=eb (en.own 155 _ _ rfl) 1 b rfl rfl
     rw [ah] at o4
     replace o3:β 155=b:=o3
     rw [fU] at eU
     rw [fL] at eL
     rw [fS,show s' + 0=s' by grind] at eS
     refine ⟨_,rfl,?_,oz.1,aR,n',c',bL,_,ak,.slice none 0 0,?_,o4,?_,.inl ⟨rfl,?_⟩⟩
     ·rw [eS];exact uD.k
     ·rw [←o3];exact o2
     ·rw [eL];exact gI.kp (aM B) (by (with_reducible (repeat (first | assumption | exact kU _ | exact kR _ | exact Kp.of (U:=UU) (by assumption) | exact aE.of (by assumption) | refine kT ?_ (by assumption)))))
     ·rw [eU];rfl
  ·rcases Jg with ⟨lH,rfl⟩ | ⟨lH,rfl⟩
   ·have DJ:q'=[]:=List.eq_nil_of_length_eq_zero (by rw [←gI.len];exact lH)
    subst DJ
    have fU:nH y [] m'=[]:=rfl
    have fL:kW [] m'=[]:=rfl
    have fS:qW [] m'=0:=rfl
    (repeat first|refine wN ?_|refine wP rfl ?_|refine af rfl ?_|refine ag rfl ?_|refine wO rfl rfl ?_)
    refine VS.oy (bk _ _) rfl (fun wz β kz oz en=> ?_)
    obtain ⟨o1,o2⟩:=eb (en.own 154 _ _ rfl) 0 g rfl rfl
    obtain ⟨o3,o4⟩:=eb (en.own 155 _ _ rfl) 1 b rfl rfl
    rw [ah] at o4
    replace o3:β 155=b:=o3
    rw [fU] at eU
    rw [fL] at eL
    rw [fS,show s' + 0=s' by grind] at eS
    have o5:=(en.own 47 _ _ rfl).new
    have o6:=(en.own 47 _ _ rfl).cls
    rw [List.map_append,ah] at o6
    have n1':β 47≠g:=fun e=>absurd (en.apart 154 47 (by intro h;cases h) (by intro h;cases h) (o1.trans e.symm)) (by decide)
    have n2':β 47≠b:=fun e=>absurd (en.apart 155 47 (by intro h;cases h) (by intro h;cases h) (o3.trans e.symm)) (by decide)
    have o7:w.heap.size≤β 47:=by
     have:=eO (show cB 77 [g,b] w 47 (β 47) from o5)
     simpa [n1',n2'] using this
    refine ⟨_,rfl,?_,oz.1,aR,n',c',bL,gE,ak,.slice (some ⟨β 47,0,none⟩) un uc,?_,o4,?_,.inr ⟨β 47,un,uc,oI,qL.map (AV.leaf β),o7,rfl,o6,?_⟩⟩
    ·rw [eS];exact uD.k
    ·rw [←o3];exact o2
    ·rw [eL];exact gI.kp (aM B) (by (with_reducible (repeat (first | assumption | exact kU _ | exact kR _ | exact Kp.of (U:=UU) (by assumption) | exact aE.of (by assumption) | refine kT ?_ (by assumption)))))
    ·rw [eU,List.append_nil];exact (tG.kp (by (with_reducible (repeat (first | assumption | exact kU _ | exact kR _ | exact Kp.of (U:=UU) (by assumption) | exact aE.of (by assumption) | refine kT ?_ (by assumption)))))).o β
   ·obtain ⟨e,fv,rfl⟩:∃ e fv,q'=e::fv:=by
     cases q' with
     | nil=>exact absurd gI.len lH
     | cons e fv=>exact ⟨e,fv,rfl⟩
    obtain ⟨cs,fO,rfl,hE,qM⟩:∃ cs fO,gE=cs::fO∧cH B w' cs e∧cM (cH B) w' fv fO:=by
     have:=gI.el
     cases this with
     | cons h1 h2=>exact ⟨_,_,rfl,h1,h2⟩
    obtain ⟨s3,p3,n3,c3,t3,y3,m3,d3,rfl,Mf⟩:=hE
    have uP:=gI.le
    have qG:=gI.len
    have uL:=gI.cm
    have iP:bL.length=aR:=gI.pl.resolve_right (by omega)
    obtain ⟨ni,zU,Gr⟩:=zL e (by simp)
    (repeat first|refine wN ?_|refine wP rfl ?_|refine af rfl ?_|refine ag rfl ?_|refine wO rfl rfl ?_)
    obtain ⟨sg,jn⟩:∃ sg,dK m' 0=sg:=⟨_,rfl⟩
    refine VO.call rfl rfl (fk Tryz.func13) (fun cC er dv=>(bS _ m' kk cC (DY.ki (hK m' lC tD oJ)) (by omega) sg jn).mono ?_)
    rintro e w1 ⟨rfl,aV⟩
    skip
    refine ⟨_,rfl,aV,fun fe _ bb1=>wV rfl ?_⟩
    (repeat first|refine wN ?_|refine wP rfl ?_|refine af rfl ?_|refine ag rfl ?_|refine wO rfl rfl ?_)
    by_cases hm:0 < m'
    ·have jk:sg > 0:=by rw [←jn];exact ff.2 hm
     rw [if_pos hm] at iV
     refine VS.bE rfl (decide_eq_true jk) ?_
     (repeat first|refine wN ?_|refine wP rfl ?_|refine af rfl ?_|refine ag rfl ?_|refine wO rfl rfl ?_)
     refine VO.dh rfl (([.bool s3,.slice p3 n3 c3,.bool t3,.slice y3 m3 d3]:List Value).map .val) rfl (bh iP 1 _ ⟨[],rfl⟩) (wV rfl ?_)
     (repeat first|refine wN ?_|refine wP rfl ?_|refine af rfl ?_|refine ag rfl ?_|refine wO rfl rfl ?_)
     have pZ:=cR e.2 m'
     have Fy:0≤ai e.2 m':=by rcases pZ with ⟨h,_⟩ | ⟨h,_⟩ <;> rw [h] <;> assumption
     have pw:Iz D (ai e.2 m'):=by rcases pZ with ⟨h,_⟩ | ⟨h,_⟩ <;> rw [h] <;> assumption
     have za:=di e.2 m'
     have vC:=cd e.2 m'
     have lI:=hK _ pw Fy (Rat.le_trans vC oJ)
     refine VO.fI rfl (fk Tryz.func71) (fun dC β gu eu ho=>((fJ _ _ e.2 [m'] kk dC (Mf.rd.ki (hK e.2 ni zU Gr)) (dW (ho.own 31 (.base (List.mem_singleton.2 rfl)) _ _ rfl) [] (vs:=[[.bool s1,.slice p1 n1 c1,.bool t1,.slice y1 m1 d1]]) (by rfl) rfl (bZ.cons (DY.ki (hK m' lC tD oJ)) bZ.nil) (Nat.le_of_ble_eq_true rfl) (by decide)) (by omega) (Nat.le_of_ble_eq_true rfl)).mono (fun o w2 h=>And.intro h eu.1.size)).mono ?_)
     rintro o w2 ⟨⟨r4,rfl,q4,z4,bm⟩,qN⟩
     rw [gR] at q4
     have xA:aK w2 w.heap.size r4 (ai e.2 m'):=q4.mono qN
     obtain ⟨s4,p4,n4,c4,t4,y4,m4,d4,rfl⟩:=xA.form
     refine ⟨_,rfl,bm,fun fZ _ bb2=>wV rfl ?_⟩
     (repeat first|refine wN ?_|refine wP rfl ?_|refine af rfl ?_|refine ag rfl ?_|refine wO rfl rfl ?_)
     refine VO.dh rfl (([.int .i64 (e.1:Int)]:List Value).map .val) rfl (bh iP 0 _ ⟨_,rfl⟩) (wV rfl ?_)
     (repeat first|refine wN ?_|refine wP rfl ?_|refine af rfl ?_|refine ag rfl ?_|refine wO rfl rfl ?_)
     obtain ⟨vA,vB⟩:=tG.el.ok (dm B)
     have DT:=tG.len
     refine VO.app (bk _ _) (t:=34) (e:=et) (sz:=6) (n:=un) (c:=uc) (mm:=1) (known:=oI.flatten.map .val) (spare:=qL) (del:=some 47) (news:=([.int .i64 (e.1:Int),.int .i64 (y:Int),.bool s4,.slice p4 n4 c4,.bool t4,.slice y4 m4 d4]:List Value).map .val) (dst:=47) rfl rfl rfl rfl rfl rfl rfl rfl (Nat.le_of_ble_eq_true rfl) rfl (.inr ⟨47,rfl,rfl,rfl⟩) (.inr rfl) (by rw [List.length_map,vB,DT]) tG.fl tG.le tG.cm ⟨ao _,tG.sl,rfl⟩ ⟨bb vA,tG.so,rfl⟩ rfl (by simp only [List.length_append,List.length_cons] at DT iV jv ⊢;omega)
      (fun w1 β k1 b1 ho=>⟨_,_,rfl,.inr ⟨β 46,0,rfl,cK (rest:=[]) (ho.own 46 (.base (List.mem_append_right _ (List.mem_singleton.2 rfl))) _ _ rfl) rfl⟩⟩)
      (fun nD cap' eG ρ GM GN fC jc gm ed mL dy=>VO.ft 155 rfl (dR (ao _) _ _) (wV rfl ?_))
     (repeat first|refine wN ?_|refine wP rfl ?_|refine af rfl ?_|refine ag rfl ?_|refine wO rfl rfl ?_)
     have xS:uR B nD (un + 1) cap' (oI++[[.int .i64 (e.1:Int),.int .i64 (y:Int),.bool s4,.slice p4 n4 c4,.bool t4,.slice y4 m4 d4]]:List (List Value)) eG ((done++[(e.1,y,ai e.2 m')])):=⟨by simp [DT] <;> omega,by simpa [List.append_assoc] using ((tG.el.kp (dm B) (by (with_reducible (repeat (first | assumption | exact kU _ | exact kR _ | exact Kp.of (U:=UU) (by assumption) | exact aE.of (by assumption) | refine kT ?_ (by assumption)))))).snoc (show np B nD [.int .i64 (e.1:Int),.int .i64 (y:Int),.bool s4,.slice p4 n4 c4,.bool t4,.slice y4 m4 d4] (e.1,y,ai e.2 m') from ⟨s4,p4,n4,c4,t4,y4,m4,d4,rfl,(xA.mono hB).kp (by (with_reducible (repeat (first | assumption | exact kU _ | exact kR _ | exact Kp.of (U:=UU) (by assumption) | exact aE.of (by assumption) | refine kT ?_ (by assumption)))))⟩)),mL,dy,jc,gm,by simpa using ed⟩
     refine VO.call rfl rfl (fk Tryz.func16) (fun kg mG ku=>((dx _ _ s' (ai e.2 m') kk kk kg (uD.rd.ki (hK s' Jf hs0 hsM)) (xA.rd.ki lI) (by omega) (by omega)).mono (fun o w2 h=>And.intro h ku.1.size)).mono ?_)
     rintro o w5 ⟨⟨r5,rfl,q5,gi⟩,qO⟩
     obtain ⟨s5,p5,n5,c5,t5,y5,m5,d5,rfl⟩:=q5.form
     refine ⟨_,rfl,gi,fun nk _ xf=>wV rfl ?_⟩
     (repeat first|refine wN ?_|refine wP rfl ?_|refine af rfl ?_|refine ag rfl ?_|refine wO rfl rfl ?_)
     refine VO.call rfl rfl (fk Tryz.func72) (fun pK ux tw=>(bW _ _ m' (ai e.2 m') kk kk pK (DY.ki (hK m' lC tD oJ)) (xA.rd.ki lI) (by omega) (by omega)).mono ?_)
     rintro e w6 ⟨r6,rfl,q6,mX⟩
     obtain ⟨s6,p6,n6,c6,t6,y6,m6,d6,rfl⟩:=q6.form
     refine ⟨_,rfl,mX,fun tx _ CR=>wV rfl ?_⟩
     (repeat first|refine wN ?_|refine wP rfl ?_|refine af rfl ?_|refine ag rfl ?_|refine wO rfl rfl ?_)
     refine VO.dh rfl (([.bool s3,.slice p3 n3 c3,.bool t3,.slice y3 m3 d3]:List Value).map .val) rfl (bh iP 1 _ ⟨[],rfl⟩) (wV rfl ?_)
     (repeat first|refine wN ?_|refine wP rfl ?_|refine af rfl ?_|refine ag rfl ?_|refine wO rfl rfl ?_)
     refine VO.call rfl rfl (fk Tryz.func72) (fun yn DX xX=>((bW _ _ e.2 (ai e.2 m') kk kk yn (Mf.rd.ki (hK e.2 ni zU Gr)) (xA.rd.ki lI) (by omega) (by omega)).mono (fun o w2 h=>And.intro h xX.1.size)).mono ?_)
     rintro o w7 ⟨⟨r7,rfl,q7,uO⟩,Fz⟩
     obtain ⟨s7,p7,n7,c7,t7,y7,m7,d7,rfl⟩:=q7.form
     refine ⟨_,rfl,uO,fun zj _ bb7=>wV rfl ?_⟩
     (repeat first|refine wN ?_|refine wP rfl ?_|refine af rfl ?_|refine ag rfl ?_|refine wO rfl rfl ?_)
     refine VO.cond rfl (by show aR + 1 + 4≤_;rw [List.length_map,List.length_append,List.length_append,List.flatten_cons,List.length_append,iP];show aR + 1 + 4≤aR + (6 - 1 + _ + _);omega) (VO.ft 155 rfl (si iP) (wV rfl ?_))
     (repeat first|refine wN ?_|refine wP rfl ?_|refine af rfl ?_|refine ag rfl ?_|refine wO rfl rfl ?_)
     refine VO.dh rfl (([.bool s7,.slice p7 n7 c7,.bool t7,.slice y7 m7 d7]:List Value).map .val) rfl (bh iP 1 _ ⟨[],rfl⟩) (wV rfl ?_)
     (repeat first|refine wN ?_|refine wP rfl ?_|refine af rfl ?_|refine ag rfl ?_|refine wO rfl rfl ?_)
     have xV:0≤e.2 - ai e.2 m':=by grind
     have Mg:e.2 - ai e.2 m'≤M:=by grind
     have Mh:Iz D (e.2 - ai e.2 m'):=ni.sub pw
     obtain ⟨jD,jE⟩:∃ jD,dK (e.2 - ai e.2 m') 0=jD:=⟨_,rfl⟩
     refine VO.call rfl rfl (fk Tryz.func13) (fun uQ Fg zl=>(bS _ (e.2 - ai e.2 m') kk uQ (q7.ki (hK _ Mh xV Mg)) (by omega) jD jE).mono ?_)
     rintro e w8 ⟨rfl,qU⟩
     skip
     refine ⟨_,rfl,qU,fun vH _ JL=>wV rfl ?_⟩
     (repeat first|refine wN ?_|refine wP rfl ?_|refine af rfl ?_|refine ag rfl ?_|refine wO rfl rfl ?_)
     have hE7:cH B w8 [.int .i64 (e.1:Int),.bool s7,.slice p7 n7 c7,.bool t7,.slice y7 m7 d7] (e.1,e.2 - ai e.2 m'):=⟨s7,p7,n7,c7,t7,y7,m7,d7,rfl,(q7.mono (Nat.le_trans hB Fz)).kp (by (with_reducible (repeat (first | assumption | exact kU _ | exact kR _ | exact Kp.of (U:=UU) (by assumption) | exact aE.of (by assumption) | refine kT ?_ (by assumption)))))⟩
     have yW:=gI.so
     have Je:=gI.po
     have sO:=gI.fl
     have CC:0≤m' - ai e.2 m':=by grind
     have EO:0≤s' + ai e.2 m':=by grind
     have xB:s' + ai e.2 m' + (m' - ai e.2 m')=m:=by grind
     have xC:=(q6.kr (w':=w8) (by (with_reducible (repeat (first | assumption | exact kU _ | exact kR _ | exact Kp.of (U:=UU) (by assumption) | exact aE.of (by assumption) | refine kT ?_ (by assumption))))))
     have xD:aK w8 w.heap.size _ (s' + ai e.2 m'):=(q5.mono qO).kp (by (with_reducible (repeat (first | assumption | exact kU _ | exact kR _ | exact Kp.of (U:=UU) (by assumption) | exact aE.of (by assumption) | refine kT ?_ (by assumption)))))
     have Mi:cM (cH B) w8 fv fO:=qM.kp (aM B) (by (with_reducible (repeat (first | assumption | exact kU _ | exact kR _ | exact Kp.of (U:=UU) (by assumption) | exact aE.of (by assumption) | refine kT ?_ (by assumption)))))
     by_cases hz:e.2 - ai e.2 m'=0
     ·have qP:(jD == 0)=true:=by rw [←jE,hz];rfl
      refine VS.bE rfl qP ?_
      (repeat first|refine wN ?_|refine wP rfl ?_|refine af rfl ?_|refine ag rfl ?_|refine wO rfl rfl ?_)
      obtain ⟨e1,e2,e3⟩:=fN (y:=y) (p:=e) (q:=fv) hm hz
      rw [e1,←List.singleton_append,←List.append_assoc] at eU
      rw [e2] at eL
      rw [e3] at eS
      refine VO.iA rfl rfl (fk Tryz.func76) rfl (by omega) uP uL (fun j hj=> ?_) (Nat.le_of_ble_eq_true rfl) (fun w9 k9 b9=>wV rfl ?_)
      ·rcases List.mem_cons.1 hj with rfl | hj
       ·intro h;cases h
       ·cases List.mem_singleton.1 hj
        intro h;cases h
      (repeat first|refine wN ?_|refine wP rfl ?_|refine af rfl ?_|refine ag rfl ?_|refine wO rfl rfl ?_)
      have hO9:cY (cH B) 5 w9 (n' - 1) (if c'=1 then aR else aR + 5) (c' - 1) (bL++[.int .i64 (e.1:Int),.bool s7,.slice p7 n7 c7,.bool t7,.slice y7 m7 d7]) fO ak fv:=⟨by rw [qG];rfl,mM iP,by rw [List.all_append,Je];rfl,Mi.kp (aM B) (by (with_reducible (repeat (first | assumption | exact kU _ | exact kR _ | exact Kp.of (U:=UU) (by assumption) | exact aE.of (by assumption) | refine kT ?_ (by assumption))))),yW,by omega,by omega,mO sO⟩
      have jh:∀ (v8:AV) (wb:World),aE (KU UU) w9 wb→((n' - 1=0∧v8=.val (.pointer none))∨(n' - 1≠0∧v8=.kx 155 (if c'=1 then aR else aR + 5)))→sj B D M w rv y q m (2 * fv.length + (if 0 < m' - ai e.2 m' then 1 else 0)) [(0,.box 154 0),(1,.val (.int .i64 (y:Int))),(5,.box 5 0),(6,.box 6 0),(7,.box 7 0),(8,v8)]
        ((154,(Runner,[.row 155 (if c'=1 then aR else aR + 5) (n' - 1) (c' - 1),.val rv,.row 47 0 (un + 1) cap']))::(155,(cO,((bL++([.int .i64 (e.1:Int),.bool s7,.slice p7 n7 c7,.bool t7,.slice y7 m7 d7]:List Value))++(fO.flatten++ak)).map AV.val))::(5,(26,([.bool s6,.slice p6 n6 c6,.bool t6,.slice y6 m6 d6]:List Value).map .val))::(6,(26,([.bool false,.slice none 0 0,.bool false,.slice none 0 0]:List Value).map .val))::(7,(26,([.bool s5,.slice p5 n5 c5,.bool t5,.slice y5 m5 d5]:List Value).map .val))::[(47,(et,(oI++[[.int .i64 (e.1:Int),.int .i64 (y:Int),.bool s4,.slice p4 n4 c4,.bool t4,.slice y4 m4 d4]]:List (List Value)).flatten.map AV.val++eG))]) wb:=fun v8 wb kb Jg=>
       ⟨fv,_,_,_,_,fO,ak,m' - ai e.2 m',s' + ai e.2 m',done++[(e.1,y,ai e.2 m')],v8,_,_,_,_,_,_,_,_,_,_,_,_,_,_,_,_,_,_,rfl,rfl,rfl,hO9.kp (aM B) (by (with_reducible (repeat (first | assumption | exact kU _ | exact kR _ | exact Kp.of (U:=UU) (by assumption) | exact aE.of (by assumption) | refine kT ?_ (by assumption))))),xC.k,xD.k,lC.sub pw,Jf.add pw,CC,EO,xB,fun p hp=>zL p (by simp [hp]),eU,eL,by rw [eS];grind,Jg,by simp at iV ⊢;split <;> omega,.inr ⟨_,_,_,_,rfl,rfl,xS.kp (by (with_reducible (repeat (first | assumption | exact kU _ | exact kR _ | exact Kp.of (U:=UU) (by assumption) | exact aE.of (by assumption) | refine kT ?_ (by assumption)))))⟩⟩
      have hlt:2 * fv.length + (if 0 < m' - ai e.2 m' then 1 else 0) < 2 * (e::fv).length + (if 0 < m' then 1 else 0):=by
       rw [if_pos hm,List.length_cons];split <;> omega
      by_cases sP:n' - 1=0
      ·refine VO.cZ (x:=.row 155 (if c'=1 then aR else aR + 5) (n' - 1) (c' - 1)) (p:=fun _=>none) (c:=c' - 1) rfl (fun β=>.inr ⟨_,congrArg (fun n=>Value.slice (some ⟨β 155,(if c'=1 then aR else aR + 5),none⟩) n (c' - 1)) sP⟩) rfl (fk Tryz.func75) rfl (fun wb Jh Mj=>wV rfl ?_)
       (repeat first|refine wN ?_|refine wP rfl ?_|refine af rfl ?_|refine ag rfl ?_|refine wO rfl rfl ?_)
       refine VS.back _ hlt ⟨_,_,?_,?_,?_,?_,jh _ wb (by (with_reducible (repeat (first | assumption | exact kU _ | exact kR _ | exact Kp.of (U:=UU) (by assumption) | exact aE.of (by assumption) | refine kT ?_ (by assumption))))) (.inl ⟨sP,rfl⟩)⟩
       ·(repeat first|exact trivial|refine ⟨rfl,?_⟩)
       ·exact ⟨rfl,congrArg (fun l=>some (cO,l)) (dM _ _ _ _),rfl,rfl,rfl,congrArg (fun l=>some (et,l++eG)) (by simp),trivial⟩
       ·rfl
       ·exact ⟨.lit rfl,.vals _,.vals _,.vals _,.vals _,.append (.vals _) (.none dy),trivial⟩
      ·refine VO.cI rfl rfl (fk Tryz.func75) rfl sP (by intro h;cases h) (fun wb Jh Mj=>wV rfl ?_)
       (repeat first|refine wN ?_|refine wP rfl ?_|refine af rfl ?_|refine ag rfl ?_|refine wO rfl rfl ?_)
       refine VS.back _ hlt ⟨_,_,?_,?_,?_,?_,jh _ wb (by (with_reducible (repeat (first | assumption | exact kU _ | exact kR _ | exact Kp.of (U:=UU) (by assumption) | exact aE.of (by assumption) | refine kT ?_ (by assumption))))) (.inr ⟨sP,rfl⟩)⟩
       ·(repeat first|exact trivial|refine ⟨rfl,?_⟩)
       ·exact ⟨rfl,congrArg (fun l=>some (cO,l)) (dM _ _ _ _),rfl,rfl,rfl,congrArg (fun l=>some (et,l++eG)) (by simp),trivial⟩
       ·rfl
       ·exact ⟨.lit rfl,.vals _,.vals _,.vals _,.vals _,.append (.vals _) (.none dy),trivial⟩
     ·have qP:(jD == 0)=false:=by rw [←jE,beq_eq_false_iff_ne];exact vJ hz
      refine VS.bu rfl qP ?_
      (repeat first|refine wN ?_|refine wP rfl ?_|refine af rfl ?_|refine ag rfl ?_|refine wO rfl rfl ?_)
      obtain ⟨e0,e1,e2,e3⟩:=fM (y:=y) (p:=e) (q:=fv) hm hz
      refine VO.cI rfl rfl (fk Tryz.func75) rfl lH (by intro h;cases h) (fun wb Jh Mj=>wV rfl ?_)
      (repeat first|refine wN ?_|refine wP rfl ?_|refine af rfl ?_|refine ag rfl ?_|refine wO rfl rfl ?_)
      refine VS.back (2 * (e::fv).length + 0) (by rw [if_pos hm];omega) ⟨_,_,?_,?_,?_,?_,⟨(e.1,e.2 - ai e.2 m')::fv,aR,n',c',bL,[.int .i64 (e.1:Int),.bool s7,.slice p7 n7 c7,.bool t7,.slice y7 m7 d7]::fO,ak,m' - ai e.2 m',s' + ai e.2 m',done++[(e.1,y,ai e.2 m')],.kx 155 aR,_,_,_,_,_,_,_,_,_,_,_,_,_,_,_,_,_,_,by rw [if_neg e0];rfl,rfl,rfl,⟨qG,.inl iP,Je,.cons ((aM B).kp hE7 (by (with_reducible (repeat (first | assumption | exact kU _ | exact kR _ | exact Kp.of (U:=UU) (by assumption) | exact aE.of (by assumption) | refine kT ?_ (by assumption)))))) (Mi.kp (aM B) (by (with_reducible (repeat (first | assumption | exact kU _ | exact kR _ | exact Kp.of (U:=UU) (by assumption) | exact aE.of (by assumption) | refine kT ?_ (by assumption)))))),yW,uP,uL,by simpa using sO⟩,xC.k,xD.k,lC.sub pw,Jf.add pw,CC,EO,xB,fun p hp=> ?_,?_,?_,?_,.inr ⟨lH,rfl⟩,?_,.inr ⟨_,_,_,_,rfl,rfl,xS.kp (by (with_reducible (repeat (first | assumption | exact kU _ | exact kR _ | exact Kp.of (U:=UU) (by assumption) | exact aE.of (by assumption) | refine kT ?_ (by assumption)))))⟩⟩⟩
      ·(repeat first|exact trivial|refine ⟨rfl,?_⟩)
      ·exact ⟨rfl,rfl,rfl,rfl,rfl,congrArg (fun l=>some (et,l++eG)) (by simp),trivial⟩
      ·rfl
      ·exact ⟨.lit rfl,.vals _,.vals _,.vals _,.vals _,.append (.vals _) (.none dy),trivial⟩
      ·rcases List.mem_cons.1 hp with rfl | hp
       ·exact ⟨Mh,xV,Mg⟩
       ·exact zL p (by simp [hp])
      ·rw [eU,e1,gw y _ e0,List.append_nil]
      ·rw [eL,e2,fK _ e0]
      ·rw [eS,e3,gz _ e0];grind
      ·rw [if_neg e0];simp at iV ⊢;omega
    ·have jk:¬ sg > 0:=by rw [←jn];exact fun h=>hm (ff.1 h)
     refine VS.bu rfl (decide_eq_false jk) ?_
     have fU:=gw y (e::fv) hm
     have fL:=fK (e::fv) hm
     have fS:=gz (e::fv) hm
     (repeat first|refine wN ?_|refine wP rfl ?_|refine af rfl ?_|refine ag rfl ?_|refine wO rfl rfl ?_)
     refine VS.oy (bk _ _) rfl (fun wz β kz oz en=> ?_)
     obtain ⟨o1,o2⟩:=eb (en.own 154 _ _ rfl) 0 g rfl rfl
     obtain ⟨o3,o4⟩:=eb (en.own 155 _ _ rfl) 1 b rfl rfl
     rw [ah] at o4
     replace o3:β 155=b:=o3
     rw [fU] at eU
     rw [fL] at eL
     rw [fS,show s' + 0=s' by grind] at eS
     have o5:=(en.own 47 _ _ rfl).new
     have o6:=(en.own 47 _ _ rfl).cls
     rw [List.map_append,ah] at o6
     have n1':β 47≠g:=fun e=>absurd (en.apart 154 47 (by intro h;cases h) (by intro h;cases h) (o1.trans e.symm)) (by decide)
     have n2':β 47≠b:=fun e=>absurd (en.apart 155 47 (by intro h;cases h) (by intro h;cases h) (o3.trans e.symm)) (by decide)
     have o7:w.heap.size≤β 47:=by
      have:=eO (show cB 77 [g,b] w 47 (β 47) from o5)
      simpa [n1',n2'] using this
     refine ⟨_,rfl,?_,oz.1,aR,n',c',bL,_,ak,.slice (some ⟨β 47,0,none⟩) un uc,?_,o4,?_,.inr ⟨β 47,un,uc,oI,qL.map (AV.leaf β),o7,rfl,o6,?_⟩⟩
     ·rw [eS];exact uD.k
     ·rw [←o3];exact o2
     ·rw [eL];exact gI.kp (aM B) (by (with_reducible (repeat (first | assumption | exact kU _ | exact kR _ | exact Kp.of (U:=UU) (by assumption) | exact aE.of (by assumption) | refine kT ?_ (by assumption)))))
     ·rw [eU,List.append_nil];exact (tG.kp (by (with_reducible (repeat (first | assumption | exact kU _ | exact kR _ | exact Kp.of (U:=UU) (by assumption) | exact aE.of (by assumption) | refine kT ?_ (by assumption)))))).o β
set_option maxRecDepth 4000 in
set_option maxHeartbeats 8000000 in
theorem Mk (B g b off n c y D kk:Nat) (M m:Rat) (pre:List Value) (vs:List (List Value)) (spare:List Value) (q:List Vq) (rv v:Value) (ub yq Ax:Nat) (me:List (List Value)) (nt:List Value) (us0:List Uq) (w:World)
  (hg:aW w g Runner #[.slice (some ⟨b,off,none⟩) n c,rv,.slice (some ⟨ub,0,none⟩) yq Ax]) (Kl:aW w ub et (me.flatten++nt).toArray) (JO:cY (np B) 6 w yq 0 Ax [] me nt us0) (Ay:us0.length≤1000) (hb:aW w b cO (pre++(vs.flatten++spare)).toArray) (hO:cY (cH B) 5 w n off c pre vs spare q) (hr:aU rv=true) (hv:cQ w v m) (hmI:Iz D m) (yp:0≤m) (hmM:m≤M) (hq:∀ p∈q,Iz D p.2∧0≤p.2∧p.2≤M)
  (hK:∀ x,Iz D x→0≤x→x≤M→dV x kk) (hk:kk≤100000) (jv:q.length≤1000) (hB:B≤w.heap.size):
  Calls Tryz.prog 73 #[.pointer (some ⟨g,0,none⟩),.int .i64 (y:Int),v] w fun o w'=>∃ x,o=.returned x∧aK w' w.heap.size x (qW q m)∧qA [g,b,ub] w w'∧LeftA w' ub∧∃ aR n' c' bL gE ak uv,aW w' g Runner #[.slice (some ⟨b,aR,none⟩) n' c',rv,uv]∧aW w' b cO (bL++(gE.flatten++ak)).toArray∧cY (cH B) 5 w' n' aR c' bL gE ak (kW q m)∧(∃ b' un uc oI qL,(w.heap.size≤b'∨b'=ub)∧uv=.slice (some ⟨b',0,none⟩) un uc∧aW w' b' et (oI.flatten++qL).toArray∧cY (np B) 6 w' un 0 uc [] oI qL (us0++nH y q m)):=by
 have hgb:g≠b:=fun e=>by subst e;exact absurd (bo hg hb) (by decide)
 have hgu:g≠ub:=fun e=>by subst e;exact absurd (bo hg Kl) (by decide)
 have hbu:b≠ub:=fun e=>by subst e;exact absurd (bo hb Kl) (by decide)
 have hUo:uR B w yq Ax me (nt.map .val) us0:=⟨JO.len,JO.el,bb JO.so,ao _,JO.le,JO.cm,by rw [←List.map_append,List.length_map];exact JO.fl⟩
 obtain ⟨huok,hulen⟩:=JO.el.ok (dm B)
 obtain ⟨s0,p0,n0,c0,t0,y0,m0,d0,rfl⟩:=hv.form
 have pM:iG (KU UU) 77 [g,b,ub] [(Runner,[.row 155 off n c,.val rv,.row 156 0 yq Ax]),(cO,(pre++(vs.flatten++spare)).map .val),(et,me.flatten.map .val++nt.map .val)] w:=by
  refine ⟨rfl,by simp [hgb,hgu,hbu],fun j g' c' hj hc=> ?_,fun c' hc=> ?_,fun c' hc k hk=> ?_⟩
  ·match j,hj,hc with
   | 0,hj,hc=>cases hj;cases hc;exact hg
   | 1,hj,hc=>cases hj;cases hc;rw [ah];exact hb
   | 2,hj,hc=>cases hj;cases hc;rw [←List.map_append,ah];exact Kl
   | j + 3,hj,_=>simp at hj
  ·rcases List.mem_cons.1 hc with rfl | hc
   ·exact ⟨rfl,rnr_ok' rfl hr rfl⟩
   ·rcases List.mem_cons.1 hc with rfl | hc
    ·exact ⟨rfl,bb (hO.all (aM B))⟩
    ·cases List.mem_singleton.1 hc
     exact ⟨rfl,by rw [←List.map_append];exact bb (by rw [List.all_append,huok,JO.so];rfl)⟩
  ·rcases List.mem_cons.1 hc with rfl | hc
   ·have:k=155∨k=156:=by simpa [ax,AV.cL] using hk
    rcases this with rfl | rfl
    ·exact ⟨by omega,by show 155 < 2 * 77 + 3;omega⟩
    ·exact ⟨by omega,by show 156 < 2 * 77 + 3;omega⟩
   ·rcases List.mem_cons.1 hc with rfl | hc
    ·rw [ao] at hk;cases hk
    ·cases List.mem_singleton.1 hc
     rw [←List.map_append,ao] at hk;cases hk
 refine ea Tryz.prog w _ (KU UU) (fun t=>Nat.beq t 22) table (fun _ _=>trivial) (ad:=[g,b,ub]) (us:=[_,_]) Tryz.func73 rfl Tryz.ntmps73 (Nat.le_of_ble_eq_true rfl) pM (Nat.le_of_ble_eq_true rfl) ?_
 (repeat first|refine wN ?_|refine wP rfl ?_|refine af rfl ?_|refine ag rfl ?_|refine wO rfl rfl ?_)
 refine VO.call rfl rfl (fk Tryz.func44) (fun cC er dv=>((bF 0 cC (by omega) (by omega)).mono (fun o w2 h=>And.intro h dv.1.size)).mono ?_)
 rintro o w1 ⟨⟨r9,rfl,q9,Gf⟩,Fx⟩
 obtain ⟨s9,p9,n9,c9,t9,y9,m9,d9,rfl⟩:=q9.form
 refine ⟨_,rfl,Gf,fun Ba _ bb9=>wV rfl ?_⟩
 (repeat first|refine wN ?_|refine wP rfl ?_|refine af rfl ?_|refine ag rfl ?_|refine wO rfl rfl ?_)
 have LV:((0:Int):Rat)=0:=rfl
 rw [LV] at q9
 apply VO.via (P:=fun F' H' w'=>Entry (sk B D M w rv y q m yq Ax me nt us0) (2 * q.length + (if 0 < m then 1 else 0)) F' H' w')
 ·intro cont
  by_cases lH:n=0
  ·refine VO.cZ (x:=.row 155 off n c) (p:=fun _=>none) (c:=c) rfl (fun β=>.inr ⟨_,congrArg (fun n=>Value.slice (some ⟨β 155,off,none⟩) n c) lH⟩) rfl (fk Tryz.func75) rfl (fun w3 k3 b3=>wV rfl ?_)
   (repeat first|refine wN ?_|refine wP rfl ?_|refine af rfl ?_|refine ag rfl ?_|refine wO rfl rfl ?_)
   refine cont _ _ _ ⟨_,_,?_,?_,?_,?_,⟨q,off,n,c,pre,vs,spare,m,0,[],.val (.pointer none),_,_,_,_,_,_,_,_,_,_,_,_,_,_,_,_,_,_,rfl,rfl,rfl,hO.kp (aM B) (by (with_reducible (repeat (first | assumption | exact kU _ | exact kR _ | exact Kp.of (U:=UU) (by assumption) | exact aE.of (by assumption) | refine kT ?_ (by assumption))))),hv.k,(q9.mono Fx).kp (by (with_reducible (repeat (first | assumption | exact kU _ | exact kR _ | exact Kp.of (U:=UU) (by assumption) | exact aE.of (by assumption) | refine kT ?_ (by assumption))))),hmI,Iz.zero,yp,Rat.le_refl,by grind,hq,rfl,rfl,by grind,.inl ⟨lH,rfl⟩,by split <;> simp,.inl ⟨rfl,rfl,rfl,by (with_reducible (repeat (first | assumption | exact kU _ | exact kR _ | exact Kp.of (U:=UU) (by assumption) | exact aE.of (by assumption) | refine kT ?_ (by assumption))))⟩⟩⟩
   ·(repeat first|exact trivial|refine ⟨rfl,?_⟩)
   ·(repeat first|exact trivial|refine ⟨rfl,?_⟩)
   ·rfl
   ·exact ⟨.lit rfl,.vals _,.vals _,.vals _,.vals _,.append (.vals _) (.vals _),trivial⟩
  ·refine VO.cI rfl rfl (fk Tryz.func75) rfl lH (by intro h;cases h) (fun w3 k3 b3=>wV rfl ?_)
   (repeat first|refine wN ?_|refine wP rfl ?_|refine af rfl ?_|refine ag rfl ?_|refine wO rfl rfl ?_)
   refine cont _ _ _ ⟨_,_,?_,?_,?_,?_,⟨q,off,n,c,pre,vs,spare,m,0,[],.kx 155 off,_,_,_,_,_,_,_,_,_,_,_,_,_,_,_,_,_,_,rfl,rfl,rfl,hO.kp (aM B) (by (with_reducible (repeat (first | assumption | exact kU _ | exact kR _ | exact Kp.of (U:=UU) (by assumption) | exact aE.of (by assumption) | refine kT ?_ (by assumption))))),hv.k,(q9.mono Fx).kp (by (with_reducible (repeat (first | assumption | exact kU _ | exact kR _ | exact Kp.of (U:=UU) (by assumption) | exact aE.of (by assumption) | refine kT ?_ (by assumption))))),hmI,Iz.zero,yp,Rat.le_refl,by grind,hq,rfl,rfl,by grind,.inr ⟨lH,rfl⟩,by split <;> simp,.inl ⟨rfl,rfl,rfl,by (with_reducible (repeat (first | assumption | exact kU _ | exact kR _ | exact Kp.of (U:=UU) (by assumption) | exact aE.of (by assumption) | refine kT ?_ (by assumption))))⟩⟩⟩
   ·(repeat first|exact trivial|refine ⟨rfl,?_⟩)
   ·(repeat first|exact trivial|refine ⟨rfl,?_⟩)
   ·rfl
   ·exact ⟨.lit rfl,.vals _,.vals _,.vals _,.vals _,.append (.vals _) (.vals _),trivial⟩
 ·intro F0 H0 w0' hent
  refine VS.loop (J:=sk B D M w rv y q m yq Ax me nt us0) _ hent ?_
  rintro idx L Mm w' ⟨q',aR,n',c',bL,gE,ak,m',s',done,v8,Us,Um,s1,t1,s2,t2,p1,y1,p2,y2,n1,c1,m1,d1,n2,c2,m2,d2,rfl,rfl,rfl,gI,DY,uD,lC,Jf,tD,hs0,hsm,zL,eU,eL,eS,Jg,iV,hUs⟩
  have oJ:m'≤M:=by grind
  have hsM:s'≤M:=by grind
  rcases hUs with ⟨rfl,rfl,rfl,kw0⟩ | ⟨un,uc,oI,qL,rfl,rfl,tG⟩
  ·rcases Jg with ⟨lH,rfl⟩ | ⟨lH,rfl⟩
   ·have DJ:q'=[]:=List.eq_nil_of_length_eq_zero (by rw [←gI.len];exact lH)
    subst DJ
    have fU:nH y [] m'=[]:=rfl
    have fL:kW [] m'=[]:=rfl
    have fS:qW [] m'=0:=rfl
    (repeat first|refine wN ?_|refine wP rfl ?_|refine af rfl ?_|refine ag rfl ?_|refine wO rfl rfl ?_)
    refine VS.oy (bk _ _) rfl (fun wz β kz oz en=> ?_)
    obtain ⟨o1,o2⟩:=eb (en.own 154 _ _ rfl) 0 g rfl rfl
    obtain ⟨o3,o4⟩:=eb (en.own 155 _ _ rfl) 1 b rfl rfl
    rw [ah] at o4
    replace o3:β 155=b:=o3
    rw [fU] at eU
    rw [fL] at eL
    rw [fS,show s' + 0=s' by grind] at eS
    obtain ⟨o5,o6⟩:=eb (en.own 156 _ _ rfl) 2 ub rfl rfl
    replace o5:β 156=ub:=o5
    rw [List.map_append,ah,ah] at o6
    refine ⟨_,rfl,?_,oz.1,oz.2 ub (by simp),aR,n',c',bL,gE,ak,.slice (some ⟨ub,0,none⟩) yq Ax,?_,o4,?_,ub,yq,Ax,me,nt,.inr rfl,rfl,o6,?_⟩
    ·rw [eS];exact uD.k
    ·rw [←o3,←o5];exact o2
    ·rw [eL];exact gI.kp (aM B) (by (with_reducible (repeat (first | assumption | exact kU _ | exact kR _ | exact Kp.of (U:=UU) (by assumption) | exact aE.of (by assumption) | refine kT ?_ (by assumption)))))
    ·rw [eU,List.nil_append,List.append_nil];exact JO.kp (dm B) (by (with_reducible (repeat (first | assumption | exact kU _ | exact kR _ | exact Kp.of (U:=UU) (by assumption) | exact aE.of (by assumption) | refine kT ?_ (by assumption)))))
   ·obtain ⟨e,fv,rfl⟩:∃ e fv,q'=e::fv:=by
     cases q' with
     | nil=>exact absurd gI.len lH
     | cons e fv=>exact ⟨e,fv,rfl⟩
    obtain ⟨cs,fO,rfl,hE,qM⟩:∃ cs fO,gE=cs::fO∧cH B w' cs e∧cM (cH B) w' fv fO:=by
     have:=gI.el
     cases this with
     | cons h1 h2=>exact ⟨_,_,rfl,h1,h2⟩
    obtain ⟨s3,p3,n3,c3,t3,y3,m3,d3,rfl,Mf⟩:=hE
    have uP:=gI.le
    have qG:=gI.len
    have uL:=gI.cm
    have iP:bL.length=aR:=gI.pl.resolve_right (by omega)
    obtain ⟨ni,zU,Gr⟩:=zL e (by simp)
    (repeat first|refine wN ?_|refine wP rfl ?_|refine af rfl ?_|refine ag rfl ?_|refine wO rfl rfl ?_)
    obtain ⟨sg,jn⟩:∃ sg,dK m' 0=sg:=⟨_,rfl⟩
    refine VO.call rfl rfl (fk Tryz.func13) (fun cC er dv=>(bS _ m' kk cC (DY.ki (hK m' lC tD oJ)) (by omega) sg jn).mono ?_)
    rintro e w1 ⟨rfl,aV⟩
    skip
    refine ⟨_,rfl,aV,fun fe _ bb1=>wV rfl ?_⟩
    (repeat first|refine wN ?_|refine wP rfl ?_|refine af rfl ?_|refine ag rfl ?_|refine wO rfl rfl ?_)
    by_cases hm:0 < m'
    ·have jk:sg > 0:=by rw [←jn];exact ff.2 hm
     rw [if_pos hm] at iV
     refine VS.bE rfl (decide_eq_true jk) ?_
     (repeat first|refine wN ?_|refine wP rfl ?_|refine af rfl ?_|refine ag rfl ?_|refine wO rfl rfl ?_)
     refine VO.dh rfl (([.bool s3,.slice p3 n3 c3,.bool t3,.slice y3 m3 d3]:List Value).map .val) rfl (bh iP 1 _ ⟨[],rfl⟩) (wV rfl ?_)
     (repeat first|refine wN ?_|refine wP rfl ?_|refine af rfl ?_|refine ag rfl ?_|refine wO rfl rfl ?_)
     have pZ:=cR e.2 m'
     have Fy:0≤ai e.2 m':=by rcases pZ with ⟨h,_⟩ | ⟨h,_⟩ <;> rw [h] <;> assumption
     have pw:Iz D (ai e.2 m'):=by rcases pZ with ⟨h,_⟩ | ⟨h,_⟩ <;> rw [h] <;> assumption
     have za:=di e.2 m'
     have vC:=cd e.2 m'
     have lI:=hK _ pw Fy (Rat.le_trans vC oJ)
     refine VO.fI rfl (fk Tryz.func71) (fun dC β gu eu ho=>((fJ _ _ e.2 [m'] kk dC (Mf.rd.ki (hK e.2 ni zU Gr)) (dW (ho.own 31 (.base (List.mem_singleton.2 rfl)) _ _ rfl) [] (vs:=[[.bool s1,.slice p1 n1 c1,.bool t1,.slice y1 m1 d1]]) (by rfl) rfl (bZ.cons (DY.ki (hK m' lC tD oJ)) bZ.nil) (Nat.le_of_ble_eq_true rfl) (by decide)) (by omega) (Nat.le_of_ble_eq_true rfl)).mono (fun o w2 h=>And.intro h eu.1.size)).mono ?_)
     rintro o w2 ⟨⟨r4,rfl,q4,z4,bm⟩,qN⟩
     rw [gR] at q4
     have xA:aK w2 w.heap.size r4 (ai e.2 m'):=q4.mono qN
     obtain ⟨s4,p4,n4,c4,t4,y4,m4,d4,rfl⟩:=xA.form
     refine ⟨_,rfl,bm,fun fZ _ bb2=>wV rfl ?_⟩
     (repeat first|refine wN ?_|refine wP rfl ?_|refine af rfl ?_|refine ag rfl ?_|refine wO rfl rfl ?_)
     refine VO.dh rfl (([.int .i64 (e.1:Int)]:List Value).map .val) rfl (bh iP 0 _ ⟨_,rfl⟩) (wV rfl ?_)
     (repeat first|refine wN ?_|refine wP rfl ?_|refine af rfl ?_|refine ag rfl ?_|refine wO rfl rfl ?_)
     obtain ⟨vA,vB⟩:=hUo.el.ok (dm B)
     have DT:=hUo.len
     refine VO.app (bk _ _) (t:=34) (e:=et) (sz:=6) (n:=yq) (c:=Ax) (mm:=1) (known:=me.flatten.map .val) (spare:=(nt.map AV.val)) (del:=some 156) (news:=([.int .i64 (e.1:Int),.int .i64 (y:Int),.bool s4,.slice p4 n4 c4,.bool t4,.slice y4 m4 d4]:List Value).map .val) (dst:=47) rfl rfl rfl rfl rfl rfl rfl rfl (Nat.le_of_ble_eq_true rfl) rfl (.inr ⟨156,rfl,rfl,rfl⟩) (.inl rfl) (by rw [List.length_map,vB,DT]) hUo.fl hUo.le hUo.cm ⟨ao _,hUo.sl,rfl⟩ ⟨bb vA,hUo.so,rfl⟩ rfl (by simp only [List.length_append,List.length_cons] at DT iV jv ⊢;omega)
      (fun w1 β k1 b1 ho=>⟨_,_,rfl,.inr ⟨β 46,0,rfl,cK (rest:=[]) (ho.own 46 (.base (List.mem_append_right _ (List.mem_singleton.2 rfl))) _ _ rfl) rfl⟩⟩)
      (fun nD cap' eG ρ GM GN fC jc gm ed mL dy=>VO.ft 155 rfl (dR (ao _) _ _) (wV rfl ?_))
     (repeat first|refine wN ?_|refine wP rfl ?_|refine af rfl ?_|refine ag rfl ?_|refine wO rfl rfl ?_)
     have xS:uR B nD (yq + 1) cap' (me++[[.int .i64 (e.1:Int),.int .i64 (y:Int),.bool s4,.slice p4 n4 c4,.bool t4,.slice y4 m4 d4]]:List (List Value)) eG (us0++([]++[(e.1,y,ai e.2 m')])):=⟨by simp [DT] <;> omega,by simpa [List.append_assoc] using ((hUo.el.kp (dm B) (by (with_reducible (repeat (first | assumption | exact kU _ | exact kR _ | exact Kp.of (U:=UU) (by assumption) | exact aE.of (by assumption) | refine kT ?_ (by assumption)))))).snoc (show np B nD [.int .i64 (e.1:Int),.int .i64 (y:Int),.bool s4,.slice p4 n4 c4,.bool t4,.slice y4 m4 d4] (e.1,y,ai e.2 m') from ⟨s4,p4,n4,c4,t4,y4,m4,d4,rfl,(xA.mono hB).kp (by (with_reducible (repeat (first | assumption | exact kU _ | exact kR _ | exact Kp.of (U:=UU) (by assumption) | exact aE.of (by assumption) | refine kT ?_ (by assumption)))))⟩)),mL,dy,jc,gm,by simpa using ed⟩
     refine VO.call rfl rfl (fk Tryz.func16) (fun kg mG ku=>((dx _ _ s' (ai e.2 m') kk kk kg (uD.rd.ki (hK s' Jf hs0 hsM)) (xA.rd.ki lI) (by omega) (by omega)).mono (fun o w2 h=>And.intro h ku.1.size)).mono ?_)
     rintro o w5 ⟨⟨r5,rfl,q5,gi⟩,qO⟩
     obtain ⟨s5,p5,n5,c5,t5,y5,m5,d5,rfl⟩:=q5.form
     refine ⟨_,rfl,gi,fun nk _ xf=>wV rfl ?_⟩
     (repeat first|refine wN ?_|refine wP rfl ?_|refine af rfl ?_|refine ag rfl ?_|refine wO rfl rfl ?_)
     refine VO.call rfl rfl (fk Tryz.func72) (fun pK ux tw=>(bW _ _ m' (ai e.2 m') kk kk pK (DY.ki (hK m' lC tD oJ)) (xA.rd.ki lI) (by omega) (by omega)).mono ?_)
     rintro e w6 ⟨r6,rfl,q6,mX⟩
     obtain ⟨s6,p6,n6,c6,t6,y6,m6,d6,rfl⟩:=q6.form
     refine ⟨_,rfl,mX,fun tx _ CR=>wV rfl ?_⟩
     (repeat first|refine wN ?_|refine wP rfl ?_|refine af rfl ?_|refine ag rfl ?_|refine wO rfl rfl ?_)
     refine VO.dh rfl (([.bool s3,.slice p3 n3 c3,.bool t3,.slice y3 m3 d3]:List Value).map .val) rfl (bh iP 1 _ ⟨[],rfl⟩) (wV rfl ?_)
     (repeat first|refine wN ?_|refine wP rfl ?_|refine af rfl ?_|refine ag rfl ?_|refine wO rfl rfl ?_)
     refine VO.call rfl rfl (fk Tryz.func72) (fun yn DX xX=>((bW _ _ e.2 (ai e.2 m') kk kk yn (Mf.rd.ki (hK e.2 ni zU Gr)) (xA.rd.ki lI) (by omega) (by omega)).mono (fun o w2 h=>And.intro h xX.1.size)).mono ?_)
     rintro o w7 ⟨⟨r7,rfl,q7,uO⟩,Fz⟩
     obtain ⟨s7,p7,n7,c7,t7,y7,m7,d7,rfl⟩:=q7.form
     refine ⟨_,rfl,uO,fun zj _ bb7=>wV rfl ?_⟩
     (repeat first|refine wN ?_|refine wP rfl ?_|refine af rfl ?_|refine ag rfl ?_|refine wO rfl rfl ?_)
     refine VO.cond rfl (by show aR + 1 + 4≤_;rw [List.length_map,List.length_append,List.length_append,List.flatten_cons,List.length_append,iP];show aR + 1 + 4≤aR + (6 - 1 + _ + _);omega) (VO.ft 155 rfl (si iP) (wV rfl ?_))
     (repeat first|refine wN ?_|refine wP rfl ?_|refine af rfl ?_|refine ag rfl ?_|refine wO rfl rfl ?_)
     refine VO.dh rfl (([.bool s7,.slice p7 n7 c7,.bool t7,.slice y7 m7 d7]:List Value).map .val) rfl (bh iP 1 _ ⟨[],rfl⟩) (wV rfl ?_)
     (repeat first|refine wN ?_|refine wP rfl ?_|refine af rfl ?_|refine ag rfl ?_|refine wO rfl rfl ?_)
     have xV:0≤e.2 - ai e.2 m':=by grind
     have Mg:e.2 - ai e.2 m'≤M:=by grind
     have Mh:Iz D (e.2 - ai e.2 m'):=ni.sub pw
     obtain ⟨jD,jE⟩:∃ jD,dK (e.2 - ai e.2 m') 0=jD:=⟨_,rfl⟩
     refine VO.call rfl rfl (fk Tryz.func13) (fun uQ Fg zl=>(bS _ (e.2 - ai e.2 m') kk uQ (q7.ki (hK _ Mh xV Mg)) (by omega) jD jE).mono ?_)
     rintro e w8 ⟨rfl,qU⟩
     skip
     refine ⟨_,rfl,qU,fun vH _ JL=>wV rfl ?_⟩
     (repeat first|refine wN ?_|refine wP rfl ?_|refine af rfl ?_|refine ag rfl ?_|refine wO rfl rfl ?_)
     have hE7:cH B w8 [.int .i64 (e.1:Int),.bool s7,.slice p7 n7 c7,.bool t7,.slice y7 m7 d7] (e.1,e.2 - ai e.2 m'):=⟨s7,p7,n7,c7,t7,y7,m7,d7,rfl,(q7.mono (Nat.le_trans hB Fz)).kp (by (with_reducible (repeat (first | assumption | exact kU _ | exact kR _ | exact Kp.of (U:=UU) (by assumption) | exact aE.of (by assumption) | refine kT ?_ (by assumption)))))⟩
     have yW:=gI.so
     have Je:=gI.po
     have sO:=gI.fl
     have CC:0≤m' - ai e.2 m':=by grind
     have EO:0≤s' + ai e.2 m':=by grind
     have xB:s' + ai e.2 m' + (m' - ai e.2 m')=m:=by grind
     have xC:=(q6.kr (w':=w8) (by (with_reducible (repeat (first | assumption | exact kU _ | exact kR _ | exact Kp.of (U:=UU) (by assumption) | exact aE.of (by assumption) | refine kT ?_ (by assumption))))))
     have xD:aK w8 w.heap.size _ (s' + ai e.2 m'):=(q5.mono qO).kp (by (with_reducible (repeat (first | assumption | exact kU _ | exact kR _ | exact Kp.of (U:=UU) (by assumption) | exact aE.of (by assumption) | refine kT ?_ (by assumption)))))
     have Mi:cM (cH B) w8 fv fO:=qM.kp (aM B) (by (with_reducible (repeat (first | assumption | exact kU _ | exact kR _ | exact Kp.of (U:=UU) (by assumption) | exact aE.of (by assumption) | refine kT ?_ (by assumption)))))
     by_cases hz:e.2 - ai e.2 m'=0
     ·have qP:(jD == 0)=true:=by rw [←jE,hz];rfl
      refine VS.bE rfl qP ?_
      (repeat first|refine wN ?_|refine wP rfl ?_|refine af rfl ?_|refine ag rfl ?_|refine wO rfl rfl ?_)
      obtain ⟨e1,e2,e3⟩:=fN (y:=y) (p:=e) (q:=fv) hm hz
      rw [e1,←List.singleton_append,←List.append_assoc] at eU
      rw [e2] at eL
      rw [e3] at eS
      refine VO.iA rfl rfl (fk Tryz.func76) rfl (by omega) uP uL (fun j hj=> ?_) (Nat.le_of_ble_eq_true rfl) (fun w9 k9 b9=>wV rfl ?_)
      ·rcases List.mem_cons.1 hj with rfl | hj
       ·intro h;cases h
       ·cases List.mem_singleton.1 hj
        intro h;cases h
      (repeat first|refine wN ?_|refine wP rfl ?_|refine af rfl ?_|refine ag rfl ?_|refine wO rfl rfl ?_)
      have hO9:cY (cH B) 5 w9 (n' - 1) (if c'=1 then aR else aR + 5) (c' - 1) (bL++[.int .i64 (e.1:Int),.bool s7,.slice p7 n7 c7,.bool t7,.slice y7 m7 d7]) fO ak fv:=⟨by rw [qG];rfl,mM iP,by rw [List.all_append,Je];rfl,Mi.kp (aM B) (by (with_reducible (repeat (first | assumption | exact kU _ | exact kR _ | exact Kp.of (U:=UU) (by assumption) | exact aE.of (by assumption) | refine kT ?_ (by assumption))))),yW,by omega,by omega,mO sO⟩
      have jh:∀ (v8:AV) (wb:World),aE (KU UU) w9 wb→((n' - 1=0∧v8=.val (.pointer none))∨(n' - 1≠0∧v8=.kx 155 (if c'=1 then aR else aR + 5)))→sk B D M w rv y q m yq Ax me nt us0 (2 * fv.length + (if 0 < m' - ai e.2 m' then 1 else 0)) [(0,.box 154 0),(1,.val (.int .i64 (y:Int))),(5,.box 5 0),(6,.box 6 0),(7,.box 7 0),(8,v8)]
        ((154,(Runner,[.row 155 (if c'=1 then aR else aR + 5) (n' - 1) (c' - 1),.val rv,.row 47 0 (yq + 1) cap']))::(155,(cO,((bL++([.int .i64 (e.1:Int),.bool s7,.slice p7 n7 c7,.bool t7,.slice y7 m7 d7]:List Value))++(fO.flatten++ak)).map AV.val))::(5,(26,([.bool s6,.slice p6 n6 c6,.bool t6,.slice y6 m6 d6]:List Value).map .val))::(6,(26,([.bool false,.slice none 0 0,.bool false,.slice none 0 0]:List Value).map .val))::(7,(26,([.bool s5,.slice p5 n5 c5,.bool t5,.slice y5 m5 d5]:List Value).map .val))::[(47,(et,(me++[[.int .i64 (e.1:Int),.int .i64 (y:Int),.bool s4,.slice p4 n4 c4,.bool t4,.slice y4 m4 d4]]:List (List Value)).flatten.map AV.val++eG))]) wb:=fun v8 wb kb Jg=>
       ⟨fv,_,_,_,_,fO,ak,m' - ai e.2 m',s' + ai e.2 m',[]++[(e.1,y,ai e.2 m')],v8,_,_,_,_,_,_,_,_,_,_,_,_,_,_,_,_,_,_,rfl,rfl,rfl,hO9.kp (aM B) (by (with_reducible (repeat (first | assumption | exact kU _ | exact kR _ | exact Kp.of (U:=UU) (by assumption) | exact aE.of (by assumption) | refine kT ?_ (by assumption))))),xC.k,xD.k,lC.sub pw,Jf.add pw,CC,EO,xB,fun p hp=>zL p (by simp [hp]),eU,eL,by rw [eS];grind,Jg,by simp at iV ⊢;split <;> omega,.inr ⟨_,_,_,_,rfl,rfl,xS.kp (by (with_reducible (repeat (first | assumption | exact kU _ | exact kR _ | exact Kp.of (U:=UU) (by assumption) | exact aE.of (by assumption) | refine kT ?_ (by assumption)))))⟩⟩
      have hlt:2 * fv.length + (if 0 < m' - ai e.2 m' then 1 else 0) < 2 * (e::fv).length + (if 0 < m' then 1 else 0):=by
       rw [if_pos hm,List.length_cons];split <;> omega
      by_cases sP:n' - 1=0
      ·refine VO.cZ (x:=.row 155 (if c'=1 then aR else aR + 5) (n' - 1) (c' - 1)) (p:=fun _=>none) (c:=c' - 1) rfl (fun β=>.inr ⟨_,congrArg (fun n=>Value.slice (some ⟨β 155,(if c'=1 then aR else aR + 5),none⟩) n (c' - 1)) sP⟩) rfl (fk Tryz.func75) rfl (fun wb Jh Mj=>wV rfl ?_)
       (repeat first|refine wN ?_|refine wP rfl ?_|refine af rfl ?_|refine ag rfl ?_|refine wO rfl rfl ?_)
       refine VS.back _ hlt ⟨_,_,?_,?_,?_,?_,jh _ wb (by (with_reducible (repeat (first | assumption | exact kU _ | exact kR _ | exact Kp.of (U:=UU) (by assumption) | exact aE.of (by assumption) | refine kT ?_ (by assumption))))) (.inl ⟨sP,rfl⟩)⟩
       ·(repeat first|exact trivial|refine ⟨rfl,?_⟩)
       ·exact ⟨rfl,congrArg (fun l=>some (cO,l)) (dM _ _ _ _),rfl,rfl,rfl,congrArg (fun l=>some (et,l++eG)) (by simp),trivial⟩
       ·rfl
       ·exact ⟨.lit rfl,.vals _,.vals _,.vals _,.vals _,.append (.vals _) (.none dy),trivial⟩
      ·refine VO.cI rfl rfl (fk Tryz.func75) rfl sP (by intro h;cases h) (fun wb Jh Mj=>wV rfl ?_)
       (repeat first|refine wN ?_|refine wP rfl ?_|refine af rfl ?_|refine ag rfl ?_|refine wO rfl rfl ?_)
       refine VS.back _ hlt ⟨_,_,?_,?_,?_,?_,jh _ wb (by (with_reducible (repeat (first | assumption | exact kU _ | exact kR _ | exact Kp.of (U:=UU) (by assumption) | exact aE.of (by assumption) | refine kT ?_ (by assumption))))) (.inr ⟨sP,rfl⟩)⟩
       ·(repeat first|exact trivial|refine ⟨rfl,?_⟩)
       ·exact ⟨rfl,congrArg (fun l=>some (cO,l)) (dM _ _ _ _),rfl,rfl,rfl,congrArg (fun l=>some (et,l++eG)) (by simp),trivial⟩
       ·rfl
       ·exact ⟨.lit rfl,.vals _,.vals _,.vals _,.vals _,.append (.vals _) (.none dy),trivial⟩
     ·have qP:(jD == 0)=false:=by rw [←jE,beq_eq_false_iff_ne];exact vJ hz
      refine VS.bu rfl qP ?_
      (repeat first|refine wN ?_|refine wP rfl ?_|refine af rfl ?_|refine ag rfl ?_|refine wO rfl rfl ?_)
      obtain ⟨e0,e1,e2,e3⟩:=fM (y:=y) (p:=e) (q:=fv) hm hz
      refine VO.cI rfl rfl (fk Tryz.func75) rfl lH (by intro h;cases h) (fun wb Jh Mj=>wV rfl ?_)
      (repeat first|refine wN ?_|refine wP rfl ?_|refine af rfl ?_|refine ag rfl ?_|refine wO rfl rfl ?_)
      refine VS.back (2 * (e::fv).length + 0) (by rw [if_pos hm];omega) ⟨_,_,?_,?_,?_,?_,⟨(e.1,e.2 - ai e.2 m')::fv,aR,n',c',bL,[.int .i64 (e.1:Int),.bool s7,.slice p7 n7 c7,.bool t7,.slice y7 m7 d7]::fO,ak,m' - ai e.2 m',s' + ai e.2 m',[]++[(e.1,y,ai e.2 m')],.kx 155 aR,_,_,_,_,_,_,_,_,_,_,_,_,_,_,_,_,_,_,by rw [if_neg e0];rfl,rfl,rfl,⟨qG,.inl iP,Je,.cons ((aM B).kp hE7 (by (with_reducible (repeat (first | assumption | exact kU _ | exact kR _ | exact Kp.of (U:=UU) (by assumption) | exact aE.of (by assumption) | refine kT ?_ (by assumption)))))) (Mi.kp (aM B) (by (with_reducible (repeat (first | assumption | exact kU _ | exact kR _ | exact Kp.of (U:=UU) (by assumption) | exact aE.of (by assumption) | refine kT ?_ (by assumption)))))),yW,uP,uL,by simpa using sO⟩,xC.k,xD.k,lC.sub pw,Jf.add pw,CC,EO,xB,fun p hp=> ?_,?_,?_,?_,.inr ⟨lH,rfl⟩,?_,.inr ⟨_,_,_,_,rfl,rfl,xS.kp (by (with_reducible (repeat (first | assumption | exact kU _ | exact kR _ | exact Kp.of (U:=UU) (by assumption) | exact aE.of (by assumption) | refine kT ?_ (by assumption)))))⟩⟩⟩
      ·(repeat first|exact trivial|refine ⟨rfl,?_⟩)
      ·exact ⟨rfl,rfl,rfl,rfl,rfl,congrArg (fun l=>some (et,l++eG)) (by simp),trivial⟩
      ·rfl
      ·exact ⟨.lit rfl,.vals _,.vals _,.vals _,.vals _,.append (.vals _) (.none dy),trivial⟩
      ·rcases List.mem_cons.1 hp with rfl | hp
       ·exact ⟨Mh,xV,Mg⟩
       ·exact zL p (by simp [hp])
      ·rw [eU,e1,gw y _ e0,List.append_nil]
      ·rw [eL,e2,fK _ e0]
      ·rw [eS,e3,gz _ e0];grind
      ·rw [if_neg e0];simp at iV ⊢;omega
    ·have jk:¬ sg > 0:=by rw [←jn];exact fun h=>hm (ff.1 h)
     refine VS.bu rfl (decide_eq_false jk) ?_
     have fU:=gw y (e::fv) hm
     have fL:=fK (e::fv) hm
     have fS:=gz (e::fv) hm
     (repeat first|refine wN ?_|refine wP rfl ?_|refine af rfl ?_|refine ag rfl ?_|refine wO rfl rfl ?_)
     refine VS.oy (bk _ _) rfl (fun wz β kz oz en=> ?_)
     obtain ⟨o1,o2⟩:=eb (en.own 154 _ _ rfl) 0 g rfl rfl
     obtain ⟨o3,o4⟩:=eb (en.own 155 _ _ rfl) 1 b rfl rfl
     rw [ah] at o4
     replace o3:β 155=b:=o3
     rw [fU] at eU
     rw [fL] at eL
     rw [fS,show s' + 0=s' by grind] at eS
     obtain ⟨o5,o6⟩:=eb (en.own 156 _ _ rfl) 2 ub rfl rfl
     replace o5:β 156=ub:=o5
     rw [List.map_append,ah,ah] at o6
     refine ⟨_,rfl,?_,oz.1,oz.2 ub (by simp),aR,n',c',bL,_,ak,.slice (some ⟨ub,0,none⟩) yq Ax,?_,o4,?_,ub,yq,Ax,me,nt,.inr rfl,rfl,o6,?_⟩
     ·rw [eS];exact uD.k
     ·rw [←o3,←o5];exact o2
     ·rw [eL];exact gI.kp (aM B) (by (with_reducible (repeat (first | assumption | exact kU _ | exact kR _ | exact Kp.of (U:=UU) (by assumption) | exact aE.of (by assumption) | refine kT ?_ (by assumption)))))
     ·rw [eU,List.nil_append,List.append_nil];exact JO.kp (dm B) (by (with_reducible (repeat (first | assumption | exact kU _ | exact kR _ | exact Kp.of (U:=UU) (by assumption) | exact aE.of (by assumption) | refine kT ?_ (by assumption)))))
  ·rcases Jg with ⟨lH,rfl⟩ | ⟨lH,rfl⟩
   ·have DJ:q'=[]:=List.eq_nil_of_length_eq_zero (by rw [←gI.len];exact lH)
    subst DJ
    have fU:nH y [] m'=[]:=rfl
    have fL:kW [] m'=[]:=rfl
    have fS:qW [] m'=0:=rfl
    (repeat first|refine wN ?_|refine wP rfl ?_|refine af rfl ?_|refine ag rfl ?_|refine wO rfl rfl ?_)
    refine VS.oy (bk _ _) rfl (fun wz β kz oz en=> ?_)
    obtain ⟨o1,o2⟩:=eb (en.own 154 _ _ rfl) 0 g rfl rfl
    obtain ⟨o3,o4⟩:=eb (en.own 155 _ _ rfl) 1 b rfl rfl
    rw [ah] at o4
    replace o3:β 155=b:=o3
    rw [fU] at eU
    rw [fL] at eL
    rw [fS,show s' + 0=s' by grind] at eS
    have o5:=(en.own 47 _ _ rfl).new
    have o6:=(en.own 47 _ _ rfl).cls
    rw [List.map_append,ah] at o6
    have n1':β 47≠g:=fun e=>absurd (en.apart 154 47 (by intro h;cases h) (by intro h;cases h) (o1.trans e.symm)) (by decide)
    have n2':β 47≠b:=fun e=>absurd (en.apart 155 47 (by intro h;cases h) (by intro h;cases h) (o3.trans e.symm)) (by decide)
    have o7:w.heap.size≤β 47∨β 47=ub:=by
     have:=eO (show cB 77 [g,b,ub] w 47 (β 47) from o5)
     simpa [n1',n2'] using this
    refine ⟨_,rfl,?_,oz.1,oz.2 ub (by simp),aR,n',c',bL,gE,ak,.slice (some ⟨β 47,0,none⟩) un uc,?_,o4,?_,⟨β 47,un,uc,oI,qL.map (AV.leaf β),o7,rfl,o6,?_⟩⟩
    ·rw [eS];exact uD.k
    ·rw [←o3];exact o2
    ·rw [eL];exact gI.kp (aM B) (by (with_reducible (repeat (first | assumption | exact kU _ | exact kR _ | exact Kp.of (U:=UU) (by assumption) | exact aE.of (by assumption) | refine kT ?_ (by assumption)))))
    ·rw [eU,List.append_nil];exact (tG.kp (by (with_reducible (repeat (first | assumption | exact kU _ | exact kR _ | exact Kp.of (U:=UU) (by assumption) | exact aE.of (by assumption) | refine kT ?_ (by assumption)))))).o β
   ·obtain ⟨e,fv,rfl⟩:∃ e fv,q'=e::fv:=by
     cases q' with
     | nil=>exact absurd gI.len lH
     | cons e fv=>exact ⟨e,fv,rfl⟩
    obtain ⟨cs,fO,rfl,hE,qM⟩:∃ cs fO,gE=cs::fO∧cH B w' cs e∧cM (cH B) w' fv fO:=by
     have:=gI.el
     cases this with
     | cons h1 h2=>exact ⟨_,_,rfl,h1,h2⟩
    obtain ⟨s3,p3,n3,c3,t3,y3,m3,d3,rfl,Mf⟩:=hE
    have uP:=gI.le
    have qG:=gI.len
    have uL:=gI.cm
    have iP:bL.length=aR:=gI.pl.resolve_right (by omega)
    obtain ⟨ni,zU,Gr⟩:=zL e (by simp)
    (repeat first|refine wN ?_|refine wP rfl ?_|refine af rfl ?_|refine ag rfl ?_|refine wO rfl rfl ?_)
    obtain ⟨sg,jn⟩:∃ sg,dK m' 0=sg:=⟨_,rfl⟩
    refine VO.call rfl rfl (fk Tryz.func13) (fun cC er dv=>(bS _ m' kk cC (DY.ki (hK m' lC tD oJ)) (by omega) sg jn).mono ?_)
    rintro e w1 ⟨rfl,aV⟩
    skip
    refine ⟨_,rfl,aV,fun fe _ bb1=>wV rfl ?_⟩
    (repeat first|refine wN ?_|refine wP rfl ?_|refine af rfl ?_|refine ag rfl ?_|refine wO rfl rfl ?_)
    by_cases hm:0 < m'
    ·have jk:sg > 0:=by rw [←jn];exact ff.2 hm
     rw [if_pos hm] at iV
     refine VS.bE rfl (decide_eq_true jk) ?_
     (repeat first|refine wN ?_|refine wP rfl ?_|refine af rfl ?_|refine ag rfl ?_|refine wO rfl rfl ?_)
     refine VO.dh rfl (([.bool s3,.slice p3 n3 c3,.bool t3,.slice y3 m3 d3]:List Value).map .val) rfl (bh iP 1 _ ⟨[],rfl⟩) (wV rfl ?_)
     (repeat first|refine wN ?_|refine wP rfl ?_|refine af rfl ?_|refine ag rfl ?_|refine wO rfl rfl ?_)
     have pZ:=cR e.2 m'
     have Fy:0≤ai e.2 m':=by rcases pZ with ⟨h,_⟩ | ⟨h,_⟩ <;> rw [h] <;> assumption
     have pw:Iz D (ai e.2 m'):=by rcases pZ with ⟨h,_⟩ | ⟨h,_⟩ <;> rw [h] <;> assumption
     have za:=di e.2 m'
     have vC:=cd e.2 m'
     have lI:=hK _ pw Fy (Rat.le_trans vC oJ)
     refine VO.fI rfl (fk Tryz.func71) (fun dC β gu eu ho=>((fJ _ _ e.2 [m'] kk dC (Mf.rd.ki (hK e.2 ni zU Gr)) (dW (ho.own 31 (.base (List.mem_singleton.2 rfl)) _ _ rfl) [] (vs:=[[.bool s1,.slice p1 n1 c1,.bool t1,.slice y1 m1 d1]]) (by rfl) rfl (bZ.cons (DY.ki (hK m' lC tD oJ)) bZ.nil) (Nat.le_of_ble_eq_true rfl) (by decide)) (by omega) (Nat.le_of_ble_eq_true rfl)).mono (fun o w2 h=>And.intro h eu.1.size)).mono ?_)
     rintro o w2 ⟨⟨r4,rfl,q4,z4,bm⟩,qN⟩
     rw [gR] at q4
     have xA:aK w2 w.heap.size r4 (ai e.2 m'):=q4.mono qN
     obtain ⟨s4,p4,n4,c4,t4,y4,m4,d4,rfl⟩:=xA.form
     refine ⟨_,rfl,bm,fun fZ _ bb2=>wV rfl ?_⟩
     (repeat first|refine wN ?_|refine wP rfl ?_|refine af rfl ?_|refine ag rfl ?_|refine wO rfl rfl ?_)
     refine VO.dh rfl (([.int .i64 (e.1:Int)]:List Value).map .val) rfl (bh iP 0 _ ⟨_,rfl⟩) (wV rfl ?_)
     (repeat first|refine wN ?_|refine wP rfl ?_|refine af rfl ?_|refine ag rfl ?_|refine wO rfl rfl ?_)
     obtain ⟨vA,vB⟩:=tG.el.ok (dm B)
     have DT:=tG.len
     refine VO.app (bk _ _) (t:=34) (e:=et) (sz:=6) (n:=un) (c:=uc) (mm:=1) (known:=oI.flatten.map .val) (spare:=qL) (del:=some 47) (news:=([.int .i64 (e.1:Int),.int .i64 (y:Int),.bool s4,.slice p4 n4 c4,.bool t4,.slice y4 m4 d4]:List Value).map .val) (dst:=47) rfl rfl rfl rfl rfl rfl rfl rfl (Nat.le_of_ble_eq_true rfl) rfl (.inr ⟨47,rfl,rfl,rfl⟩) (.inr rfl) (by rw [List.length_map,vB,DT]) tG.fl tG.le tG.cm ⟨ao _,tG.sl,rfl⟩ ⟨bb vA,tG.so,rfl⟩ rfl (by simp only [List.length_append,List.length_cons] at DT iV jv ⊢;omega)
      (fun w1 β k1 b1 ho=>⟨_,_,rfl,.inr ⟨β 46,0,rfl,cK (rest:=[]) (ho.own 46 (.base (List.mem_append_right _ (List.mem_singleton.2 rfl))) _ _ rfl) rfl⟩⟩)
      (fun nD cap' eG ρ GM GN fC jc gm ed mL dy=>VO.ft 155 rfl (dR (ao _) _ _) (wV rfl ?_))
     (repeat first|refine wN ?_|refine wP rfl ?_|refine af rfl ?_|refine ag rfl ?_|refine wO rfl rfl ?_)
     have xS:uR B nD (un + 1) cap' (oI++[[.int .i64 (e.1:Int),.int .i64 (y:Int),.bool s4,.slice p4 n4 c4,.bool t4,.slice y4 m4 d4]]:List (List Value)) eG (us0++(done++[(e.1,y,ai e.2 m')])):=⟨by simp [DT] <;> omega,by simpa [List.append_assoc] using ((tG.el.kp (dm B) (by (with_reducible (repeat (first | assumption | exact kU _ | exact kR _ | exact Kp.of (U:=UU) (by assumption) | exact aE.of (by assumption) | refine kT ?_ (by assumption)))))).snoc (show np B nD [.int .i64 (e.1:Int),.int .i64 (y:Int),.bool s4,.slice p4 n4 c4,.bool t4,.slice y4 m4 d4] (e.1,y,ai e.2 m') from ⟨s4,p4,n4,c4,t4,y4,m4,d4,rfl,(xA.mono hB).kp (by (with_reducible (repeat (first | assumption | exact kU _ | exact kR _ | exact Kp.of (U:=UU) (by assumption) | exact aE.of (by assumption) | refine kT ?_ (by assumption)))))⟩)),mL,dy,jc,gm,by simpa using ed⟩
     refine VO.call rfl rfl (fk Tryz.func16) (fun kg mG ku=>((dx _ _ s' (ai e.2 m') kk kk kg (uD.rd.ki (hK s' Jf hs0 hsM)) (xA.rd.ki lI) (by omega) (by omega)).mono (fun o w2 h=>And.intro h ku.1.size)).mono ?_)
     rintro o w5 ⟨⟨r5,rfl,q5,gi⟩,qO⟩
     obtain ⟨s5,p5,n5,c5,t5,y5,m5,d5,rfl⟩:=q5.form
     refine ⟨_,rfl,gi,fun nk _ xf=>wV rfl ?_⟩
     (repeat first|refine wN ?_|refine wP rfl ?_|refine af rfl ?_|refine ag rfl ?_|refine wO rfl rfl ?_)
     refine VO.call rfl rfl (fk Tryz.func72) (fun pK ux tw=>(bW _ _ m' (ai e.2 m') kk kk pK (DY.ki (hK m' lC tD oJ)) (xA.rd.ki lI) (by omega) (by omega)).mono ?_)
     rintro e w6 ⟨r6,rfl,q6,mX⟩
     obtain ⟨s6,p6,n6,c6,t6,y6,m6,d6,rfl⟩:=q6.form
     refine ⟨_,rfl,mX,fun tx _ CR=>wV rfl ?_⟩
     (repeat first|refine wN ?_|refine wP rfl ?_|refine af rfl ?_|refine ag rfl ?_|refine wO rfl rfl ?_)
     refine VO.dh rfl (([.bool s3,.slice p3 n3 c3,.bool t3,.slice y3 m3 d3]:List Value).map .val) rfl (bh iP 1 _ ⟨[],rfl⟩) (wV rfl ?_)
     (repeat first|refine wN ?_|refine wP rfl ?_|refine af rfl ?_|refine ag rfl ?_|refine wO rfl rfl ?_)
     refine VO.call rfl rfl (fk Tryz.func72) (fun yn DX xX=>((bW _ _ e.2 (ai e.2 m') kk kk yn (Mf.rd.ki (hK e.2 ni zU Gr)) (xA.rd.ki lI) (by omega) (by omega)).mono (fun o w2 h=>And.intro h xX.1.size)).mono ?_)
     rintro o w7 ⟨⟨r7,rfl,q7,uO⟩,Fz⟩
     obtain ⟨s7,p7,n7,c7,t7,y7,m7,d7,rfl⟩:=q7.form
     refine ⟨_,rfl,uO,fun zj _ bb7=>wV rfl ?_⟩
     (repeat first|refine wN ?_|refine wP rfl ?_|refine af rfl ?_|refine ag rfl ?_|refine wO rfl rfl ?_)
     refine VO.cond rfl (by show aR + 1 + 4≤_;rw [List.length_map,List.length_append,List.length_append,List.flatten_cons,List.length_append,iP];show aR + 1 + 4≤aR + (6 - 1 + _ + _);omega) (VO.ft 155 rfl (si iP) (wV rfl ?_))
     (repeat first|refine wN ?_|refine wP rfl ?_|refine af rfl ?_|refine ag rfl ?_|refine wO rfl rfl ?_)
     refine VO.dh rfl (([.bool s7,.slice p7 n7 c7,.bool t7,.slice y7 m7 d7]:List Value).map .val) rfl (bh iP 1 _ ⟨[],rfl⟩) (wV rfl ?_)
     (repeat first|refine wN ?_|refine wP rfl ?_|refine af rfl ?_|refine ag rfl ?_|refine wO rfl rfl ?_)
     have xV:0≤e.2 - ai e.2 m':=by grind
     have Mg:e.2 - ai e.2 m'≤M:=by grind
     have Mh:Iz D (e.2 - ai e.2 m'):=ni.sub pw
     obtain ⟨jD,jE⟩:∃ jD,dK (e.2 - ai e.2 m') 0=jD:=⟨_,rfl⟩
     refine VO.call rfl rfl (fk Tryz.func13) (fun uQ Fg zl=>(bS _ (e.2 - ai e.2 m') kk uQ (q7.ki (hK _ Mh xV Mg)) (by omega) jD jE).mono ?_)
     rintro e w8 ⟨rfl,qU⟩
     skip
     refine ⟨_,rfl,qU,fun vH _ JL=>wV rfl ?_⟩
     (repeat first|refine wN ?_|refine wP rfl ?_|refine af rfl ?_|refine ag rfl ?_|refine wO rfl rfl ?_)
     have hE7:cH B w8 [.int .i64 (e.1:Int),.bool s7,.slice p7 n7 c7,.bool t7,.slice y7 m7 d7] (e.1,e.2 - ai e.2 m'):=⟨s7,p7,n7,c7,t7,y7,m7,d7,rfl,(q7.mono (Nat.le_trans hB Fz)).kp (by (with_reducible (repeat (first | assumption | exact kU _ | exact kR _ | exact Kp.of (U:=UU) (by assumption) | exact aE.of (by assumption) | refine kT ?_ (by assumption)))))⟩
     have yW:=gI.so
     have Je:=gI.po
     have sO:=gI.fl
     have CC:0≤m' - ai e.2 m':=by grind
     have EO:0≤s' + ai e.2 m':=by grind
     have xB:s' + ai e.2 m' + (m' - ai e.2 m')=m:=by grind
     have xC:=(q6.kr (w':=w8) (by (with_reducible (repeat (first | assumption | exact kU _ | exact kR _ | exact Kp.of (U:=UU) (by assumption) | exact aE.of (by assumption) | refine kT ?_ (by assumption))))))
     have xD:aK w8 w.heap.size _ (s' + ai e.2 m'):=(q5.mono qO).kp (by (with_reducible (repeat (first | assumption | exact kU _ | exact kR _ | exact Kp.of (U:=UU) (by assumption) | exact aE.of (by assumption) | refine kT ?_ (by assumption)))))
     have Mi:cM (cH B) w8 fv fO:=qM.kp (aM B) (by (with_reducible (repeat (first | assumption | exact kU _ | exact kR _ | exact Kp.of (U:=UU) (by assumption) | exact aE.of (by assumption) | refine kT ?_ (by assumption)))))
     by_cases hz:e.2 - ai e.2 m'=0
     ·have qP:(jD == 0)=true:=by rw [←jE,hz];rfl
      refine VS.bE rfl qP ?_
      (repeat first|refine wN ?_|refine wP rfl ?_|refine af rfl ?_|refine ag rfl ?_|refine wO rfl rfl ?_)
      obtain ⟨e1,e2,e3⟩:=fN (y:=y) (p:=e) (q:=fv) hm hz
      rw [e1,←List.singleton_append,←List.append_assoc] at eU
      rw [e2] at eL
      rw [e3] at eS
      refine VO.iA rfl rfl (fk Tryz.func76) rfl (by omega) uP uL (fun j hj=> ?_) (Nat.le_of_ble_eq_true rfl) (fun w9 k9 b9=>wV rfl ?_)
      ·rcases List.mem_cons.1 hj with rfl | hj
       ·intro h;cases h
       ·cases List.mem_singleton.1 hj
        intro h;cases h
      (repeat first|refine wN ?_|refine wP rfl ?_|refine af rfl ?_|refine ag rfl ?_|refine wO rfl rfl ?_)
      have hO9:cY (cH B) 5 w9 (n' - 1) (if c'=1 then aR else aR + 5) (c' - 1) (bL++[.int .i64 (e.1:Int),.bool s7,.slice p7 n7 c7,.bool t7,.slice y7 m7 d7]) fO ak fv:=⟨by rw [qG];rfl,mM iP,by rw [List.all_append,Je];rfl,Mi.kp (aM B) (by (with_reducible (repeat (first | assumption | exact kU _ | exact kR _ | exact Kp.of (U:=UU) (by assumption) | exact aE.of (by assumption) | refine kT ?_ (by assumption))))),yW,by omega,by omega,mO sO⟩
      have jh:∀ (v8:AV) (wb:World),aE (KU UU) w9 wb→((n' - 1=0∧v8=.val (.pointer none))∨(n' - 1≠0∧v8=.kx 155 (if c'=1 then aR else aR + 5)))→sk B D M w rv y q m yq Ax me nt us0 (2 * fv.length + (if 0 < m' - ai e.2 m' then 1 else 0)) [(0,.box 154 0),(1,.val (.int .i64 (y:Int))),(5,.box 5 0),(6,.box 6 0),(7,.box 7 0),(8,v8)]
        ((154,(Runner,[.row 155 (if c'=1 then aR else aR + 5) (n' - 1) (c' - 1),.val rv,.row 47 0 (un + 1) cap']))::(155,(cO,((bL++([.int .i64 (e.1:Int),.bool s7,.slice p7 n7 c7,.bool t7,.slice y7 m7 d7]:List Value))++(fO.flatten++ak)).map AV.val))::(5,(26,([.bool s6,.slice p6 n6 c6,.bool t6,.slice y6 m6 d6]:List Value).map .val))::(6,(26,([.bool false,.slice none 0 0,.bool false,.slice none 0 0]:List Value).map .val))::(7,(26,([.bool s5,.slice p5 n5 c5,.bool t5,.slice y5 m5 d5]:List Value).map .val))::[(47,(et,(oI++[[.int .i64 (e.1:Int),.int .i64 (y:Int),.bool s4,.slice p4 n4 c4,.bool t4,.slice y4 m4 d4]]:List (List Value)).flatten.map AV.val++eG))]) wb:=fun v8 wb kb Jg=>
       ⟨fv,_,_,_,_,fO,ak,m' - ai e.2 m',s' + ai e.2 m',done++[(e.1,y,ai e.2 m')],v8,_,_,_,_,_,_,_,_,_,_,_,_,_,_,_,_,_,_,rfl,rfl,rfl,hO9.kp (aM B) (by (with_reducible (repeat (first | assumption | exact kU _ | exact kR _ | exact Kp.of (U:=UU) (by assumption) | exact aE.of (by assumption) | refine kT ?_ (by assumption))))),xC.k,xD.k,lC.sub pw,Jf.add pw,CC,EO,xB,fun p hp=>zL p (by simp [hp]),eU,eL,by rw [eS];grind,Jg,by simp at iV ⊢;split <;> omega,.inr ⟨_,_,_,_,rfl,rfl,xS.kp (by (with_reducible (repeat (first | assumption | exact kU _ | exact kR _ | exact Kp.of (U:=UU) (by assumption) | exact aE.of (by assumption) | refine kT ?_ (by assumption)))))⟩⟩
      have hlt:2 * fv.length + (if 0 < m' - ai e.2 m' then 1 else 0) < 2 * (e::fv).length + (if 0 < m' then 1 else 0):=by
       rw [if_pos hm,List.length_cons];split <;> omega
      by_cases sP:n' - 1=0
      ·refine VO.cZ (x:=.row 155 (if c'=1 then aR else aR + 5) (n' - 1) (c' - 1)) (p:=fun _=>none) (c:=c' - 1) rfl (fun β=>.inr ⟨_,congrArg (fun n=>Value.slice (some ⟨β 155,(if c'=1 then aR else aR + 5),none⟩) n (c' - 1)) sP⟩) rfl (fk Tryz.func75) rfl (fun wb Jh Mj=>wV rfl ?_)
       (repeat first|refine wN ?_|refine wP rfl ?_|refine af rfl ?_|refine ag rfl ?_|refine wO rfl rfl ?_)
       refine VS.back _ hlt ⟨_,_,?_,?_,?_,?_,jh _ wb (by (with_reducible (repeat (first | assumption | exact kU _ | exact kR _ | exact Kp.of (U:=UU) (by assumption) | exact aE.of (by assumption) | refine kT ?_ (by assumption))))) (.inl ⟨sP,rfl⟩)⟩
       ·(repeat first|exact trivial|refine ⟨rfl,?_⟩)
       ·exact ⟨rfl,congrArg (fun l=>some (cO,l)) (dM _ _ _ _),rfl,rfl,rfl,congrArg (fun l=>some (et,l++eG)) (by simp),trivial⟩
       ·rfl
       ·exact ⟨.lit rfl,.vals _,.vals _,.vals _,.vals _,.append (.vals _) (.none dy),trivial⟩
      ·refine VO.cI rfl rfl (fk Tryz.func75) rfl sP (by intro h;cases h) (fun wb Jh Mj=>wV rfl ?_)
       (repeat first|refine wN ?_|refine wP rfl ?_|refine af rfl ?_|refine ag rfl ?_|refine wO rfl rfl ?_)
       refine VS.back _ hlt ⟨_,_,?_,?_,?_,?_,jh _ wb (by (with_reducible (repeat (first | assumption | exact kU _ | exact kR _ | exact Kp.of (U:=UU) (by assumption) | exact aE.of (by assumption) | refine kT ?_ (by assumption))))) (.inr ⟨sP,rfl⟩)⟩
       ·(repeat first|exact trivial|refine ⟨rfl,?_⟩)
       ·exact ⟨rfl,congrArg (fun l=>some (cO,l)) (dM _ _ _ _),rfl,rfl,rfl,congrArg (fun l=>some (et,l++eG)) (by simp),trivial⟩
       ·rfl
       ·exact ⟨.lit rfl,.vals _,.vals _,.vals _,.vals _,.append (.vals _) (.none dy),trivial⟩
     ·have qP:(jD == 0)=false:=by rw [←jE,beq_eq_false_iff_ne];exact vJ hz
      refine VS.bu rfl qP ?_
      (repeat first|refine wN ?_|refine wP rfl ?_|refine af rfl ?_|refine ag rfl ?_|refine wO rfl rfl ?_)
      obtain ⟨e0,e1,e2,e3⟩:=fM (y:=y) (p:=e) (q:=fv) hm hz
      refine VO.cI rfl rfl (fk Tryz.func75) rfl lH (by intro h;cases h) (fun wb Jh Mj=>wV rfl ?_)
      (repeat first|refine wN ?_|refine wP rfl ?_|refine af rfl ?_|refine ag rfl ?_|refine wO rfl rfl ?_)
      refine VS.back (2 * (e::fv).length + 0) (by rw [if_pos hm];omega) ⟨_,_,?_,?_,?_,?_,⟨(e.1,e.2 - ai e.2 m')::fv,aR,n',c',bL,[.int .i64 (e.1:Int),.bool s7,.slice p7 n7 c7,.bool t7,.slice y7 m7 d7]::fO,ak,m' - ai e.2 m',s' + ai e.2 m',done++[(e.1,y,ai e.2 m')],.kx 155 aR,_,_,_,_,_,_,_,_,_,_,_,_,_,_,_,_,_,_,by rw [if_neg e0];rfl,rfl,rfl,⟨qG,.inl iP,Je,.cons ((aM B).kp hE7 (by (with_reducible (repeat (first | assumption | exact kU _ | exact kR _ | exact Kp.of (U:=UU) (by assumption) | exact aE.of (by assumption) | refine kT ?_ (by assumption)))))) (Mi.kp (aM B) (by (with_reducible (repeat (first | assumption | exact kU _ | exact kR _ | exact Kp.of (U:=UU) (by assumption) | exact aE.of (by assumption) | refine kT ?_ (by assumption)))))),yW,uP,uL,by simpa using sO⟩,xC.k,xD.k,lC.sub pw,Jf.add pw,CC,EO,xB,fun p hp=> ?_,?_,?_,?_,.inr ⟨lH,rfl⟩,?_,.inr ⟨_,_,_,_,rfl,rfl,xS.kp (by (with_reducible (repeat (first | assumption | exact kU _ | exact kR _ | exact Kp.of (U:=UU) (by assumption) | exact aE.of (by assumption) | refine kT ?_ (by assumption)))))⟩⟩⟩
      ·(repeat first|exact trivial|refine ⟨rfl,?_⟩)
      ·exact ⟨rfl,rfl,rfl,rfl,rfl,congrArg (fun l=>some (et,l++eG)) (by simp),trivial⟩
      ·rfl
      ·exact ⟨.lit rfl,.vals _,.vals _,.vals _,.vals _,.append (.vals _) (.none dy),trivial⟩
      ·rcases List.mem_cons.1 hp with rfl | hp
       ·exact ⟨Mh,xV,Mg⟩
       ·exact zL p (by simp [hp])
      ·rw [eU,e1,gw y _ e0,List.append_nil]
      ·rw [eL,e2,fK _ e0]
      ·rw [eS,e3,gz _ e0];grind
      ·rw [if_neg e0];simp at iV ⊢;omega
    ·have jk:¬ sg > 0:=by rw [←jn];exact fun h=>hm (ff.1 h)
     refine VS.bu rfl (decide_eq_false jk) ?_
     have fU:=gw y (e::fv) hm
     have fL:=fK (e::fv) hm
     have fS:=gz (e::fv) hm
     (repeat first|refine wN ?_|refine wP rfl ?_|refine af rfl ?_|refine ag rfl ?_|refine wO rfl rfl ?_)
     refine VS.oy (bk _ _) rfl (fun wz β kz oz en=> ?_)
     obtain ⟨o1,o2⟩:=eb (en.own 154 _ _ rfl) 0 g rfl rfl
     obtain ⟨o3,o4⟩:=eb (en.own 155 _ _ rfl) 1 b rfl rfl
     rw [ah] at o4
     replace o3:β 155=b:=o3
     rw [fU] at eU
     rw [fL] at eL
     rw [fS,show s' + 0=s' by grind] at eS
     have o5:=(en.own 47 _ _ rfl).new
     have o6:=(en.own 47 _ _ rfl).cls
     rw [List.map_append,ah] at o6
     have n1':β 47≠g:=fun e=>absurd (en.apart 154 47 (by intro h;cases h) (by intro h;cases h) (o1.trans e.symm)) (by decide)
     have n2':β 47≠b:=fun e=>absurd (en.apart 155 47 (by intro h;cases h) (by intro h;cases h) (o3.trans e.symm)) (by decide)
     have o7:w.heap.size≤β 47∨β 47=ub:=by
      have:=eO (show cB 77 [g,b,ub] w 47 (β 47) from o5)
      simpa [n1',n2'] using this
     refine ⟨_,rfl,?_,oz.1,oz.2 ub (by simp),aR,n',c',bL,_,ak,.slice (some ⟨β 47,0,none⟩) un uc,?_,o4,?_,⟨β 47,un,uc,oI,qL.map (AV.leaf β),o7,rfl,o6,?_⟩⟩
     ·rw [eS];exact uD.k
     ·rw [←o3];exact o2
     ·rw [eL];exact gI.kp (aM B) (by (with_reducible (repeat (first | assumption | exact kU _ | exact kR _ | exact Kp.of (U:=UU) (by assumption) | exact aE.of (by assumption) | refine kT ?_ (by assumption)))))
     ·rw [eU,List.append_nil];exact (tG.kp (by (with_reducible (repeat (first | assumption | exact kU _ | exact kR _ | exact Kp.of (U:=UU) (by assumption) | exact aE.of (by assumption) | refine kT ?_ (by assumption)))))).o β
end Go.Proofs.YtabalinjfgcfeaaGreat
set_option maxRecDepth 4000
namespace Go.Proofs.YtabalinjfgcfeaaGreat
open Go.RowKit
attribute [local irreducible] aB VS
theorem Ml {v off n c:Nat} {a y:AV} (h:aH a=true) (hy:aH y=true):[.row v off n c,a,y].all aH=true:=by
 rw [List.all_cons,List.all_cons,List.all_cons,h,hy];rfl
theorem xE {v off n c j:Nat} {a y:AV} (h:j∈ax [.row v off n c,a,y]):j=v∨j∈ax [a]∨j∈y.cL:=by
 obtain ⟨z,hz,hj⟩:=aQ.1 h
 simp only [List.mem_cons,List.not_mem_nil,or_false] at hz
 rcases hz with rfl | rfl | rfl
 ·exact .inl (by simpa [AV.cL] using hj)
 ·exact .inr (.inl (aQ.2 ⟨_,by simp,hj⟩))
 ·exact .inr (.inr hj)
theorem Az {C:Cx} {β bG:Nat→Nat} {H:Hp} {ids:List Nat} {del:Option Nat} {ups:List (Nat×(TypeId×List AV))} {ad:List Nat} {w w':World} (hb:qA ad w w') (had:∀ b∈ad,(∃ x∈ups,bG x.1=b)∨∃ i,del=some i∧β i=b) (Gk:∀ i,i∉ups.map (·.1)→bG i=β i) (gone:∀ i,del=some i→Reach H ids i∧H i≠none)
  (left:∀ i,del=some i→∃ t cs,aW w' (β i) t (List.toArray cs)∧C.K.fz t=false∧cs.all aU=true) (own:∀ x∈ups,lQ C bG w' x.1 x.2.1 x.2.2)
  (Ih:∀ x∈ups,(H x.1≠none∧del≠some x.1∧Reach H ids x.1∧bG x.1=β x.1)∨((H x.1=none∨del=some x.1)∧x.1 < 2 * C.N∧(w.heap.size≤bG x.1∨∃ i,del=some i∧bG x.1=β i)))
  (once:(ups.map (·.1)).Nodup) (tys:(ups.map (·.2.1)).Nodup) (closed:∀ x∈ups,∀ j∈ax x.2.2,j∈ups.map (·.1)∨(H j≠none∧del≠some j)):wE C β bG H ids del ups w w':=by
 refine ⟨hb.os,hb.tape,hb.output,hb.size,fun k hk hx iV _=>hb.nh k hk fun hm=> ?_,Gk,gone,fun i hi=>.inl (.inr (left i hi)),own,Ih,once,fun x hx y hy he=> ?_,closed⟩
 ·rcases had k hm with ⟨x,hx',e⟩ | ⟨i,hi,e⟩
  ·exact hx x hx' e.symm
  ·exact iV i hi e.symm
 ·have ht:x.2.1=y.2.1:=bo (own x hx).cls (he▸(own y hy).cls)
  obtain ⟨i,hi⟩:=List.mem_iff_getElem?.1 hx
  obtain ⟨j,hj⟩:=List.mem_iff_getElem?.1 hy
  have e1:(ups.map (·.2.1))[i]? =some x.2.1:=by rw [List.getElem?_map,hi];rfl
  have e2:(ups.map (·.2.1))[j]? =some x.2.1:=by rw [List.getElem?_map,hj,ht];rfl
  have:=(List.getElem?_inj (by rw [List.length_map];exact (List.getElem?_eq_some_iff.1 hi).1) tys).1 (e1.trans e2.symm)
  subst this
  rw [hi] at hj
  cases hj;rfl
theorem Ji (g y kk:Nat) (r u v:Value) (m:Rat) (w:World) (hg:aW w g Runner #[.slice none 0 0,r,u]) (hv:cQ w v m):
  Calls Tryz.prog 73 #[.pointer (some ⟨g,0,none⟩),.int .i64 (y:Int),v] w fun o w'=>∃ x,o=.returned x∧aK w' w.heap.size x 0∧aj w w':=by
 obtain ⟨s0,p0,n0,c0,t0,y0,m0,d0,rfl⟩:=hv.form
 refine aw (C:=cj Tryz.prog w _) (args:=[_,_,_]) Tryz.func73 rfl Tryz.ntmps73 (Nat.le_of_ble_eq_true rfl) ?_
 (repeat first|refine wN ?_|refine wP rfl ?_|refine aa rfl ?_|refine ab rfl ?_|refine wO rfl rfl ?_)
 refine VO.call rfl rfl (fk Tryz.func44) (fun cC er dv=>((bF 0 cC (by omega) (by omega)).mono (fun o w2 h=>And.intro h dv.size)).mono ?_)
 rintro o w1 ⟨⟨r9,rfl,q9,Gf⟩,Fx⟩
 obtain ⟨s9,p9,n9,c9,t9,y9,m9,d9,rfl⟩:=q9.form
 refine ⟨_,rfl,Gf,fun Ba _ bb9=>wV rfl ?_⟩
 (repeat first|refine wN ?_|refine wP rfl ?_|refine aa rfl ?_|refine ab rfl ?_|refine wO rfl rfl ?_)
 have q9':aK w1 w.heap.size (.agg #[.bool s9,.slice p9 n9 c9,.bool t9,.slice y9 m9 d9]) 0:=q9.mono Fx
 refine VO.call rfl rfl (fk Tryz.func75) (fun dC gu eu=>(uC g 0 none r u dC (hg.bj eu)).mono ?_)
 rintro e w2 ⟨rfl,bm⟩
 skip
 refine ⟨_,rfl,bm,fun fZ _ bb2=>wV rfl ?_⟩
 (repeat first|refine wN ?_|refine wP rfl ?_|refine aa rfl ?_|refine ab rfl ?_|refine wO rfl rfl ?_)
 refine VS.loop (J:=fun m L M w'=>L=[(1,.val (.int .i64 (y:Int))),(5,.box 5 0),(6,.box 6 0),(7,.box 7 0),(8,.val (.pointer none))]∧M=[(5,(26,([.bool s0,.slice p0 n0 c0,.bool t0,.slice y0 m0 d0]:List Value).map .val)),(6,(26,([.bool false,.slice none 0 0,.bool false,.slice none 0 0]:List Value).map .val)),(7,(26,([.bool s9,.slice p9 n9 c9,.bool t9,.slice y9 m9 d9]:List Value).map .val))]∧aK w' w.heap.size (.agg #[.bool s9,.slice p9 n9 c9,.bool t9,.slice y9 m9 d9]) 0) 0 ⟨_,_,?_,?_,?_,?_,⟨rfl,rfl,q9'.k⟩⟩ ?_
 ·(repeat first|exact trivial|refine ⟨rfl,?_⟩)
 ·(repeat first|exact trivial|refine ⟨rfl,?_⟩)
 ·rfl
 ·(repeat first|exact trivial|refine ⟨aF.lit rfl,?_⟩|refine ⟨aF.vals _,?_⟩)
 rintro m' L M w3 ⟨rfl,rfl,hr3⟩
 (repeat first|refine wN ?_|refine wP rfl ?_|refine aa rfl ?_|refine ab rfl ?_|refine wO rfl rfl ?_)
 refine VS.ret (aL _ _) rfl rfl (fun wz kz bz=> ?_)
 exact ⟨_,rfl,hr3.k,bz⟩
end Go.Proofs.YtabalinjfgcfeaaGreat
namespace Go.Proofs.YtabalinjfgcfeaaGreat
open Go.RowKit
section
variable {C:Cx} {F:Fr} {H:Hp} {w:World} {m:Option (List FuncId)} {full:Array Oper} {K:Fr→Hp→World→Prop} {o:Oper} {r:List Oper}
theorem VO.sm {B i y:Nat} {a u:AV} {val:Value} {mm:Rat} (kk:Nat) (hP:C.P=Tryz.prog) (e:stepOf C full F H o=.call (.fn 73 [.box i 0,.val (.int .i64 (y:Int)),.val val])) (hf:od C.P 73) (h1:H i=some (Runner,[.val (.slice none 0 0),a,u])) (hv:∀ w1,aE C.K w w1→C.Old w1→cQ w1 val mm) (hB:B≤C.w0.heap.size)
  (k:∀ w2 x,aE C.K w w2→C.Old w2→aK w2 B x 0→aB C m full r K (F.bD o.dst (.val x)) H w2):aB C m full (o::r) K F H w:=by
 refine VO.fI e hf fun w1 β a1 a2 a3=> ?_
 have o1:=a3.own i (.base (by simp [fy,AV.ids])) _ _ h1
 refine Calls.mono (show Calls C.P _ #[.pointer (some ⟨β i,0,none⟩),.int .i64 (y:Int),val] w1 _ from hP▸Ji (β i) y kk _ _ val mm w1 o1.cls (hv w1 a1 a2)) ?_
 rintro e w2 ⟨x,rfl,hx,hb⟩
 exact ⟨_,rfl,hb,fun b1 b2 b3=>k w2 x b1 b3 (hx.mono (Nat.le_trans hB (C.ey _ a2)))⟩
theorem VO.Di {B D i v d2 off n c y:Nat} {M mm:Rat} {a:AV} {pre spare:List Value} {vs:List (List Value)} {q:List Vq} {val:Value} (kk:Nat) (hP:C.P=Tryz.prog) (hK:C.K=KU UU)
  (e:stepOf C full F H o=.call (.fn 73 [.box i 0,.val (.int .i64 (y:Int)),.val val])) (hf:od C.P 73) (h1:H i=some (Runner,[.row v off n c,a,.val (.slice none 0 0)])) (h2:H v=some (cO,(pre++(vs.flatten++spare)).map .val)) (h3:H d2=none) (hd2:d2 < 2 * C.N) (hiv:i≠v) (haok:aH a=true) (Mn:∀ β:Nat→Nat,aU (a.leaf β)=true)
  (gr:∀ j∈ax [a],H j≠none) (hl:1≤lvl C.SU m o) (hO:∀ w1,aE C.K w w1→C.Old w1→cY (cH B) 5 w1 n off c pre vs spare q) (hv:∀ w1,aE C.K w w1→C.Old w1→cQ w1 val mm) (hmI:Iz D mm) (yp:0≤mm) (hmM:mm≤M) (hq:∀ p∈q,Iz D p.2∧0≤p.2∧p.2≤M)
  (hKs:∀ x,Iz D x→0≤x→x≤M→dV x kk) (hk:kk≤100000) (jv:q.length≤1000) (hB:B≤C.w0.heap.size)
  (k1:∀ w2 x aR n' c' bL gE ak,aE C.K w w2→C.Old w2→aK w2 B x (qW q mm)→nH y q mm=[]→cY (cH B) 5 w2 n' aR c' bL gE ak (kW q mm)→
   aB C m full r K (F.bD o.dst (.val x)) ((H.put i (Runner,[.row v aR n' c',a,.val (.slice none 0 0)])).put v (cO,(bL++(gE.flatten++ak)).map .val)) w2)
  (k2:∀ w2 x aR n' c' bL gE ak un uc oI qL,aE C.K w w2→C.Old w2→aK w2 B x (qW q mm)→cY (cH B) 5 w2 n' aR c' bL gE ak (kW q mm)→cY (np B) 6 w2 un 0 uc [] oI qL (nH y q mm)→
   aB C m full r K (F.bD o.dst (.val x)) (((H.put i (Runner,[.row v aR n' c',a,.row d2 0 un uc])).put v (cO,(bL++(gE.flatten++ak)).map .val)).put d2 (et,(oI.flatten++qL).map .val)) w2):aB C m full (o::r) K F H w:=by
 show one C m full o (aB C m full r K) F H w
 unfold one
 rw [e]
 intro w1 β a1 a2 a3
 have iD:Reach H (eg.fn 73 [.box i 0,.val (.int .i64 (y:Int)),.val val]).ids i:=.base (by simp [eg.ids,fy,AV.ids])
 have jw:Reach H (eg.fn 73 [.box i 0,.val (.int .i64 (y:Int)),.val val]).ids v:=.step iD h1 (by simp [ax,AV.cL])
 have o1:=a3.own i iD _ _ h1
 have o2:=a3.own v jw _ _ h2
 have gm:aW w1 (β v) cO (pre++(vs.flatten++spare)).toArray:=by have:=o2.cls;rw [ah] at this;exact this
 have hBw:B≤w1.heap.size:=Nat.le_trans hB (C.ey _ a2)
 have hne:∀ j,H j≠none→j≠d2:=fun j hj e=>hj (e▸h3)
 have hid:i≠d2:=hne i (by rw [h1];simp)
 have GO:v≠d2:=hne v (by rw [h2];simp)
 refine ⟨hf,Calls.mono (show Calls C.P _ #[.pointer (some ⟨β i,0,none⟩),.int .i64 (y:Int),val] w1 _ from hP▸Me B (β i) (β v) off n c y D kk M mm pre vs spare q (a.leaf β) val w1 o1.cls gm (hO w1 a1 a2) (Mn β) (hv w1 a1 a2) hmI yp hmM hq hKs hk jv hBw) ?_⟩
 rintro e w2 ⟨x,rfl,hx,hb,aR,n',c',bL,gE,ak,uv,JN,xR,gI,⟨rfl,Hm⟩ | ⟨b',un,uc,oI,qL,hbn,rfl,hu',tG⟩⟩
 ·refine ⟨β,.val x,none,[(i,(Runner,[.row v aR n' c',a,.val (.slice none 0 0)])),(v,(cO,(bL++(gE.flatten++ak)).map .val))],rfl,fun i hi=>(by cases hi),.inl hl,.inr rfl,?_,fun p1 _ p3 _ _=>k1 w2 x aR n' c' bL gE ak p1 p3 (hx.mono hBw) Hm gI⟩
  refine Az hb (fun b xR=> ?_) (fun _ _=>rfl) (fun i hi=>(by cases hi)) (fun i hi=>(by cases hi)) (fun x hx=> ?_) (fun x hx=> ?_) (by simpa using hiv) (by show [Runner,cO].Nodup;decide) (fun x hx j hj=> ?_)
  ·simp only [List.mem_cons,List.not_mem_nil,or_false] at xR
   rcases xR with rfl | rfl
   ·exact .inl ⟨_,List.mem_cons_self,rfl⟩
   ·exact .inl ⟨_,List.mem_cons_of_mem _ List.mem_cons_self,rfl⟩
  ·simp only [List.mem_cons,List.not_mem_nil,or_false] at hx
   rcases hx with rfl | rfl
   ·exact ⟨o1.new,o1.ty,JN,Ml haok rfl⟩
   ·exact ⟨o2.new,o2.ty,by rw [ah];exact xR,bb (gI.all (aM B))⟩
  ·simp only [List.mem_cons,List.not_mem_nil,or_false] at hx
   rcases hx with rfl | rfl
   ·exact .inl ⟨by rw [h1];simp,by simp,iD,rfl⟩
   ·exact .inl ⟨by rw [h2];simp,by simp,jw,rfl⟩
  ·simp only [List.mem_cons,List.not_mem_nil,or_false] at hx
   rcases hx with rfl | rfl
   ·rcases xE hj with h | h | h
    ·exact .inl (by simp [h])
    ·exact .inr ⟨gr j h,by simp⟩
    ·cases h
   ·rw [ao] at hj;cases hj
 ·let bG:Nat→Nat:=fun j=>if j=d2 then b' else β j
  have e2:bG d2=b':=if_pos rfl
  have e1:∀ j,j≠d2→bG j=β j:=fun j hj=>if_neg hj
  have hag:a.leaf bG=a.leaf β:=AV.mA fun j hj=>e1 j (hne j (gr j (aQ.2 ⟨a,by simp,hj⟩)))
  refine ⟨bG,.val x,none,[(i,(Runner,[.row v aR n' c',a,.row d2 0 un uc])),(v,(cO,(bL++(gE.flatten++ak)).map .val)),(d2,(et,(oI.flatten++qL).map .val))],rfl,fun i hi=>(by cases hi),.inl (by omega),.inr rfl,?_,fun p1 _ p3 ρ _=>k2 w2 x aR n' c' bL gE ak un uc oI qL p1 p3 (hx.mono hBw) gI tG⟩
  refine Az hb (fun b xR=> ?_) (fun j hj=>e1 j (fun h=>hj (by simp [h]))) (fun i hi=>(by cases hi)) (fun i hi=>(by cases hi)) (fun x hx=> ?_) (fun x hx=> ?_) (by simp [hiv,hid,GO]) (by show [Runner,cO,et].Nodup;decide) (fun x hx j hj=> ?_)
  ·simp only [List.mem_cons,List.not_mem_nil,or_false] at xR
   rcases xR with rfl | rfl
   ·exact .inl ⟨_,List.mem_cons_self,e1 i hid⟩
   ·exact .inl ⟨_,List.mem_cons_of_mem _ List.mem_cons_self,e1 v GO⟩
  ·simp only [List.mem_cons,List.not_mem_nil,or_false] at hx
   rcases hx with rfl | rfl | rfl
   ·refine ⟨by rw [e1 i hid];exact o1.new,o1.ty,?_,Ml haok rfl⟩
    rw [e1 i hid]
    show aW w2 (β i) Runner #[.slice (some ⟨bG v,aR,none⟩) n' c',a.leaf bG,.slice (some ⟨bG d2,0,none⟩) un uc]
    rw [e1 v GO,e2,hag]
    exact JN
   ·exact ⟨by rw [e1 v GO];exact o2.new,o2.ty,by rw [e1 v GO,ah];exact xR,bb (gI.all (aM B))⟩
   ·refine ⟨?_,by rw [hK];rfl,by rw [e2,ah];exact hu',bb (by have:=tG.all (dm B);exact this)⟩
    rw [e2]
    exact C.rE _ _ (by omega) (by have:=C.ey _ a2;omega)
  ·simp only [List.mem_cons,List.not_mem_nil,or_false] at hx
   rcases hx with rfl | rfl | rfl
   ·exact .inl ⟨by rw [h1];simp,by simp,iD,e1 i hid⟩
   ·exact .inl ⟨by rw [h2];simp,by simp,jw,e1 v GO⟩
   ·exact .inr ⟨.inl h3,hd2,.inl (by rw [e2];exact hbn)⟩
  ·simp only [List.mem_cons,List.not_mem_nil,or_false] at hx
   rcases hx with rfl | rfl | rfl
   ·rcases xE hj with h | h | h
    ·exact .inl (by simp [h])
    ·exact .inr ⟨gr j h,by simp⟩
    ·exact .inl (by have:j=d2:=by simpa [AV.cL] using h
      simp [this])
   ·rw [ao] at hj;cases hj
   ·rw [ao] at hj;cases hj
theorem VO.Dj {B D i v d2 off n c y:Nat} {M mm:Rat} {a:AV} {pre spare:List Value} {vs:List (List Value)} {q:List Vq} {val:Value} {u yq Ax:Nat} {me:List (List Value)} {nt:List Value} {us0:List Uq} (kk:Nat) (hP:C.P=Tryz.prog) (hK:C.K=KU UU)
  (e:stepOf C full F H o=.call (.fn 73 [.box i 0,.val (.int .i64 (y:Int)),.val val])) (hf:od C.P 73) (h1:H i=some (Runner,[.row v off n c,a,.row u 0 yq Ax])) (h2:H v=some (cO,(pre++(vs.flatten++spare)).map .val)) (h4:H u=some (et,(me.flatten++nt).map .val)) (JO:∀ w1,aE C.K w w1→C.Old w1→cY (np B) 6 w1 yq 0 Ax [] me nt us0) (Ay:us0.length≤1000) (hiu:i≠u) (hvu:v≠u) (h3:H d2=none) (hd2:d2 < 2 * C.N) (hiv:i≠v) (haok:aH a=true) (Mn:∀ β:Nat→Nat,aU (a.leaf β)=true)
  (gr:∀ j∈ax [a],H j≠none∧j≠u) (hl:lvl C.SU m o=2) (hO:∀ w1,aE C.K w w1→C.Old w1→cY (cH B) 5 w1 n off c pre vs spare q) (hv:∀ w1,aE C.K w w1→C.Old w1→cQ w1 val mm) (hmI:Iz D mm) (yp:0≤mm) (hmM:mm≤M) (hq:∀ p∈q,Iz D p.2∧0≤p.2∧p.2≤M)
  (hKs:∀ x,Iz D x→0≤x→x≤M→dV x kk) (hk:kk≤100000) (jv:q.length≤1000) (hB:B≤C.w0.heap.size)
  (k2:∀ w2 x aR n' c' bL gE ak un uc oI qL ρ,aE C.K w w2→C.Old w2→aK w2 B x (qW q mm)→cY (cH B) 5 w2 n' aR c' bL gE ak (kW q mm)→cY (np B) 6 w2 un 0 uc [] oI qL (us0++nH y q mm)→
   aB C m full r K ((F.forget (some u) ρ).bD o.dst (.val x)) ((((H.forget (some u) ρ).put i (Runner,[.row v aR n' c',a,.row d2 0 un uc])).put v (cO,(bL++(gE.flatten++ak)).map .val)).put d2 (et,(oI.flatten++qL).map .val)) w2):aB C m full (o::r) K F H w:=by
 show one C m full o (aB C m full r K) F H w
 unfold one
 rw [e]
 intro w1 β a1 a2 a3
 have iD:Reach H (eg.fn 73 [.box i 0,.val (.int .i64 (y:Int)),.val val]).ids i:=.base (by simp [eg.ids,fy,AV.ids])
 have jw:Reach H (eg.fn 73 [.box i 0,.val (.int .i64 (y:Int)),.val val]).ids v:=.step iD h1 (by simp [ax,AV.cL])
 have o1:=a3.own i iD _ _ h1
 have o2:=a3.own v jw _ _ h2
 have gm:aW w1 (β v) cO (pre++(vs.flatten++spare)).toArray:=by have:=o2.cls;rw [ah] at this;exact this
 have hBw:B≤w1.heap.size:=Nat.le_trans hB (C.ey _ a2)
 have hne:∀ j,H j≠none→j≠d2:=fun j hj e=>hj (e▸h3)
 have hid:i≠d2:=hne i (by rw [h1];simp)
 have GO:v≠d2:=hne v (by rw [h2];simp)
 have hr4:Reach H (eg.fn 73 [.box i 0,.val (.int .i64 (y:Int)),.val val]).ids u:=.step iD h1 (by simp [ax,AV.cL])
 have o4:=a3.own u hr4 _ _ h4
 have uM:aW w1 (β u) et (me.flatten++nt).toArray:=by have:=o4.cls;rw [ah] at this;exact this
 have hud:u≠d2:=hne u (by rw [h4];simp)
 refine ⟨hf,Calls.mono (show Calls C.P _ #[.pointer (some ⟨β i,0,none⟩),.int .i64 (y:Int),val] w1 _ from hP▸Mk B (β i) (β v) off n c y D kk M mm pre vs spare q (a.leaf β) val (β u) yq Ax me nt us0 w1 o1.cls uM (JO w1 a1 a2) Ay gm (hO w1 a1 a2) (Mn β) (hv w1 a1 a2) hmI yp hmM hq hKs hk jv hBw) ?_⟩
 rintro e w2 ⟨x,rfl,hx,hb,⟨tl,cl,l1,l2,l3⟩,aR,n',c',bL,gE,ak,uv,JN,xR,gI,b',un,uc,oI,qL,hbn,rfl,hu',tG⟩
 ·let bG:Nat→Nat:=fun j=>if j=d2 then b' else β j
  have e2:bG d2=b':=if_pos rfl
  have e1:∀ j,j≠d2→bG j=β j:=fun j hj=>if_neg hj
  have hag:a.leaf bG=a.leaf β:=AV.mA fun j hj=>e1 j (hne j ((gr j (aQ.2 ⟨a,by simp,hj⟩)).1))
  refine ⟨bG,.val x,some u,[(i,(Runner,[.row v aR n' c',a,.row d2 0 un uc])),(v,(cO,(bL++(gE.flatten++ak)).map .val)),(d2,(et,(oI.flatten++qL).map .val))],rfl,fun i hi=>(by cases hi),.inl (by omega),.inl (by omega),?_,fun p1 _ p3 ρ _=>k2 w2 x aR n' c' bL gE ak un uc oI qL ρ p1 p3 (hx.mono hBw) gI tG⟩
  refine Az hb (fun b xR=> ?_) (fun j hj=>e1 j (fun h=>hj (by simp [h]))) (fun j hj=>by cases hj;exact ⟨hr4,by rw [h4];simp⟩) (fun j hj=>by cases hj;exact ⟨tl,cl,l1,by rw [hK];exact l2,l3⟩) (fun x hx=> ?_) (fun x hx=> ?_) (by simp [hiv,hid,GO]) (by show [Runner,cO,et].Nodup;decide) (fun x hx j hj=> ?_)
  ·simp only [List.mem_cons,List.not_mem_nil,or_false] at xR
   rcases xR with rfl | rfl | rfl
   ·exact .inl ⟨_,List.mem_cons_self,e1 i hid⟩
   ·exact .inl ⟨_,List.mem_cons_of_mem _ List.mem_cons_self,e1 v GO⟩
   ·exact .inr ⟨u,rfl,rfl⟩
  ·simp only [List.mem_cons,List.not_mem_nil,or_false] at hx
   rcases hx with rfl | rfl | rfl
   ·refine ⟨by rw [e1 i hid];exact o1.new,o1.ty,?_,Ml haok rfl⟩
    rw [e1 i hid]
    show aW w2 (β i) Runner #[.slice (some ⟨bG v,aR,none⟩) n' c',a.leaf bG,.slice (some ⟨bG d2,0,none⟩) un uc]
    rw [e1 v GO,e2,hag]
    exact JN
   ·exact ⟨by rw [e1 v GO];exact o2.new,o2.ty,by rw [e1 v GO,ah];exact xR,bb (gI.all (aM B))⟩
   ·refine ⟨?_,by rw [hK];rfl,by rw [e2,ah];exact hu',bb (by have:=tG.all (dm B);exact this)⟩
    rw [e2]
    rcases hbn with h | h
    ·exact C.rE _ _ (by omega) (by have:=C.ey _ a2;omega)
    ·rw [h];exact C.BK u d2 _ o4.new (by omega)
  ·simp only [List.mem_cons,List.not_mem_nil,or_false] at hx
   rcases hx with rfl | rfl | rfl
   ·exact .inl ⟨by rw [h1];simp,by simpa using fun h=>hiu h.symm,iD,e1 i hid⟩
   ·exact .inl ⟨by rw [h2];simp,by simpa using fun h=>hvu h.symm,jw,e1 v GO⟩
   ·exact .inr ⟨.inl h3,hd2,hbn.imp (fun h=>by rw [e2];exact h) (fun h=>⟨u,rfl,by rw [e2];exact h⟩)⟩
  ·simp only [List.mem_cons,List.not_mem_nil,or_false] at hx
   rcases hx with rfl | rfl | rfl
   ·rcases xE hj with h | h | h
    ·exact .inl (by simp [h])
    ·exact .inr ⟨(gr j h).1,by simpa using fun h2=>(gr j h).2 h2.symm⟩
    ·exact .inl (by have:j=d2:=by simpa [AV.cL] using h
      simp [this])
   ·rw [ao] at hj;cases hj
   ·rw [ao] at hj;cases hj
end
end Go.Proofs.YtabalinjfgcfeaaGreat
set_option maxRecDepth 4000
namespace Go.Proofs.YtabalinjfgcfeaaGreat
open Go.RowKit
attribute [local irreducible] aB VS
theorem tH {D:Nat}:∀ {q:List Vq} {m:Rat},(∀ p∈q,Iz D p.2∧0≤p.2)→Iz D m→0≤m→Iz D (qW q m)∧0≤qW q m∧qW q m≤m
 | [],m,_,_,hm=>⟨Iz.zero,Rat.le_refl,hm⟩
 | p::q,m,h,hI,hm=>by
  obtain ⟨p1,p2⟩:=h p (by simp)
  have hq:∀ x∈q,Iz D x.2∧0≤x.2:=fun x hx=>h x (by simp [hx])
  have pZ:=cR p.2 m
  have lH:0≤ai p.2 m:=by rcases pZ with ⟨e,_⟩ | ⟨e,_⟩ <;> rw [e] <;> assumption
  have pw:Iz D (ai p.2 m):=by rcases pZ with ⟨e,_⟩ | ⟨e,_⟩ <;> rw [e] <;> assumption
  have vC:=cd p.2 m
  by_cases h0:0 < m
  ·by_cases hz:p.2 - ai p.2 m=0
   ·obtain ⟨_,_,e3⟩:=fN (y:=0) (p:=p) (q:=q) h0 hz
    obtain ⟨i1,i2,i3⟩:=tH (m:=m - ai p.2 m) hq (hI.sub pw) (by grind)
    rw [e3]
    exact ⟨pw.add i1,by grind,by grind⟩
   ·obtain ⟨_,_,_,e3⟩:=fM (y:=0) (p:=p) (q:=q) h0 hz
    rw [e3]
    exact ⟨pw,lH,vC⟩
  ·rw [gz _ h0]
   exact ⟨Iz.zero,Rat.le_refl,hm⟩
theorem Mo {D:Nat} {M:Rat}:∀ {q:List Vq} {m:Rat},(∀ p∈q,Iz D p.2∧0≤p.2∧p.2≤M)→Iz D m→0≤m→∀ p∈kW q m,Iz D p.2∧0≤p.2∧p.2≤M∧∃ p'∈q,p'.1=p.1
 | [],m,_,_,_,p,hp=>by cases hp
 | x::q,m,h,hI,hm,p,hp=>by
  obtain ⟨p1,p2,p3⟩:=h x (by simp)
  have hq:∀ x∈q,Iz D x.2∧0≤x.2∧x.2≤M:=fun x hx=>h x (by simp [hx])
  have pZ:=cR x.2 m
  have lH:0≤ai x.2 m:=by rcases pZ with ⟨e,_⟩ | ⟨e,_⟩ <;> rw [e] <;> assumption
  have pw:Iz D (ai x.2 m):=by rcases pZ with ⟨e,_⟩ | ⟨e,_⟩ <;> rw [e] <;> assumption
  have vC:=cd x.2 m
  have za:=di x.2 m
  by_cases h0:0 < m
  ·by_cases hz:x.2 - ai x.2 m=0
   ·obtain ⟨_,e2,_⟩:=fN (y:=0) (p:=x) (q:=q) h0 hz
    rw [e2] at hp
    obtain ⟨i1,i2,i3,p',i4,i5⟩:=Mo (m:=m - ai x.2 m) hq (hI.sub pw) (by grind) p hp
    exact ⟨i1,i2,i3,p',by simp [i4],i5⟩
   ·obtain ⟨_,_,e2,_⟩:=fM (y:=0) (p:=x) (q:=q) h0 hz
    rw [e2] at hp
    rcases List.mem_cons.1 hp with rfl | hp
    ·exact ⟨p1.sub pw,by show 0≤x.2 - ai x.2 m;grind,by show x.2 - ai x.2 m≤M;grind,x,by simp,rfl⟩
    ·obtain ⟨a,b,c⟩:=hq p hp
     exact ⟨a,b,c,p,by simp [hp],rfl⟩
  ·rw [fK _ h0] at hp
   obtain ⟨a,b,c⟩:=h p hp
   exact ⟨a,b,c,p,hp,rfl⟩
theorem xF (y:Nat):∀ (q:List Vq) (m:Rat),(nH y q m).length + (kW q m).length≤q.length + 1∧(kW q m).length≤q.length
 | [],_=>⟨Nat.zero_le _,Nat.le_refl _⟩
 | p::q,m=>by
  by_cases h0:0 < m
  ·by_cases hz:p.2 - ai p.2 m=0
   ·obtain ⟨e1,e2,_⟩:=fN (y:=y) (p:=p) (q:=q) h0 hz
    have:=xF y q (m - ai p.2 m)
    rw [e1,e2,List.length_cons,List.length_cons];omega
   ·obtain ⟨_,e1,e2,_⟩:=fM (y:=y) (p:=p) (q:=q) h0 hz
    rw [e1,e2];simp;omega
  ·rw [gw y _ h0,fK _ h0];simp
structure xG (D:Nat) (M:Rat) (s:Dd):Prop where
 el:∀ p∈s.q,Iz D p.2∧0≤p.2∧p.2≤M + M∧p.1 < s.rows.length
 len:s.uses.length + s.q.length≤2 * s.rows.length
theorem exp_len (keep n:Nat) (s:Dd):(rZ keep n s).rows.length=s.rows.length∧(rZ keep n s).uses=s.uses∧(rZ keep n s).q.length≤s.q.length∧∀ p∈(rZ keep n s).q,p∈s.q:=by
 unfold rZ
 split
 ·rename_i p q hq
  split
  ·exact ⟨List.length_modify ..,rfl,by rw [hq];simp,fun x hx=>by rw [hq];exact List.mem_cons_of_mem _ hx⟩
  ·exact ⟨rfl,rfl,Nat.le_refl _,fun x hx=>hx⟩
 ·exact ⟨rfl,rfl,Nat.le_refl _,fun x hx=>hx⟩
theorem sn {D:Nat} {M L x:Rat} (hL:Iz D L) (hL0:0≤L) (DZ:L≤M) (hx:Iz D x) (gL: -M≤x) (Ea:x≤M):
  Iz D (ai x L)∧-M≤ai x L∧ai x L≤M∧Iz D (x - ai x L)∧0≤x - ai x L∧x - ai x L≤M + M∧Iz D (L - ai x L)∧0≤L - ai x L∧L - ai x L≤M + M:=by
 rcases cR x L with ⟨e,h⟩ | ⟨e,h⟩ <;> rw [e]
 ·exact ⟨hx,gL,Ea,hx.sub hx,by grind,by grind,hL.sub hx,by grind,by grind⟩
 ·exact ⟨hL,by grind,DZ,hx.sub hL,by grind,by grind,hL.sub hL,by grind,by grind⟩
theorem GP {D:Nat} {M S F:Rat} {keep:Nat} {s:Dd} {e:Rat×Rat} (h:xG D M s) (hL:Iz D (aD S F e.2)) (DZ:aD S F e.2≤M) (hx:Iz D e.1) (gL: -M≤e.1) (Ea:e.1≤M):xG D M (dk S F keep s.rows.length s e)∧(dk S F keep s.rows.length s e).rows.length=s.rows.length + 1:=by
 obtain ⟨g1,g2,g3,g4,g5,g6,g7,g8,g9⟩:=sn hL (mK S F e.2) DZ hx gL Ea
 unfold dk
 obtain ⟨e1,e2,e3,e4⟩:=exp_len keep s.rows.length ⟨kA s.rows.length (dD S F s.q e).bl (kW s.q (aD S F e.2 - ai e.1 (aD S F e.2))),s.rows++[dD S F s.q e],s.uses++nH s.rows.length s.q (aD S F e.2 - ai e.1 (aD S F e.2))⟩
 obtain ⟨u1,u2⟩:=xF s.rows.length s.q (aD S F e.2 - ai e.1 (aD S F e.2))
 have hl:(s.rows++[dD S F s.q e]).length=s.rows.length + 1:=by rw [List.length_append];rfl
 have hput:(kA s.rows.length (dD S F s.q e).bl (kW s.q (aD S F e.2 - ai e.1 (aD S F e.2)))).length≤(kW s.q (aD S F e.2 - ai e.1 (aD S F e.2))).length + 1:=by
  unfold kA;split
  ·rw [List.length_append];exact Nat.le_refl _
  ·omega
 refine ⟨⟨fun p hp=> ?_,?_⟩,by rw [e1];exact hl⟩
 ·rw [e1,hl]
  have hp':=e4 p hp
  have key:p∈kW s.q (aD S F e.2 - ai e.1 (aD S F e.2))∨p=(s.rows.length,e.1 - ai e.1 (aD S F e.2)):=by
   unfold kA at hp'
   dsimp only at hp'
   split at hp'
   ·rcases List.mem_append.1 hp' with h | h
    ·exact .inl h
    ·exact .inr (List.mem_singleton.1 h)
   ·exact .inl hp'
  rcases key with hk | rfl
  ·obtain ⟨a,b,c,p',d1,d2⟩:=Mo (fun p hp=>⟨(h.el p hp).1,(h.el p hp).2.1,(h.el p hp).2.2.1⟩) g7 g8 p hk
   have:=(h.el p' d1).2.2.2
   exact ⟨a,b,c,by omega⟩
  ·exact ⟨g4,g5,g6,Nat.lt_succ_self _⟩
 ·rw [e1,e2,hl]
  dsimp only at e3 ⊢
  rw [List.length_append]
  have:=h.len
  omega
def dG (B:Nat) (w:World) (cs:List Value) (r:aN):Prop:=
 ∃ a b c d e f g,cs=a++(b++(c++(d++(e++(f++g)))))∧R4 B w a r.eJ∧R4 B w b r.allowed∧R4 B w c r.bl∧R4 B w d r.used∧R4 B w e r.bU∧R4 B w f r.aZ∧R4 B w g r.closing
theorem R4.len {B:Nat} {w:World} {cs:List Value} {q:Rat} (h:R4 B w cs q):cs.length=4:=by obtain ⟨s,p,n,c,t,r,m,d,rfl,_⟩:=h;rfl
theorem R4.ok {B:Nat} {w:World} {cs:List Value} {q:Rat} (h:R4 B w cs q):cs.all aU=true:=by obtain ⟨s,p,n,c,t,r,m,d,rfl,_⟩:=h;rfl
theorem az (B:Nat):lB (dG B) 28 where
 kp:=fun h k=>by
  obtain ⟨a,b,c,d,e,f,g,h0,h1,h2,h3,h4,h5,h6,h7⟩:=h
  exact ⟨a,b,c,d,e,f,g,h0,h1.kp k,h2.kp k,h3.kp k,h4.kp k,h5.kp k,h6.kp k,h7.kp k⟩
 len:=fun h=>by
  obtain ⟨a,b,c,d,e,f,g,rfl,h1,h2,h3,h4,h5,h6,h7⟩:=h
  simp [h1.len,h2.len,h3.len,h4.len,h5.len,h6.len,h7.len]
 ok:=fun h=>by
  obtain ⟨a,b,c,d,e,f,g,rfl,h1,h2,h3,h4,h5,h6,h7⟩:=h
  simp only [List.all_append,h1.ok,h2.ok,h3.ok,h4.ok,h5.ok,h6.ok,h7.ok,Bool.and_self]
structure nv {α:Type} (E:World→List Value→α→Prop) (sz:Nat) (w:World) (n c:Nat) (vs:List (List Value)) (sp:List AV) (es:List α):Prop where
 len:n=es.length
 el:cM E w es vs
 so:sp.all aH=true
 sl:ax sp=[]
 le:n≤c
 cm:c≤9223372036854775807
 fl:(vs.flatten.map AV.val++sp).length=c * sz
theorem nv.kp {α:Type} {E:World→List Value→α→Prop} {sz n c:Nat} (hE:lB E sz) {w w':World} {vs:List (List Value)} {sp:List AV} {es:List α} (h:nv E sz w n c vs sp es) (k:Kp UU w w'):nv E sz w' n c vs sp es:=⟨h.len,h.el.kp hE k,h.so,h.sl,h.le,h.cm,h.fl⟩
theorem nv.o {α:Type} {E:World→List Value→α→Prop} {sz n c:Nat} {w:World} {vs:List (List Value)} {sp:List AV} {es:List α} (h:nv E sz w n c vs sp es) (β:Nat→Nat):cY E sz w n 0 c [] vs (sp.map (AV.leaf β)) es:=
 ⟨h.len,.inl rfl,rfl,h.el,cJ h.so,h.le,h.cm,by have:=h.fl;rw [List.length_append,List.length_map] at this;rw [List.length_append,List.length_map];exact this⟩
theorem cY.a {α:Type} {E:World→List Value→α→Prop} {sz n c:Nat} {w:World} {vs:List (List Value)} {sp:List Value} {es:List α} (h:cY E sz w n 0 c [] vs sp es):nv E sz w n c vs (sp.map .val) es:=
 ⟨h.len,h.el,bb h.so,ao _,h.le,h.cm,by rw [←List.map_append,List.length_map];exact h.fl⟩
theorem cW {vs:List (List Value)} {sz:Nat} (h:∀ x∈vs,x.length=sz):vs.flatten.length=vs.length * sz:=by
 induction vs with
 | nil=>simp
 | cons x vs ih=>rw [List.flatten_cons,List.length_append,h x (by simp),ih (fun y hy=>h y (by simp [hy])),List.length_cons,Nat.add_mul];omega
theorem Jj {vs:List (List Value)} {sz i o:Nat} {x new:List Value} {sp:List AV} (h:∀ x∈vs,x.length=sz) (hi:vs[i]? =some x) (ho:o + new.length≤sz):
  (vs.flatten.map AV.val++sp).take (i * sz + o)++(new.map AV.val++(vs.flatten.map AV.val++sp).drop (i * sz + o + new.length))=(vs.set i (x.take o++(new++x.drop (o + new.length)))).flatten.map AV.val++sp:=by
 obtain ⟨hlt,hx⟩:=List.getElem?_eq_some_iff.1 hi
 have yo:vs=vs.take i++x::vs.drop (i + 1):=by rw [←hx,←List.drop_eq_getElem_cons hlt,List.take_append_drop]
 have ew:x.length=sz:=h x (List.mem_of_getElem? hi)
 have hal:(vs.take i).flatten.length=i * sz:=by
  rw [cW (fun y hy=>h y (List.mem_of_mem_take hy)),List.length_take,Nat.min_eq_left (by omega)]
 have hset:vs.set i (x.take o++(new++x.drop (o + new.length)))=vs.take i++(x.take o++(new++x.drop (o + new.length)))::vs.drop (i + 1):=by rw [List.set_eq_take_append_cons_drop,if_pos hlt]
 rw [hset]
 conv=>lhs;rw [yo]
 generalize (vs.take i)=A at *
 generalize (vs.drop (i + 1))=C at *
 have e1:((A++x::C).flatten.map AV.val++sp)=(A.flatten.map AV.val)++((x.map AV.val)++(C.flatten.map AV.val++sp)):=by simp
 have hA:(A.flatten.map AV.val).length=i * sz:=by rw [List.length_map];exact hal
 rw [e1,←hA,Nat.add_assoc,List.take_length_add_append,List.drop_length_add_append,List.take_append_of_le_length (by rw [List.length_map];omega),List.drop_append_of_le_length (by rw [List.length_map];omega)]
 simp
theorem cM.set {α:Type} {E:World→List Value→α→Prop} {w:World}:∀ {es:List α} {vs:List (List Value)} {i:Nat} {a:α} {cs:List Value},cM E w es vs→E w cs a→cM E w (es.set i a) (vs.set i cs)
 | _,_,i,_,_,.nil,_=>.nil
 | _,_,0,_,_,.cons _ h2,h=>.cons h h2
 | _,_,i + 1,_,_,.cons h1 h2,h=>.cons h1 (cM.set h2 h)
theorem gJ {l:List aN} {i:Nat} {r:aN} {f:aN→aN} (h:l[i]? =some r):l.modify i f=l.set i (f r):=by
 apply List.ext_getElem?
 intro j
 by_cases e:i=j
 ·subst e
  rw [xx rfl,List.getElem?_set,if_pos rfl,if_pos (List.getElem?_eq_some_iff.1 h).1,h];rfl
 ·rw [sf e,List.getElem?_set,if_neg e]
def SlE {α:Type} (E:World→List Value→α→Prop) (sz:Nat) (t:TypeId) (w:World) (b:Nat) (v:Value) (es:List α):Prop:=
 ∃ off n c pre vs spare,v=.slice (some ⟨b,off,none⟩) n c∧aW w b t (pre++(vs.flatten++spare)).toArray∧cY E sz w n off c pre vs spare es
def SlZ {α:Type} (E:World→List Value→α→Prop) (sz:Nat) (t:TypeId) (w:World) (b:Nat) (v:Value) (es:List α):Prop:=
 ∃ n c vs spare,v=.slice (some ⟨b,0,none⟩) n c∧aW w b t (vs.flatten++spare).toArray∧cY E sz w n 0 c [] vs spare es
def mY (B:Nat) (w:World) (g:Nat) (ad:List Nat) (s:Dd):Prop:=(∀ b∈ad,B≤b)∧∃ v r u,aW w g Runner #[v,r,u]∧
 ((ad=[g]∧v=.slice none 0 0∧r=.slice none 0 0∧u=.slice none 0 0∧s.q=[]∧s.rows=[]∧s.uses=[])∨
  (∃ rb,ad=[g,rb]∧v=.slice none 0 0∧u=.slice none 0 0∧s.q=[]∧s.uses=[]∧SlZ (dG B) 28 dT w rb r s.rows)∨
  (∃ vb rb,ad=[g,vb,rb]∧u=.slice none 0 0∧s.uses=[]∧SlE (cH B) 5 cO w vb v s.q∧SlZ (dG B) 28 dT w rb r s.rows)∨
  (∃ vb rb ub,ad=[g,vb,rb,ub]∧SlE (cH B) 5 cO w vb v s.q∧SlZ (dG B) 28 dT w rb r s.rows∧SlZ (np B) 6 et w ub u s.uses))
def FA (w:World) (v:Value) (S F:Rat) (keep:Int) (ks:Nat):Prop:=∃ s p n c t y m d s' p' n' c' t' y' m' d',v=.agg #[.bool s,.slice p n c,.bool t,.slice y m d,.bool s',.slice p' n' c',.bool t',.slice y' m' d',.int .i64 keep]∧
 bK w (.agg #[.bool s,.slice p n c,.bool t,.slice y m d]) S ks∧bK w (.agg #[.bool s',.slice p' n' c',.bool t',.slice y' m' d']) F ks
def YrV (w:World) (v:Value) (e:Rat×Rat) (ks:Nat):Prop:=∃ s p n c t y m d s' p' n' c' t' y' m' d',v=.agg #[.bool s,.slice p n c,.bool t,.slice y m d,.bool s',.slice p' n' c',.bool t',.slice y' m' d']∧
 bK w (.agg #[.bool s,.slice p n c,.bool t,.slice y m d]) e.1 ks∧bK w (.agg #[.bool s',.slice p' n' c',.bool t',.slice y' m' d']) e.2 ks
theorem bK.up {w:World} {v:Value} {q:Rat} {j k:Nat} (h:bK w v q j) (hk:j≤k):bK w v q k:=by
 obtain ⟨s,xs,t,ys,h1,h2,h3,h4⟩:=h
 exact ⟨s,xs,t,ys,h1,h2,Nat.le_trans h3 hk,Nat.le_trans h4 hk⟩
set_option maxRecDepth 4000 in
theorem mP (v u:Value) (S F:Rat) (keep:Int) (e:Rat×Rat) (ks:Nat) (w:World) (hv:FA w v S F keep ks) (hu:YrV w u e ks) (Cm:1≤ks) (hk:ks≤100000):
  Calls Tryz.prog 70 #[v,u] w fun o w'=>∃ x,o=.returned x∧aK w' w.heap.size x (aD S F e.2)∧aj w w':=by
 obtain ⟨sS,pS,nS,cS,tS,yS,mS,dS,sF,pF,nF,cF,tF,yF,mF,dF,rfl,hS,hF⟩:=hv
 obtain ⟨sN,pN,nN,cN,tN,yN,mN,dN,sE,pE,nE,cE,tE,yE,mE,dE,rfl,hN,hE⟩:=hu
 refine aw (C:=cj Tryz.prog w _) (args:=[_,_]) Tryz.func70 rfl Tryz.ntmps70 (Nat.le_of_ble_eq_true rfl) ?_
 (repeat first|refine wN ?_|refine wP rfl ?_|refine aa rfl ?_|refine ab rfl ?_|refine wO rfl rfl ?_)
 refine VO.call rfl rfl (fk Tryz.func105) (fun cC er dv=>(Fp _ _ S e.2 ks ks cC (hS.k) (hE.k) (by omega) (by omega)).mono ?_)
 rintro e w1 ⟨r1,rfl,q1,aV⟩
 obtain ⟨s1,p1,n1,c1,t1,y1,m1,d1,rfl⟩:=q1.form
 refine ⟨_,rfl,aV,fun fe _ bb1=>wV rfl ?_⟩
 (repeat first|refine wN ?_|refine wP rfl ?_|refine aa rfl ?_|refine ab rfl ?_|refine wO rfl rfl ?_)
 have z1:=(hS.sz Cm).mul (hE.sz Cm)
 refine VO.call rfl rfl (fk Tryz.func44) (fun dC gu eu=>(bF 0 dC (by omega) (by omega)).mono ?_)
 rintro e w2 ⟨r2,rfl,q2,bm⟩
 obtain ⟨s2,p2,n2,c2,t2,y2,m2,d2,rfl⟩:=q2.form
 refine ⟨_,rfl,bm,fun fZ _ bb2=>wV rfl ?_⟩
 (repeat first|refine wN ?_|refine wP rfl ?_|refine aa rfl ?_|refine ab rfl ?_|refine wO rfl rfl ?_)
 refine VO.fI rfl (fk Tryz.func104) (fun gv β gY gV ho=>((Fs _ _ F [S * e.2,0] (ks + ks) gv ((hF.k).up (by omega)) (dW (ho.own 13 (.base (List.mem_singleton.2 rfl)) _ _ rfl) [] (vs:=[[.bool s1,.slice p1 n1 c1,.bool t1,.slice y1 m1 d1],[.bool s2,.slice p2 n2 c2,.bool t2,.slice y2 m2 d2]]) (by rfl) rfl (bZ.cons (q1.ki z1) (bZ.cons (q2.ki (dV.zero.mono (show 1≤ks + ks by omega))) bZ.nil)) (Nat.le_of_ble_eq_true rfl) (by decide)) (by omega) (Nat.le_of_ble_eq_true rfl)).mono (fun o w2 h=>And.intro h gV.size)).mono ?_)
 rintro o w3 ⟨⟨r3,rfl,q3,z3,cD⟩,xH⟩
 obtain ⟨s3,p3,n3,c3,t3,y3,m3,d3,rfl⟩:=q3.form
 refine ⟨_,rfl,cD,fun kt _ bb3=>wV rfl ?_⟩
 (repeat first|refine wN ?_|refine wP rfl ?_|refine aa rfl ?_|refine ab rfl ?_|refine wO rfl rfl ?_)
 refine VS.ret (aL _ _) rfl rfl (fun wz kz bz=> ?_)
 exact ⟨_,rfl,(q3.mono xH).k,bz⟩
end Go.Proofs.YtabalinjfgcfeaaGreat
set_option maxRecDepth 4000
namespace Go.Proofs.YtabalinjfgcfeaaGreat
open Go.RowKit
attribute [local irreducible] aB VS
theorem fh {B N i g:Nat} {ad:List Nat} {w:World} (hB:B≤w.heap.size) (had:∀ b∈ad,B≤b) (h:cB N ad w i g):B≤g:=by
 rcases eO h with h | h
 ·omega
 ·exact had g h
theorem kh {vs:List (List Value)} {sz i o:Nat} {x new:List Value} {sp:List AV} (h:∀ x∈vs,x.length=sz) (hi:vs[i]? =some x) (ho:o + new.length≤sz):
  (vs.flatten.map AV.val++sp).take (0 + ((i:Nat):Int).toNat * sz + o)++(new.map AV.val++(vs.flatten.map AV.val++sp).drop (0 + ((i:Nat):Int).toNat * sz + o + new.length))=(vs.set i (x.take o++(new++x.drop (o + new.length)))).flatten.map AV.val++sp:=by
 rw [Int.toNat_natCast,Nat.zero_add]
 exact Jj h hi ho
theorem oK {B:Nat} {w:World} {cs new:List Value} {r:aN} {x:Rat} (h:dG B w cs r) (hx:R4 B w new x):dG B w (cs.take 20++(new++cs.drop (20 + new.length))) { r with aZ:=x }:=by
 obtain ⟨a,b,c,d,e,f,g,rfl,h1,h2,h3,h4,h5,h6,h7⟩:=h
 refine ⟨a,b,c,d,e,new,g,?_,h1,h2,h3,h4,h5,hx,h7⟩
 have l1:=h1.len
 have l2:=h2.len
 have l3:=h3.len
 have l4:=h4.len
 have l5:=h5.len
 have l6:=h6.len
 rw [hx.len]
 have e1:a++(b++(c++(d++(e++(f++g)))))=(a++b++c++d++e)++(f++g):=by simp
 have e2:(a++b++c++d++e).length=20:=by simp [l1,l2,l3,l4,l5]
 have e3:a++(b++(c++(d++(e++(f++g)))))=(a++b++c++d++e++f)++g:=by simp
 have e4:(a++b++c++d++e++f).length=24:=by simp [l1,l2,l3,l4,l5,l6]
 have t1:(a++(b++(c++(d++(e++(f++g)))))).take 20=a++b++c++d++e:=by rw [e1,←e2,List.take_left'];rfl
 have t2:(a++(b++(c++(d++(e++(f++g)))))).drop 24=g:=by rw [e3,←e4,List.drop_left'];rfl
 rw [t1,t2]
 simp
theorem sq {cs new:List Value} (h:cs.length=28) (hn:new.length=4):(cs.take 20++(new++cs.drop (20 + new.length))).length=28:=by
 rw [List.length_append,List.length_append,List.length_take,List.length_drop,h,hn];rfl
theorem kj {vs:List (List Value)} {sz i:Nat} {x:List Value} (h:∀ y∈vs,y.length=sz) (hx:x.length=sz):∀ y∈vs.set i x,y.length=sz:=fun y hy=>by
 rcases List.mem_or_eq_of_mem_set hy with e | e
 ·exact h y e
 ·rw [e];exact hx
set_option maxRecDepth 4000 in
set_option maxHeartbeats 16000000 in
theorem iYear_A {B g keep D kk ks:Nat} {M S F:Rat} {e:Rat×Rat} {q:List Vq} {rows:List aN} {uses:List Uq} {v u:Value} {w:World} (hg:aW w g Runner #[.slice none 0 0,.slice none 0 0,.slice none 0 0])
  (uS:FA w v S F keep ks) (JP:YrV w u e ks) (ss:1≤ks) (yr:ks≤kk) (zf:kk≤100000) (vK:Iz D (aD S F e.2)) (DZ:aD S F e.2≤M) (JQ:Iz D e.1) (gL: -M≤e.1) (Ea:e.1≤M) (hK:∀ x,Iz D x→-(M + M)≤x→x≤M + M→dV x kk)
  (vL:xG D M ⟨[],[],[]⟩) (uE:([]:List aN).length≤64) (uF:keep≤40) (hB:B≤w.heap.size) (dU:∀ b∈[g],B≤b):
  Calls Tryz.prog 39 #[.pointer (some ⟨g,0,none⟩),v,.int .i64 (([]:List aN).length:Int),u] w fun o w'=>o=.returned (iC [])∧qA [g] w w'∧∃ Mp,mY B w' g Mp (dk S F keep ([]:List aN).length ⟨[],[],[]⟩ e):=by
 have hL0:=mK S F e.2
 have hM0:0≤M:=by grind
 obtain ⟨g1,g2,g3,g4,g5,g6,g7,g8,g9⟩:=sn vK hL0 DZ JQ gL Ea
 have zn:B≤g:=dU g (by simp)
 have hlen:=vL.len
 obtain ⟨sS,pS,nS,cS,tS,yS,mS,dS,sF,pF,nF,cF,tF,yF,mF,dF,rfl,hS,hF⟩:=uS
 obtain ⟨sN,pN,nN,cN,tN,yN,mN,dN,sE,pE,nE,cE,tE,yE,mE,dE,rfl,hN,hE⟩:=JP
 have pM:iG (KU UU) 99 [g] [(Runner,[.val (.slice none 0 0),.val (.slice none 0 0),.val (.slice none 0 0)])] w:=by
  refine ⟨rfl,by simp,fun j g' c' hj hc=> ?_,fun c' hc=> ?_,fun c' hc k hk=> ?_⟩
  ·match j,hj,hc with
   | 0,hj,hc=>cases hj;cases hc;exact hg
   | j + 1,hj,_=>simp at hj
  ·simp only [List.mem_cons,List.not_mem_nil,or_false] at hc
   subst hc
   exact ⟨rfl,rfl⟩
  ·simp only [List.mem_cons,List.not_mem_nil,or_false] at hc
   subst hc
   cases hk
 refine ea Tryz.prog w _ (KU UU) (fun t=>Nat.beq t 22) table (fun _ _=>trivial) (ad:=[g]) (us:=[_,_,_]) Tryz.func39 rfl Tryz.ntmps39 (Nat.le_of_ble_eq_true rfl) pM (Nat.le_of_ble_eq_true rfl) ?_
 (repeat first|refine wN ?_|refine wP rfl ?_|refine af rfl ?_|refine ag rfl ?_|refine wO rfl rfl ?_)
 refine VO.call rfl rfl (fk Tryz.func70) (fun cC er dv=>((mP _ _ S F keep e ks cC ⟨_,_,_,_,_,_,_,_,_,_,_,_,_,_,_,_,rfl,hS.k,hF.k⟩ ⟨_,_,_,_,_,_,_,_,_,_,_,_,_,_,_,_,rfl,hN.k,hE.k⟩ ss (by omega)).mono (fun o w2 h=>And.intro h dv.1.size)).mono ?_)
 rintro o w1 ⟨⟨r1,rfl,q1,aV⟩,FD⟩
 obtain ⟨s1,p1,n1,c1,t1,y1,m1,d1,rfl⟩:=q1.form
 refine ⟨_,rfl,aV,fun fe _ bb1=>wV rfl ?_⟩
 replace q1:=q1.mono (Nat.le_trans hB FD)
 (repeat first|refine wN ?_|refine wP rfl ?_|refine af rfl ?_|refine ag rfl ?_|refine wO rfl rfl ?_)
 refine VO.call rfl rfl (fk Tryz.func44) (fun dC gu eu=>((bF 0 dC (by omega) (by omega)).mono (fun o w2 h=>And.intro h eu.1.size)).mono ?_)
 rintro o w2 ⟨⟨r2,rfl,q2,bm⟩,qN⟩
 obtain ⟨s2,p2,n2,c2,t2,y2,m2,d2,rfl⟩:=q2.form
 refine ⟨_,rfl,bm,fun fZ _ bb2=>wV rfl ?_⟩
 replace q2:=q2.mono (Nat.le_trans hB qN)
 (repeat first|refine wN ?_|refine wP rfl ?_|refine af rfl ?_|refine ag rfl ?_|refine wO rfl rfl ?_)
 refine VO.call rfl rfl (fk Tryz.func44) (fun gv gY gV=>((bF 0 gv (by omega) (by omega)).mono (fun o w2 h=>And.intro h gV.1.size)).mono ?_)
 rintro o w3 ⟨⟨r3,rfl,q3,cD⟩,xH⟩
 obtain ⟨s3,p3,n3,c3,t3,y3,m3,d3,rfl⟩:=q3.form
 refine ⟨_,rfl,cD,fun kt _ bb3=>wV rfl ?_⟩
 replace q3:=q3.mono (Nat.le_trans hB xH)
 (repeat first|refine wN ?_|refine wP rfl ?_|refine af rfl ?_|refine ag rfl ?_|refine wO rfl rfl ?_)
 refine VO.fI rfl (fk Tryz.func71) (fun nj β qa qF ho=>((fJ _ _ e.1 [aD S F e.2] kk nj ((hN.k).up (by omega)) (dW (ho.own 20 (.base (List.mem_singleton.2 rfl)) _ _ rfl) [] (vs:=[[.bool s1,.slice p1 n1 c1,.bool t1,.slice y1 m1 d1]]) (by rfl) rfl (bZ.cons (q1.ki (hK _ vK (by grind) (by grind))) bZ.nil) (Nat.le_of_ble_eq_true rfl) (by decide)) (by omega) (Nat.le_of_ble_eq_true rfl)).mono (fun o w2 h=>And.intro h qF.1.size)).mono ?_)
 rintro o w4 ⟨⟨r4,rfl,q4,z4,gU⟩,FE⟩
 rw [gR] at q4
 obtain ⟨s4,p4,n4,c4,t4,y4,m4,d4,rfl⟩:=q4.form
 refine ⟨_,rfl,gU,fun pd _ AZ=>wV rfl ?_⟩
 replace q4:=q4.mono (Nat.le_trans hB FE)
 (repeat first|refine wN ?_|refine wP rfl ?_|refine af rfl ?_|refine ag rfl ?_|refine wO rfl rfl ?_)
 refine VO.call rfl rfl (fk Tryz.func72) (fun kg mG ku=>((bW _ _ e.1 (ai e.1 (aD S F e.2)) kk kk kg ((hN.k).up (by omega)) (q4.ki (hK _ g1 (by grind) (by grind))) (by omega) (by omega)).mono (fun o w2 h=>And.intro h ku.1.size)).mono ?_)
 rintro o w5 ⟨⟨r5,rfl,q5,gi⟩,qO⟩
 obtain ⟨s5,p5,n5,c5,t5,y5,m5,d5,rfl⟩:=q5.form
 refine ⟨_,rfl,gi,fun nk _ xf=>wV rfl ?_⟩
 replace q5:=q5.mono (Nat.le_trans hB qO)
 (repeat first|refine wN ?_|refine wP rfl ?_|refine af rfl ?_|refine ag rfl ?_|refine wO rfl rfl ?_)
 refine VO.call rfl rfl (fk Tryz.func72) (fun pK ux tw=>((bW _ _ (aD S F e.2) (ai e.1 (aD S F e.2)) kk kk pK (q1.ki (hK _ vK (by grind) (by grind))) (q4.ki (hK _ g1 (by grind) (by grind))) (by omega) (by omega)).mono (fun o w2 h=>And.intro h tw.1.size)).mono ?_)
 rintro o w6 ⟨⟨r6,rfl,q6,mX⟩,FF⟩
 obtain ⟨s6,p6,n6,c6,t6,y6,m6,d6,rfl⟩:=q6.form
 refine ⟨_,rfl,mX,fun tx _ CR=>wV rfl ?_⟩
 replace q6:=q6.mono (Nat.le_trans hB FF)
 (repeat first|refine wN ?_|refine wP rfl ?_|refine af rfl ?_|refine ag rfl ?_|refine wO rfl rfl ?_)
 have mf:dk S F keep ([]:List aN).length ⟨[],[],[]⟩ e=rZ keep ([]:List aN).length ⟨kA ([]:List aN).length (e.1 - ai e.1 (aD S F e.2)) (kW [] (aD S F e.2 - ai e.1 (aD S F e.2))),[]++[dD S F [] e],[]++nH ([]:List aN).length [] (aD S F e.2 - ai e.1 (aD S F e.2))⟩:=rfl
 refine VO.sm (B:=B) (mm:=aD S F e.2 - ai e.1 (aD S F e.2)) kk rfl rfl (fk Tryz.func73) rfl (fun ug FG GQ=>q6.kr) hB (fun w7 r7 k7 b7 q7=> ?_)
 obtain ⟨s7,p7,n7,c7,t7,y7,m7,d7,rfl⟩:=q7.form
 refine wV rfl ?_
 (repeat first|refine wN ?_|refine wP rfl ?_|refine af rfl ?_|refine ag rfl ?_|refine wO rfl rfl ?_)
 have nw:([]:List Uq)++nH ([]:List aN).length [] (aD S F e.2 - ai e.1 (aD S F e.2))=[]:=rfl
 obtain ⟨u1,u2,u3⟩:=tH (q:=[]) (m:=aD S F e.2 - ai e.1 (aD S F e.2)) (fun p hp=>(by cases hp)) g7 g8
 refine VO.call rfl rfl (fk Tryz.func16) (fun uQ Fg zl=>((dx _ _ (ai e.1 (aD S F e.2)) ((0:Rat)) kk kk uQ (q4.ki (hK _ g1 (by grind) (by grind))) (q7.ki (hK _ u1 (by grind) (by grind))) (by omega) (by omega)).mono (fun o w2 h=>And.intro h zl.1.size)).mono ?_)
 rintro o w8 ⟨⟨r8,rfl,q8,qU⟩,yt⟩
 obtain ⟨s8,p8,n8,c8,t8,y8,m8,d8,rfl⟩:=q8.form
 refine ⟨_,rfl,qU,fun vH _ JL=>wV rfl ?_⟩
 replace q8:=q8.mono (Nat.le_trans hB yt)
 (repeat first|refine wN ?_|refine wP rfl ?_|refine af rfl ?_|refine ag rfl ?_|refine wO rfl rfl ?_)
 have LV:((0:Int):Rat)=0:=rfl
 have AA:dG B w8 [.bool s1,.slice p1 n1 c1,.bool t1,.slice y1 m1 d1,.bool s4,.slice p4 n4 c4,.bool t4,.slice y4 m4 d4,.bool s5,.slice p5 n5 c5,.bool t5,.slice y5 m5 d5,.bool s7,.slice p7 n7 c7,.bool t7,.slice y7 m7 d7,.bool s8,.slice p8 n8 c8,.bool t8,.slice y8 m8 d8,.bool s2,.slice p2 n2 c2,.bool t2,.slice y2 m2 d2,.bool s3,.slice p3 n3 c3,.bool t3,.slice y3 m3 d3] (dD S F [] e):=⟨[.bool s1,.slice p1 n1 c1,.bool t1,.slice y1 m1 d1],[.bool s4,.slice p4 n4 c4,.bool t4,.slice y4 m4 d4],[.bool s5,.slice p5 n5 c5,.bool t5,.slice y5 m5 d5],[.bool s7,.slice p7 n7 c7,.bool t7,.slice y7 m7 d7],[.bool s8,.slice p8 n8 c8,.bool t8,.slice y8 m8 d8],[.bool s2,.slice p2 n2 c2,.bool t2,.slice y2 m2 d2],[.bool s3,.slice p3 n3 c3,.bool t3,.slice y3 m3 d3],rfl,⟨_,_,_,_,_,_,_,_,rfl,q1.k⟩,⟨_,_,_,_,_,_,_,_,rfl,q4.k⟩,⟨_,_,_,_,_,_,_,_,rfl,q5.k⟩,⟨_,_,_,_,_,_,_,_,rfl,q7.k⟩,⟨_,_,_,_,_,_,_,_,rfl,q8.k⟩,⟨_,_,_,_,_,_,_,_,rfl,q2.k⟩,⟨_,_,_,_,_,_,_,_,rfl,q3.k⟩⟩
 refine VO.app (bk _ _) (t:=33) (e:=dT) (sz:=28) (n:=0) (c:=0) (mm:=1) (known:=[]) (spare:=[]) (del:=none) (news:=([.bool s1,.slice p1 n1 c1,.bool t1,.slice y1 m1 d1,.bool s4,.slice p4 n4 c4,.bool t4,.slice y4 m4 d4,.bool s5,.slice p5 n5 c5,.bool t5,.slice y5 m5 d5,.bool s7,.slice p7 n7 c7,.bool t7,.slice y7 m7 d7,.bool s8,.slice p8 n8 c8,.bool t8,.slice y8 m8 d8,.bool s2,.slice p2 n2 c2,.bool t2,.slice y2 m2 d2,.bool s3,.slice p3 n3 c3,.bool t3,.slice y3 m3 d3]:List Value).map .val) (dst:=52) rfl rfl rfl rfl rfl rfl rfl rfl (Nat.le_of_ble_eq_true rfl) rfl (.inl ⟨rfl,rfl,rfl,rfl,rfl,rfl,by omega⟩) (.inl rfl) rfl rfl (Nat.le_refl _) (by omega) ⟨rfl,rfl,rfl⟩ ⟨rfl,rfl,rfl⟩ rfl (by omega)
  (fun w1 β k1 b1 ho=>⟨_,_,rfl,.inr ⟨β 51,0,rfl,cK (rest:=[]) (ho.own 51 (.base (List.mem_append_right _ (List.mem_singleton.2 rfl))) _ _ rfl) rfl⟩⟩)
  (fun nD lD uT ρ GM GN fC jc gm ed AB iB=>wV rfl ?_)
 (repeat (first | refine wN ?_ | refine wP rfl ?_ | refine af rfl ?_ | refine wO rfl rfl ?_))
 obtain ⟨nI,sw⟩:∃ nI,nI=0 + 1:=⟨_,rfl⟩
 obtain ⟨qQ,sx⟩:∃ qQ,qQ=([[.bool s1,.slice p1 n1 c1,.bool t1,.slice y1 m1 d1,.bool s4,.slice p4 n4 c4,.bool t4,.slice y4 m4 d4,.bool s5,.slice p5 n5 c5,.bool t5,.slice y5 m5 d5,.bool s7,.slice p7 n7 c7,.bool t7,.slice y7 m7 d7,.bool s8,.slice p8 n8 c8,.bool t8,.slice y8 m8 d8,.bool s2,.slice p2 n2 c2,.bool t2,.slice y2 m2 d2,.bool s3,.slice p3 n3 c3,.bool t3,.slice y3 m3 d3]]:List (List Value)):=⟨_,rfl⟩
 have fq:nv (dG B) 28 nD nI lD qQ uT ([]++[dD S F [] e]):=by rw [sw,sx];exact ⟨rfl,.cons ((az B).kp AA (by (with_reducible (repeat (first | assumption | exact kU _ | exact kR _ | exact Kp.of (U:=UU) (by assumption) | exact aE.of (by assumption) | refine kT ?_ (by assumption)))))) .nil,AB,iB,jc,gm,by simpa using ed⟩
 refine VS.narrow [(0,.box 198 0),(2,.val (.int .i64 (([]:List aN).length:Int))),(5,.box 5 0),(8,.box 8 0)] [(198,(Runner,[.val (.slice none 0 0),.row 52 0 nI lD,.val (.slice none 0 0)])),(52,(dT,qQ.flatten.map AV.val++uT)),(5,(28,([.bool sS,.slice pS nS cS,.bool tS,.slice yS mS dS,.bool sF,.slice pF nF cF,.bool tF,.slice yF mF dF,.int .i64 (keep:Int)]:List Value).map AV.val)),(8,(dT,([.bool s1,.slice p1 n1 c1,.bool t1,.slice y1 m1 d1,.bool s4,.slice p4 n4 c4,.bool t4,.slice y4 m4 d4,.bool s5,.slice p5 n5 c5,.bool t5,.slice y5 m5 d5,.bool s7,.slice p7 n7 c7,.bool t7,.slice y7 m7 d7,.bool s8,.slice p8 n8 c8,.bool t8,.slice y8 m8 d8,.bool s2,.slice p2 n2 c2,.bool t2,.slice y2 m2 d2,.bool s3,.slice p3 n3 c3,.bool t3,.slice y3 m3 d3]:List Value).map AV.val))] ⟨rfl,rfl,rfl,rfl,trivial⟩ ⟨by rw [sw];rfl,by rw [sx];rfl,rfl,rfl,trivial⟩ rfl ⟨.lit rfl,.append (.vals _) (.none iB),.vals _,.vals _,trivial⟩ ?_
 refine VS.draw (bk _ _) (jN _ _) [74] (by kernel_rfl) (VO.run 80 rfl ?_)
 refine VO.Dh (B:=B) (d2:=62) (d:=e.1 - ai e.1 (aD S F e.2)) kk rfl rfl rfl (fk Tryz.func74) rfl rfl (by show 62 < 2 * 99;omega) (fun j hj=> ?_) (Nat.le_of_ble_eq_true rfl) (fun ug FG GQ=>q5.kr) (hK _ g4 (by grind) (by grind)) zf hB (fun Bb k19 b19 DI=>wV rfl ?_) (fun Bb nC GR GS k19 b19 DI fA=>wV rfl ?_)
 ·have:j=52:=by simpa [ax,AV.cL] using hj
  subst this;intro h;cases h
 ·have vi:kA ([]:List aN).length (e.1 - ai e.1 (aD S F e.2)) (kW [] (aD S F e.2 - ai e.1 (aD S F e.2)))=[]:=if_neg DI
  (repeat first|refine wN ?_|refine wP rfl ?_|refine af rfl ?_|refine ag rfl ?_|refine wO rfl rfl ?_)
  refine VO.cZ (x:=.val (.slice none 0 0)) (p:=fun _=>none) (c:=0) rfl (fun β=>.inr ⟨none,rfl⟩) rfl (fk Tryz.func75) rfl (fun Dk Mq Mr=>wV rfl ?_)
  (repeat first|refine wN ?_|refine wP rfl ?_|refine af rfl ?_|refine ag rfl ?_|refine wO rfl rfl ?_)
  have pO:dk S F keep ([]:List aN).length ⟨[],[],[]⟩ e=⟨[],[]++[dD S F [] e],[]⟩:=by rw [mf,vi,nw];rfl
  (repeat first|refine wN ?_|refine wP rfl ?_|refine af rfl ?_|refine ag rfl ?_|refine wO rfl rfl ?_)
  refine VS.ky (bk _ _) rfl (fun wz β kz oz en=> ?_)
  obtain ⟨o1,o2⟩:=eb (en.own 198 _ _ rfl) 0 g rfl rfl
  have oR:=(en.own 52 _ _ rfl).cls
  rw [List.map_append,ah] at oR
  have nR:=fh hB dU (show cB 99 [g] w 52 (β 52) from (en.own 52 _ _ rfl).new)
  rw [pO]
  refine ⟨rfl,oz.1,[g,β 52],⟨fun b hb=> ?_,_,_,_,o2,?_⟩⟩
  ·simp only [List.mem_cons,List.not_mem_nil,or_false] at hb
   rcases hb with rfl | rfl
   ·exact zn
   ·exact nR
  ·exact .inr (.inl ⟨β 52,rfl,rfl,rfl,rfl,rfl,⟨_,_,_,_,rfl,oR,(fq.kp (az B) (by (with_reducible (repeat (first | assumption | exact kU _ | exact kR _ | exact Kp.of (U:=UU) (by assumption) | exact aE.of (by assumption) | refine kT ?_ (by assumption)))))).o β⟩⟩)
 ·obtain ⟨q2,sA⟩:∃ q2:List Vq,q2=[(([]:List aN).length,e.1 - ai e.1 (aD S F e.2))]:=⟨_,rfl⟩
  rw [←sA] at fA
  have vi:kA ([]:List aN).length (e.1 - ai e.1 (aD S F e.2)) (kW [] (aD S F e.2 - ai e.1 (aD S F e.2)))=q2:=by rw [sA];exact if_pos DI
  obtain ⟨nz,Ms⟩:∃ nz,nz=1:=⟨_,rfl⟩
  obtain ⟨fw,Dl⟩:∃ fw,fw=0:=⟨_,rfl⟩
  obtain ⟨kC,Dm⟩:∃ kC:List Value,kC=[]:=⟨_,rfl⟩
  have fA:cY (cH B) 5 Bb nz fw nC kC GR GS q2:=by rw [Ms,Dl,Dm];exact fA
  refine VO.nil ?_
  refine VS.narrow [(0,.box 198 0),(2,.val (.int .i64 (([]:List aN).length:Int))),(5,.box 5 0),(8,.box 8 0)] [(198,(Runner,[.row 62 fw nz nC,.row 52 0 nI lD,.val (.slice none 0 0)])),(52,(dT,qQ.flatten.map AV.val++uT)),(5,(28,([.bool sS,.slice pS nS cS,.bool tS,.slice yS mS dS,.bool sF,.slice pF nF cF,.bool tF,.slice yF mF dF,.int .i64 (keep:Int)]:List Value).map AV.val)),(8,(dT,([.bool s1,.slice p1 n1 c1,.bool t1,.slice y1 m1 d1,.bool s4,.slice p4 n4 c4,.bool t4,.slice y4 m4 d4,.bool s5,.slice p5 n5 c5,.bool t5,.slice y5 m5 d5,.bool s7,.slice p7 n7 c7,.bool t7,.slice y7 m7 d7,.bool s8,.slice p8 n8 c8,.bool t8,.slice y8 m8 d8,.bool s2,.slice p2 n2 c2,.bool t2,.slice y2 m2 d2,.bool s3,.slice p3 n3 c3,.bool t3,.slice y3 m3 d3]:List Value).map AV.val)),(62,(cO,(kC++(GR.flatten++GS)).map AV.val))] ⟨rfl,rfl,rfl,rfl,trivial⟩ ⟨by rw [Dl,Ms];rfl,rfl,rfl,rfl,by rw [Dm];rfl,trivial⟩ rfl ⟨.lit rfl,.append (.vals _) (.none iB),.vals _,.vals _,.vals _,trivial⟩ ?_
  (repeat first|refine wN ?_|refine wP rfl ?_|refine af rfl ?_|refine ag rfl ?_|refine wO rfl rfl ?_)
  by_cases lI:nz=0
  ·refine VO.cZ (x:=.row 62 fw nz nC) (p:=fun _=>none) (c:=nC) rfl (fun β=>.inr ⟨_,congrArg (fun n=>Value.slice (some ⟨β 62,fw,none⟩) n nC) lI⟩) rfl (fk Tryz.func75) rfl (fun Dk Mq Mr=>wV rfl ?_)
   (repeat first|refine wN ?_|refine wP rfl ?_|refine af rfl ?_|refine ag rfl ?_|refine wO rfl rfl ?_)
   have AD:q2=[]:=List.eq_nil_of_length_eq_zero (by rw [←fA.len];exact lI)
   have pO:dk S F keep ([]:List aN).length ⟨[],[],[]⟩ e=⟨q2,[]++[dD S F [] e],[]⟩:=by rw [mf,vi,nw,AD];rfl
   (repeat first|refine wN ?_|refine wP rfl ?_|refine af rfl ?_|refine ag rfl ?_|refine wO rfl rfl ?_)
   refine VS.ky (bk _ _) rfl (fun wz β kz oz en=> ?_)
   obtain ⟨o1,o2⟩:=eb (en.own 198 _ _ rfl) 0 g rfl rfl
   have oR:=(en.own 52 _ _ rfl).cls
   rw [List.map_append,ah] at oR
   have nR:=fh hB dU (show cB 99 [g] w 52 (β 52) from (en.own 52 _ _ rfl).new)
   have oV:=(en.own 62 _ _ rfl).cls
   rw [ah] at oV
   have nV:=fh hB dU (show cB 99 [g] w 62 (β 62) from (en.own 62 _ _ rfl).new)
   rw [pO]
   refine ⟨rfl,oz.1,[g,β 62,β 52],⟨fun b hb=> ?_,_,_,_,o2,?_⟩⟩
   ·simp only [List.mem_cons,List.not_mem_nil,or_false] at hb
    rcases hb with rfl | rfl | rfl
    ·exact zn
    ·exact nV
    ·exact nR
   ·exact .inr (.inr (.inl ⟨β 62,β 52,rfl,rfl,rfl,⟨_,_,_,_,_,_,rfl,oV,fA.kp (aM B) (by (with_reducible (repeat (first | assumption | exact kU _ | exact kR _ | exact Kp.of (U:=UU) (by assumption) | exact aE.of (by assumption) | refine kT ?_ (by assumption)))))⟩,⟨_,_,_,_,rfl,oR,(fq.kp (az B) (by (with_reducible (repeat (first | assumption | exact kU _ | exact kR _ | exact Kp.of (U:=UU) (by assumption) | exact aE.of (by assumption) | refine kT ?_ (by assumption)))))).o β⟩⟩))
  obtain ⟨pp,qt,KZ⟩:∃ pp qt,q2=pp::qt:=by
   cases q2 with
   | nil=>exact absurd fA.len lI
   | cons pp qt=>exact ⟨pp,qt,rfl⟩
  subst KZ
  obtain ⟨AE,vM,rfl,hE4,sB⟩:∃ AE vM,GR=AE::vM∧cH B Bb AE pp∧cM (cH B) Bb qt vM:=by
   have:=fA.el
   cases this with
   | cons h1 h2=>exact ⟨_,_,rfl,h1,h2⟩
  obtain ⟨s9,p9,n9,c9,t9,y9,m9,d9,rfl,Jk⟩:=hE4
  have AG:=fA.le
  have AH:=fA.len
  have AJ:=fA.cm
  have jH:kC.length=fw:=fA.pl.resolve_right (by omega)
  refine VO.cI rfl rfl (fk Tryz.func75) rfl lI (by intro h;cases h) (fun Dk Mq Mr=>wV rfl ?_)
  (repeat first|refine wN ?_|refine wP rfl ?_|refine af rfl ?_|refine ag rfl ?_|refine wO rfl rfl ?_)
  refine VO.dh rfl (([.int .i64 (pp.1:Int)]:List Value).map .val) rfl (bh jH 0 _ ⟨_,rfl⟩) (wV rfl ?_)
  (repeat first|refine wN ?_|refine wP rfl ?_|refine af rfl ?_|refine ag rfl ?_|refine wO rfl rfl ?_)
  have GU:IntKind.i64.wrap ((([]:List aN).length:Int) - (keep:Int))=(([]:List aN).length:Int) - (keep:Int):=IntWalk.i64_in _ (by omega)
  by_cases hx:pp.1 + keep=([]:List aN).length
  ·refine VS.bE rfl (by rw [GU,beq_iff_eq];omega) ?_
   (repeat first|refine wN ?_|refine wP rfl ?_|refine af rfl ?_|refine ag rfl ?_|refine wO rfl rfl ?_)
   refine VO.dh rfl (([.int .i64 (pp.1:Int)]:List Value).map .val) rfl (bh jH 0 _ ⟨_,rfl⟩) (wV rfl ?_)
   (repeat first|refine wN ?_|refine wP rfl ?_|refine af rfl ?_|refine ag rfl ?_|refine wO rfl rfl ?_)
   refine VO.dh rfl (([.bool s9,.slice p9 n9 c9,.bool t9,.slice y9 m9 d9]:List Value).map .val) rfl (bh jH 1 _ ⟨[],rfl⟩) (wV rfl ?_)
   (repeat first|refine wN ?_|refine wP rfl ?_|refine af rfl ?_|refine ag rfl ?_|refine wO rfl rfl ?_)
   have fi:=fq.len
   have Cp:pp.1 < nI:=by rw [fi,List.length_append,List.length_singleton];omega
   refine VO.cond rfl ⟨by omega,by omega⟩ (wV rfl ?_)
   obtain ⟨rq,zo⟩:∃ rq,([]++[dD S F [] e])[pp.1]? =some rq:=⟨_,List.getElem?_eq_getElem (by rw [←fi];exact Cp)⟩
   obtain ⟨zp,tI,zt⟩:=fq.el.at pp.1 rq zo
   have gG:=fq.fl
   have Jl:=fq.le
   refine VO.cond rfl (by show 0 + ((pp.1:Int)).toNat * 28 + 20 + 4≤_;rw [gG,Int.toNat_natCast];omega) (VO.ft 52 rfl (kh (new:=[.bool s9,.slice p9 n9 c9,.bool t9,.slice y9 m9 d9]) (o:=20) (fq.el.lens (az B)) tI (Nat.le_of_ble_eq_true rfl)) (wV rfl ?_))
   (repeat first|refine wN ?_|refine wP rfl ?_|refine af rfl ?_|refine ag rfl ?_|refine wO rfl rfl ?_)
   have hR3:nv (dG B) 28 Dk nI lD (qQ.set pp.1 (zp.take 20++([.bool s9,.slice p9 n9 c9,.bool t9,.slice y9 m9 d9]++zp.drop (20 + ([.bool s9,.slice p9 n9 c9,.bool t9,.slice y9 m9 d9]:List Value).length)))) uT (([]++[dD S F [] e]).modify pp.1 (fun r=>{ r with aZ:=pp.2 })):=
    ⟨by rw [List.length_modify];exact fi,by rw [gJ zo];exact (fq.el.kp (az B) (by (with_reducible (repeat (first | assumption | exact kU _ | exact kR _ | exact Kp.of (U:=UU) (by assumption) | exact aE.of (by assumption) | refine kT ?_ (by assumption)))))).set (oK ((az B).kp zt (by (with_reducible (repeat (first | assumption | exact kU _ | exact kR _ | exact Kp.of (U:=UU) (by assumption) | exact aE.of (by assumption) | refine kT ?_ (by assumption)))))) ⟨_,_,_,_,_,_,_,_,rfl,Jk.kp (by (with_reducible (repeat (first | assumption | exact kU _ | exact kR _ | exact Kp.of (U:=UU) (by assumption) | exact aE.of (by assumption) | refine kT ?_ (by assumption)))))⟩),fq.so,fq.sl,fq.le,fq.cm,by
     rw [List.length_append,List.length_map,cW (kj (fq.el.lens (az B)) (sq ((az B).len zt) rfl)),List.length_set]
     rw [List.length_append,List.length_map,cW (fq.el.lens (az B))] at gG
     exact gG⟩
   refine VO.iA rfl rfl (fk Tryz.func76) rfl (by omega) AG AJ (fun j hj=> ?_) (Nat.le_of_ble_eq_true rfl) (fun w21 k21 b21=>wV rfl ?_)
   ·simp only [ax,AV.cL,List.flatMap_cons,List.flatMap_nil,List.mem_append,List.mem_cons,List.not_mem_nil,or_false,List.append_nil] at hj
    rcases hj with rfl | rfl <;> (intro h;cases h)
   (repeat first|refine wN ?_|refine wP rfl ?_|refine af rfl ?_|refine ag rfl ?_|refine wO rfl rfl ?_)
   have hV4:cY (cH B) 5 w21 (nz - 1) (if nC=1 then fw else fw + 5) (nC - 1) (kC++[.int .i64 (pp.1:Int),.bool s9,.slice p9 n9 c9,.bool t9,.slice y9 m9 d9]) vM GS qt:=⟨by rw [AH];rfl,mM jH,by rw [List.all_append,fA.po];rfl,sB.kp (aM B) (by (with_reducible (repeat (first | assumption | exact kU _ | exact kR _ | exact Kp.of (U:=UU) (by assumption) | exact aE.of (by assumption) | refine kT ?_ (by assumption))))),fA.so,by omega,by omega,mO fA.fl⟩
   have pO:dk S F keep ([]:List aN).length ⟨[],[],[]⟩ e=⟨qt,([]++[dD S F [] e]).modify pp.1 (fun r=>{ r with aZ:=pp.2 }),[]⟩:=by
    rw [mf,vi,nw]
    exact if_pos hx
   (repeat first|refine wN ?_|refine wP rfl ?_|refine af rfl ?_|refine ag rfl ?_|refine wO rfl rfl ?_)
   refine VS.ky (bk _ _) rfl (fun wz β kz oz en=> ?_)
   obtain ⟨o1,o2⟩:=eb (en.own 198 _ _ rfl) 0 g rfl rfl
   have oR:=(en.own 52 _ _ rfl).cls
   rw [List.map_append,ah] at oR
   have nR:=fh hB dU (show cB 99 [g] w 52 (β 52) from (en.own 52 _ _ rfl).new)
   have oV:=(en.own 62 _ _ rfl).cls
   rw [dM,ah] at oV
   have nV:=fh hB dU (show cB 99 [g] w 62 (β 62) from (en.own 62 _ _ rfl).new)
   rw [pO]
   refine ⟨rfl,oz.1,[g,β 62,β 52],⟨fun b hb=> ?_,_,_,_,o2,?_⟩⟩
   ·simp only [List.mem_cons,List.not_mem_nil,or_false] at hb
    rcases hb with rfl | rfl | rfl
    ·exact zn
    ·exact nV
    ·exact nR
   ·exact .inr (.inr (.inl ⟨β 62,β 52,rfl,rfl,rfl,⟨_,_,_,_,_,_,rfl,oV,hV4.kp (aM B) (by (with_reducible (repeat (first | assumption | exact kU _ | exact kR _ | exact Kp.of (U:=UU) (by assumption) | exact aE.of (by assumption) | refine kT ?_ (by assumption)))))⟩,⟨_,_,_,_,rfl,oR,(hR3.kp (az B) (by (with_reducible (repeat (first | assumption | exact kU _ | exact kR _ | exact Kp.of (U:=UU) (by assumption) | exact aE.of (by assumption) | refine kT ?_ (by assumption)))))).o β⟩⟩))
  ·refine VS.bu rfl (by rw [GU,beq_eq_false_iff_ne];omega) ?_
   have pO:dk S F keep ([]:List aN).length ⟨[],[],[]⟩ e=⟨pp::qt,[]++[dD S F [] e],[]⟩:=by
    rw [mf,vi,nw]
    exact if_neg hx
   (repeat first|refine wN ?_|refine wP rfl ?_|refine af rfl ?_|refine ag rfl ?_|refine wO rfl rfl ?_)
   refine VS.ky (bk _ _) rfl (fun wz β kz oz en=> ?_)
   obtain ⟨o1,o2⟩:=eb (en.own 198 _ _ rfl) 0 g rfl rfl
   have oR:=(en.own 52 _ _ rfl).cls
   rw [List.map_append,ah] at oR
   have nR:=fh hB dU (show cB 99 [g] w 52 (β 52) from (en.own 52 _ _ rfl).new)
   have oV:=(en.own 62 _ _ rfl).cls
   rw [ah] at oV
   have nV:=fh hB dU (show cB 99 [g] w 62 (β 62) from (en.own 62 _ _ rfl).new)
   rw [pO]
   refine ⟨rfl,oz.1,[g,β 62,β 52],⟨fun b hb=> ?_,_,_,_,o2,?_⟩⟩
   ·simp only [List.mem_cons,List.not_mem_nil,or_false] at hb
    rcases hb with rfl | rfl | rfl
    ·exact zn
    ·exact nV
    ·exact nR
   ·exact .inr (.inr (.inl ⟨β 62,β 52,rfl,rfl,rfl,⟨_,_,_,_,_,_,rfl,oV,fA.kp (aM B) (by (with_reducible (repeat (first | assumption | exact kU _ | exact kR _ | exact Kp.of (U:=UU) (by assumption) | exact aE.of (by assumption) | refine kT ?_ (by assumption)))))⟩,⟨_,_,_,_,rfl,oR,(fq.kp (az B) (by (with_reducible (repeat (first | assumption | exact kU _ | exact kR _ | exact Kp.of (U:=UU) (by assumption) | exact aE.of (by assumption) | refine kT ?_ (by assumption)))))).o β⟩⟩))
end Go.Proofs.YtabalinjfgcfeaaGreat
set_option maxRecDepth 4000
namespace Go.Proofs.YtabalinjfgcfeaaGreat
open Go.RowKit
attribute [local irreducible] aB VS
set_option maxRecDepth 4000 in
set_option maxHeartbeats 16000000 in
theorem iYear_B {B g keep D kk ks:Nat} {M S F:Rat} {e:Rat×Rat} {rb nr cr:Nat} {sT:List (List Value)} {uG:List Value} {q:List Vq} {rows:List aN} {uses:List Uq} {v u:Value} {w:World} (hg:aW w g Runner #[.slice none 0 0,.slice (some ⟨rb,0,none⟩) nr cr,.slice none 0 0]) (zu:aW w rb dT (sT.flatten++uG).toArray) (hR:cY (dG B) 28 w nr 0 cr [] sT uG rows)
  (uS:FA w v S F keep ks) (JP:YrV w u e ks) (ss:1≤ks) (yr:ks≤kk) (zf:kk≤100000) (vK:Iz D (aD S F e.2)) (DZ:aD S F e.2≤M) (JQ:Iz D e.1) (gL: -M≤e.1) (Ea:e.1≤M) (hK:∀ x,Iz D x→-(M + M)≤x→x≤M + M→dV x kk)
  (vL:xG D M ⟨[],rows,[]⟩) (uE:(rows:List aN).length≤64) (uF:keep≤40) (hB:B≤w.heap.size) (dU:∀ b∈[g,rb],B≤b):
  Calls Tryz.prog 39 #[.pointer (some ⟨g,0,none⟩),v,.int .i64 ((rows:List aN).length:Int),u] w fun o w'=>o=.returned (iC [])∧qA [g,rb] w w'∧∃ Mp,mY B w' g Mp (dk S F keep (rows:List aN).length ⟨[],rows,[]⟩ e):=by
 have hL0:=mK S F e.2
 have hM0:0≤M:=by grind
 obtain ⟨g1,g2,g3,g4,g5,g6,g7,g8,g9⟩:=sn vK hL0 DZ JQ gL Ea
 have zn:B≤g:=dU g (by simp)
 have hlen:=vL.len
 obtain ⟨sS,pS,nS,cS,tS,yS,mS,dS,sF,pF,nF,cF,tF,yF,mF,dF,rfl,hS,hF⟩:=uS
 obtain ⟨sN,pN,nN,cN,tN,yN,mN,dN,sE,pE,nE,cE,tE,yE,mE,dE,rfl,hN,hE⟩:=JP
 have pM:iG (KU UU) 99 [g,rb] [(Runner,[.val (.slice none 0 0),.row 199 0 nr cr,.val (.slice none 0 0)]),(dT,(sT.flatten++uG).map .val)] w:=by
  have Jm:g≠rb:=fun e=>by subst e;exact absurd (bo hg zu) (by decide)
  refine ⟨rfl,by simp [Jm],fun j g' c' hj hc=> ?_,fun c' hc=> ?_,fun c' hc k hk=> ?_⟩
  ·match j,hj,hc with
   | 0,hj,hc=>cases hj;cases hc;exact hg
   | 1,hj,hc=>cases hj;cases hc;rw [ah];exact zu
   | j + 2,hj,_=>simp at hj
  ·simp only [List.mem_cons,List.not_mem_nil,or_false] at hc
   rcases hc with rfl | rfl
   ·exact ⟨rfl,rfl⟩
   ·exact ⟨rfl,bb (hR.all (az B))⟩
  ·simp only [List.mem_cons,List.not_mem_nil,or_false] at hc
   rcases hc with rfl | rfl
   ·have:k=199:=by simpa [ax,AV.cL] using hk
    subst this;exact ⟨by omega,by show 199 < 2 * 99 + 2;omega⟩
   ·rw [ao] at hk;cases hk
 refine ea Tryz.prog w _ (KU UU) (fun t=>Nat.beq t 22) table (fun _ _=>trivial) (ad:=[g,rb]) (us:=[_,_,_]) Tryz.func39 rfl Tryz.ntmps39 (Nat.le_of_ble_eq_true rfl) pM (Nat.le_of_ble_eq_true rfl) ?_
 (repeat first|refine wN ?_|refine wP rfl ?_|refine af rfl ?_|refine ag rfl ?_|refine wO rfl rfl ?_)
 refine VO.call rfl rfl (fk Tryz.func70) (fun cC er dv=>((mP _ _ S F keep e ks cC ⟨_,_,_,_,_,_,_,_,_,_,_,_,_,_,_,_,rfl,hS.k,hF.k⟩ ⟨_,_,_,_,_,_,_,_,_,_,_,_,_,_,_,_,rfl,hN.k,hE.k⟩ ss (by omega)).mono (fun o w2 h=>And.intro h dv.1.size)).mono ?_)
 rintro o w1 ⟨⟨r1,rfl,q1,aV⟩,FD⟩
 obtain ⟨s1,p1,n1,c1,t1,y1,m1,d1,rfl⟩:=q1.form
 refine ⟨_,rfl,aV,fun fe _ bb1=>wV rfl ?_⟩
 replace q1:=q1.mono (Nat.le_trans hB FD)
 (repeat first|refine wN ?_|refine wP rfl ?_|refine af rfl ?_|refine ag rfl ?_|refine wO rfl rfl ?_)
 refine VO.call rfl rfl (fk Tryz.func44) (fun dC gu eu=>((bF 0 dC (by omega) (by omega)).mono (fun o w2 h=>And.intro h eu.1.size)).mono ?_)
 rintro o w2 ⟨⟨r2,rfl,q2,bm⟩,qN⟩
 obtain ⟨s2,p2,n2,c2,t2,y2,m2,d2,rfl⟩:=q2.form
 refine ⟨_,rfl,bm,fun fZ _ bb2=>wV rfl ?_⟩
 replace q2:=q2.mono (Nat.le_trans hB qN)
 (repeat first|refine wN ?_|refine wP rfl ?_|refine af rfl ?_|refine ag rfl ?_|refine wO rfl rfl ?_)
 refine VO.call rfl rfl (fk Tryz.func44) (fun gv gY gV=>((bF 0 gv (by omega) (by omega)).mono (fun o w2 h=>And.intro h gV.1.size)).mono ?_)
 rintro o w3 ⟨⟨r3,rfl,q3,cD⟩,xH⟩
 obtain ⟨s3,p3,n3,c3,t3,y3,m3,d3,rfl⟩:=q3.form
 refine ⟨_,rfl,cD,fun kt _ bb3=>wV rfl ?_⟩
 replace q3:=q3.mono (Nat.le_trans hB xH)
 (repeat first|refine wN ?_|refine wP rfl ?_|refine af rfl ?_|refine ag rfl ?_|refine wO rfl rfl ?_)
 refine VO.fI rfl (fk Tryz.func71) (fun nj β qa qF ho=>((fJ _ _ e.1 [aD S F e.2] kk nj ((hN.k).up (by omega)) (dW (ho.own 20 (.base (List.mem_singleton.2 rfl)) _ _ rfl) [] (vs:=[[.bool s1,.slice p1 n1 c1,.bool t1,.slice y1 m1 d1]]) (by rfl) rfl (bZ.cons (q1.ki (hK _ vK (by grind) (by grind))) bZ.nil) (Nat.le_of_ble_eq_true rfl) (by decide)) (by omega) (Nat.le_of_ble_eq_true rfl)).mono (fun o w2 h=>And.intro h qF.1.size)).mono ?_)
 rintro o w4 ⟨⟨r4,rfl,q4,z4,gU⟩,FE⟩
 rw [gR] at q4
 obtain ⟨s4,p4,n4,c4,t4,y4,m4,d4,rfl⟩:=q4.form
 refine ⟨_,rfl,gU,fun pd _ AZ=>wV rfl ?_⟩
 replace q4:=q4.mono (Nat.le_trans hB FE)
 (repeat first|refine wN ?_|refine wP rfl ?_|refine af rfl ?_|refine ag rfl ?_|refine wO rfl rfl ?_)
 refine VO.call rfl rfl (fk Tryz.func72) (fun kg mG ku=>((bW _ _ e.1 (ai e.1 (aD S F e.2)) kk kk kg ((hN.k).up (by omega)) (q4.ki (hK _ g1 (by grind) (by grind))) (by omega) (by omega)).mono (fun o w2 h=>And.intro h ku.1.size)).mono ?_)
 rintro o w5 ⟨⟨r5,rfl,q5,gi⟩,qO⟩
 obtain ⟨s5,p5,n5,c5,t5,y5,m5,d5,rfl⟩:=q5.form
 refine ⟨_,rfl,gi,fun nk _ xf=>wV rfl ?_⟩
 replace q5:=q5.mono (Nat.le_trans hB qO)
 (repeat first|refine wN ?_|refine wP rfl ?_|refine af rfl ?_|refine ag rfl ?_|refine wO rfl rfl ?_)
 refine VO.call rfl rfl (fk Tryz.func72) (fun pK ux tw=>((bW _ _ (aD S F e.2) (ai e.1 (aD S F e.2)) kk kk pK (q1.ki (hK _ vK (by grind) (by grind))) (q4.ki (hK _ g1 (by grind) (by grind))) (by omega) (by omega)).mono (fun o w2 h=>And.intro h tw.1.size)).mono ?_)
 rintro o w6 ⟨⟨r6,rfl,q6,mX⟩,FF⟩
 obtain ⟨s6,p6,n6,c6,t6,y6,m6,d6,rfl⟩:=q6.form
 refine ⟨_,rfl,mX,fun tx _ CR=>wV rfl ?_⟩
 replace q6:=q6.mono (Nat.le_trans hB FF)
 (repeat first|refine wN ?_|refine wP rfl ?_|refine af rfl ?_|refine ag rfl ?_|refine wO rfl rfl ?_)
 have mf:dk S F keep (rows:List aN).length ⟨[],rows,[]⟩ e=rZ keep (rows:List aN).length ⟨kA (rows:List aN).length (e.1 - ai e.1 (aD S F e.2)) (kW [] (aD S F e.2 - ai e.1 (aD S F e.2))),rows++[dD S F [] e],[]++nH (rows:List aN).length [] (aD S F e.2 - ai e.1 (aD S F e.2))⟩:=rfl
 refine VO.sm (B:=B) (mm:=aD S F e.2 - ai e.1 (aD S F e.2)) kk rfl rfl (fk Tryz.func73) rfl (fun ug FG GQ=>q6.kr) hB (fun w7 r7 k7 b7 q7=> ?_)
 obtain ⟨s7,p7,n7,c7,t7,y7,m7,d7,rfl⟩:=q7.form
 refine wV rfl ?_
 (repeat first|refine wN ?_|refine wP rfl ?_|refine af rfl ?_|refine ag rfl ?_|refine wO rfl rfl ?_)
 have nw:([]:List Uq)++nH (rows:List aN).length [] (aD S F e.2 - ai e.1 (aD S F e.2))=[]:=rfl
 obtain ⟨u1,u2,u3⟩:=tH (q:=[]) (m:=aD S F e.2 - ai e.1 (aD S F e.2)) (fun p hp=>(by cases hp)) g7 g8
 refine VO.call rfl rfl (fk Tryz.func16) (fun uQ Fg zl=>((dx _ _ (ai e.1 (aD S F e.2)) ((0:Rat)) kk kk uQ (q4.ki (hK _ g1 (by grind) (by grind))) (q7.ki (hK _ u1 (by grind) (by grind))) (by omega) (by omega)).mono (fun o w2 h=>And.intro h zl.1.size)).mono ?_)
 rintro o w8 ⟨⟨r8,rfl,q8,qU⟩,yt⟩
 obtain ⟨s8,p8,n8,c8,t8,y8,m8,d8,rfl⟩:=q8.form
 refine ⟨_,rfl,qU,fun vH _ JL=>wV rfl ?_⟩
 replace q8:=q8.mono (Nat.le_trans hB yt)
 (repeat first|refine wN ?_|refine wP rfl ?_|refine af rfl ?_|refine ag rfl ?_|refine wO rfl rfl ?_)
 have LV:((0:Int):Rat)=0:=rfl
 have AA:dG B w8 [.bool s1,.slice p1 n1 c1,.bool t1,.slice y1 m1 d1,.bool s4,.slice p4 n4 c4,.bool t4,.slice y4 m4 d4,.bool s5,.slice p5 n5 c5,.bool t5,.slice y5 m5 d5,.bool s7,.slice p7 n7 c7,.bool t7,.slice y7 m7 d7,.bool s8,.slice p8 n8 c8,.bool t8,.slice y8 m8 d8,.bool s2,.slice p2 n2 c2,.bool t2,.slice y2 m2 d2,.bool s3,.slice p3 n3 c3,.bool t3,.slice y3 m3 d3] (dD S F [] e):=⟨[.bool s1,.slice p1 n1 c1,.bool t1,.slice y1 m1 d1],[.bool s4,.slice p4 n4 c4,.bool t4,.slice y4 m4 d4],[.bool s5,.slice p5 n5 c5,.bool t5,.slice y5 m5 d5],[.bool s7,.slice p7 n7 c7,.bool t7,.slice y7 m7 d7],[.bool s8,.slice p8 n8 c8,.bool t8,.slice y8 m8 d8],[.bool s2,.slice p2 n2 c2,.bool t2,.slice y2 m2 d2],[.bool s3,.slice p3 n3 c3,.bool t3,.slice y3 m3 d3],rfl,⟨_,_,_,_,_,_,_,_,rfl,q1.k⟩,⟨_,_,_,_,_,_,_,_,rfl,q4.k⟩,⟨_,_,_,_,_,_,_,_,rfl,q5.k⟩,⟨_,_,_,_,_,_,_,_,rfl,q7.k⟩,⟨_,_,_,_,_,_,_,_,rfl,q8.k⟩,⟨_,_,_,_,_,_,_,_,rfl,q2.k⟩,⟨_,_,_,_,_,_,_,_,rfl,q3.k⟩⟩
 obtain ⟨iD,jw⟩:=hR.el.ok (az B)
 have rn:=hR.len
 refine VO.app (bk _ _) (t:=33) (e:=dT) (sz:=28) (n:=nr) (c:=cr) (mm:=1) (known:=sT.flatten.map .val) (spare:=uG.map .val) (del:=some 199) (news:=([.bool s1,.slice p1 n1 c1,.bool t1,.slice y1 m1 d1,.bool s4,.slice p4 n4 c4,.bool t4,.slice y4 m4 d4,.bool s5,.slice p5 n5 c5,.bool t5,.slice y5 m5 d5,.bool s7,.slice p7 n7 c7,.bool t7,.slice y7 m7 d7,.bool s8,.slice p8 n8 c8,.bool t8,.slice y8 m8 d8,.bool s2,.slice p2 n2 c2,.bool t2,.slice y2 m2 d2,.bool s3,.slice p3 n3 c3,.bool t3,.slice y3 m3 d3]:List Value).map .val) (dst:=52) rfl rfl rfl rfl rfl rfl rfl rfl (Nat.le_of_ble_eq_true rfl) rfl (.inr ⟨199,rfl,congrArg (fun l=>some (dT,l)) (List.map_append ..),rfl⟩) (.inl rfl) (by rw [List.length_map,jw,rn]) (by rw [←List.map_append,List.length_map];exact hR.fl) hR.le hR.cm ⟨ao _,ao _,rfl⟩ ⟨bb iD,bb hR.so,rfl⟩ rfl (by omega)
  (fun w1 β k1 b1 ho=>⟨_,_,rfl,.inr ⟨β 51,0,rfl,cK (rest:=[]) (ho.own 51 (.base (List.mem_append_right _ (List.mem_singleton.2 rfl))) _ _ rfl) rfl⟩⟩)
  (fun nD lD uT ρ GM GN fC jc gm ed AB iB=>wV rfl ?_)
 (repeat (first | refine wN ?_ | refine wP rfl ?_ | refine af rfl ?_ | refine wO rfl rfl ?_))
 obtain ⟨nI,sw⟩:∃ nI,nI=nr + 1:=⟨_,rfl⟩
 obtain ⟨qQ,sx⟩:∃ qQ,qQ=(sT++[[.bool s1,.slice p1 n1 c1,.bool t1,.slice y1 m1 d1,.bool s4,.slice p4 n4 c4,.bool t4,.slice y4 m4 d4,.bool s5,.slice p5 n5 c5,.bool t5,.slice y5 m5 d5,.bool s7,.slice p7 n7 c7,.bool t7,.slice y7 m7 d7,.bool s8,.slice p8 n8 c8,.bool t8,.slice y8 m8 d8,.bool s2,.slice p2 n2 c2,.bool t2,.slice y2 m2 d2,.bool s3,.slice p3 n3 c3,.bool t3,.slice y3 m3 d3]]:List (List Value)):=⟨_,rfl⟩
 have fq:nv (dG B) 28 nD nI lD qQ uT (rows++[dD S F [] e]):=by rw [sw,sx];exact ⟨by rw [rn,List.length_append];rfl,(hR.el.kp (az B) (by (with_reducible (repeat (first | assumption | exact kU _ | exact kR _ | exact Kp.of (U:=UU) (by assumption) | exact aE.of (by assumption) | refine kT ?_ (by assumption)))))).snoc ((az B).kp AA (by (with_reducible (repeat (first | assumption | exact kU _ | exact kR _ | exact Kp.of (U:=UU) (by assumption) | exact aE.of (by assumption) | refine kT ?_ (by assumption)))))),AB,iB,jc,gm,by simpa using ed⟩
 refine VS.narrow [(0,.box 198 0),(2,.val (.int .i64 ((rows:List aN).length:Int))),(5,.box 5 0),(8,.box 8 0)] [(198,(Runner,[.val (.slice none 0 0),.row 52 0 nI lD,.val (.slice none 0 0)])),(52,(dT,qQ.flatten.map AV.val++uT)),(5,(28,([.bool sS,.slice pS nS cS,.bool tS,.slice yS mS dS,.bool sF,.slice pF nF cF,.bool tF,.slice yF mF dF,.int .i64 (keep:Int)]:List Value).map AV.val)),(8,(dT,([.bool s1,.slice p1 n1 c1,.bool t1,.slice y1 m1 d1,.bool s4,.slice p4 n4 c4,.bool t4,.slice y4 m4 d4,.bool s5,.slice p5 n5 c5,.bool t5,.slice y5 m5 d5,.bool s7,.slice p7 n7 c7,.bool t7,.slice y7 m7 d7,.bool s8,.slice p8 n8 c8,.bool t8,.slice y8 m8 d8,.bool s2,.slice p2 n2 c2,.bool t2,.slice y2 m2 d2,.bool s3,.slice p3 n3 c3,.bool t3,.slice y3 m3 d3]:List Value).map AV.val))] ⟨rfl,rfl,rfl,rfl,trivial⟩ ⟨by rw [sw];rfl,by rw [sx];exact congrArg (fun l=>some (dT,l++uT)) (by simp),rfl,rfl,trivial⟩ rfl ⟨.lit rfl,.append (.vals _) (.none iB),.vals _,.vals _,trivial⟩ ?_
 refine VS.draw (bk _ _) (jN _ _) [74] (by kernel_rfl) (VO.run 80 rfl ?_)
 refine VO.Dh (B:=B) (d2:=62) (d:=e.1 - ai e.1 (aD S F e.2)) kk rfl rfl rfl (fk Tryz.func74) rfl rfl (by show 62 < 2 * 99;omega) (fun j hj=> ?_) (Nat.le_of_ble_eq_true rfl) (fun ug FG GQ=>q5.kr) (hK _ g4 (by grind) (by grind)) zf hB (fun Bb k19 b19 DI=>wV rfl ?_) (fun Bb nC GR GS k19 b19 DI fA=>wV rfl ?_)
 ·have:j=52:=by simpa [ax,AV.cL] using hj
  subst this;intro h;cases h
 ·have vi:kA (rows:List aN).length (e.1 - ai e.1 (aD S F e.2)) (kW [] (aD S F e.2 - ai e.1 (aD S F e.2)))=[]:=if_neg DI
  (repeat first|refine wN ?_|refine wP rfl ?_|refine af rfl ?_|refine ag rfl ?_|refine wO rfl rfl ?_)
  refine VO.cZ (x:=.val (.slice none 0 0)) (p:=fun _=>none) (c:=0) rfl (fun β=>.inr ⟨none,rfl⟩) rfl (fk Tryz.func75) rfl (fun Dk Mq Mr=>wV rfl ?_)
  (repeat first|refine wN ?_|refine wP rfl ?_|refine af rfl ?_|refine ag rfl ?_|refine wO rfl rfl ?_)
  have pO:dk S F keep (rows:List aN).length ⟨[],rows,[]⟩ e=⟨[],rows++[dD S F [] e],[]⟩:=by rw [mf,vi,nw];rfl
  (repeat first|refine wN ?_|refine wP rfl ?_|refine af rfl ?_|refine ag rfl ?_|refine wO rfl rfl ?_)
  refine VS.ky (bk _ _) rfl (fun wz β kz oz en=> ?_)
  obtain ⟨o1,o2⟩:=eb (en.own 198 _ _ rfl) 0 g rfl rfl
  have oR:=(en.own 52 _ _ rfl).cls
  rw [List.map_append,ah] at oR
  have nR:=fh hB dU (show cB 99 [g,rb] w 52 (β 52) from (en.own 52 _ _ rfl).new)
  rw [pO]
  refine ⟨rfl,oz.1,[g,β 52],⟨fun b hb=> ?_,_,_,_,o2,?_⟩⟩
  ·simp only [List.mem_cons,List.not_mem_nil,or_false] at hb
   rcases hb with rfl | rfl
   ·exact zn
   ·exact nR
  ·exact .inr (.inl ⟨β 52,rfl,rfl,rfl,rfl,rfl,⟨_,_,_,_,rfl,oR,(fq.kp (az B) (by (with_reducible (repeat (first | assumption | exact kU _ | exact kR _ | exact Kp.of (U:=UU) (by assumption) | exact aE.of (by assumption) | refine kT ?_ (by assumption)))))).o β⟩⟩)
 ·obtain ⟨q2,sA⟩:∃ q2:List Vq,q2=[((rows:List aN).length,e.1 - ai e.1 (aD S F e.2))]:=⟨_,rfl⟩
  rw [←sA] at fA
  have vi:kA (rows:List aN).length (e.1 - ai e.1 (aD S F e.2)) (kW [] (aD S F e.2 - ai e.1 (aD S F e.2)))=q2:=by rw [sA];exact if_pos DI
  obtain ⟨nz,Ms⟩:∃ nz,nz=1:=⟨_,rfl⟩
  obtain ⟨fw,Dl⟩:∃ fw,fw=0:=⟨_,rfl⟩
  obtain ⟨kC,Dm⟩:∃ kC:List Value,kC=[]:=⟨_,rfl⟩
  have fA:cY (cH B) 5 Bb nz fw nC kC GR GS q2:=by rw [Ms,Dl,Dm];exact fA
  refine VO.nil ?_
  refine VS.narrow [(0,.box 198 0),(2,.val (.int .i64 ((rows:List aN).length:Int))),(5,.box 5 0),(8,.box 8 0)] [(198,(Runner,[.row 62 fw nz nC,.row 52 0 nI lD,.val (.slice none 0 0)])),(52,(dT,qQ.flatten.map AV.val++uT)),(5,(28,([.bool sS,.slice pS nS cS,.bool tS,.slice yS mS dS,.bool sF,.slice pF nF cF,.bool tF,.slice yF mF dF,.int .i64 (keep:Int)]:List Value).map AV.val)),(8,(dT,([.bool s1,.slice p1 n1 c1,.bool t1,.slice y1 m1 d1,.bool s4,.slice p4 n4 c4,.bool t4,.slice y4 m4 d4,.bool s5,.slice p5 n5 c5,.bool t5,.slice y5 m5 d5,.bool s7,.slice p7 n7 c7,.bool t7,.slice y7 m7 d7,.bool s8,.slice p8 n8 c8,.bool t8,.slice y8 m8 d8,.bool s2,.slice p2 n2 c2,.bool t2,.slice y2 m2 d2,.bool s3,.slice p3 n3 c3,.bool t3,.slice y3 m3 d3]:List Value).map AV.val)),(62,(cO,(kC++(GR.flatten++GS)).map AV.val))] ⟨rfl,rfl,rfl,rfl,trivial⟩ ⟨by rw [Dl,Ms];rfl,rfl,rfl,rfl,by rw [Dm];rfl,trivial⟩ rfl ⟨.lit rfl,.append (.vals _) (.none iB),.vals _,.vals _,.vals _,trivial⟩ ?_
  (repeat first|refine wN ?_|refine wP rfl ?_|refine af rfl ?_|refine ag rfl ?_|refine wO rfl rfl ?_)
  by_cases lI:nz=0
  ·refine VO.cZ (x:=.row 62 fw nz nC) (p:=fun _=>none) (c:=nC) rfl (fun β=>.inr ⟨_,congrArg (fun n=>Value.slice (some ⟨β 62,fw,none⟩) n nC) lI⟩) rfl (fk Tryz.func75) rfl (fun Dk Mq Mr=>wV rfl ?_)
   (repeat first|refine wN ?_|refine wP rfl ?_|refine af rfl ?_|refine ag rfl ?_|refine wO rfl rfl ?_)
   have AD:q2=[]:=List.eq_nil_of_length_eq_zero (by rw [←fA.len];exact lI)
   have pO:dk S F keep (rows:List aN).length ⟨[],rows,[]⟩ e=⟨q2,rows++[dD S F [] e],[]⟩:=by rw [mf,vi,nw,AD];rfl
   (repeat first|refine wN ?_|refine wP rfl ?_|refine af rfl ?_|refine ag rfl ?_|refine wO rfl rfl ?_)
   refine VS.ky (bk _ _) rfl (fun wz β kz oz en=> ?_)
   obtain ⟨o1,o2⟩:=eb (en.own 198 _ _ rfl) 0 g rfl rfl
   have oR:=(en.own 52 _ _ rfl).cls
   rw [List.map_append,ah] at oR
   have nR:=fh hB dU (show cB 99 [g,rb] w 52 (β 52) from (en.own 52 _ _ rfl).new)
   have oV:=(en.own 62 _ _ rfl).cls
   rw [ah] at oV
   have nV:=fh hB dU (show cB 99 [g,rb] w 62 (β 62) from (en.own 62 _ _ rfl).new)
   rw [pO]
   refine ⟨rfl,oz.1,[g,β 62,β 52],⟨fun b hb=> ?_,_,_,_,o2,?_⟩⟩
   ·simp only [List.mem_cons,List.not_mem_nil,or_false] at hb
    rcases hb with rfl | rfl | rfl
    ·exact zn
    ·exact nV
    ·exact nR
   ·exact .inr (.inr (.inl ⟨β 62,β 52,rfl,rfl,rfl,⟨_,_,_,_,_,_,rfl,oV,fA.kp (aM B) (by (with_reducible (repeat (first | assumption | exact kU _ | exact kR _ | exact Kp.of (U:=UU) (by assumption) | exact aE.of (by assumption) | refine kT ?_ (by assumption)))))⟩,⟨_,_,_,_,rfl,oR,(fq.kp (az B) (by (with_reducible (repeat (first | assumption | exact kU _ | exact kR _ | exact Kp.of (U:=UU) (by assumption) | exact aE.of (by assumption) | refine kT ?_ (by assumption)))))).o β⟩⟩))
  obtain ⟨pp,qt,KZ⟩:∃ pp qt,q2=pp::qt:=by
   cases q2 with
   | nil=>exact absurd fA.len lI
   | cons pp qt=>exact ⟨pp,qt,rfl⟩
  subst KZ
  obtain ⟨AE,vM,rfl,hE4,sB⟩:∃ AE vM,GR=AE::vM∧cH B Bb AE pp∧cM (cH B) Bb qt vM:=by
   have:=fA.el
   cases this with
   | cons h1 h2=>exact ⟨_,_,rfl,h1,h2⟩
  obtain ⟨s9,p9,n9,c9,t9,y9,m9,d9,rfl,Jk⟩:=hE4
  have AG:=fA.le
  have AH:=fA.len
  have AJ:=fA.cm
  have jH:kC.length=fw:=fA.pl.resolve_right (by omega)
  refine VO.cI rfl rfl (fk Tryz.func75) rfl lI (by intro h;cases h) (fun Dk Mq Mr=>wV rfl ?_)
  (repeat first|refine wN ?_|refine wP rfl ?_|refine af rfl ?_|refine ag rfl ?_|refine wO rfl rfl ?_)
  refine VO.dh rfl (([.int .i64 (pp.1:Int)]:List Value).map .val) rfl (bh jH 0 _ ⟨_,rfl⟩) (wV rfl ?_)
  (repeat first|refine wN ?_|refine wP rfl ?_|refine af rfl ?_|refine ag rfl ?_|refine wO rfl rfl ?_)
  have GU:IntKind.i64.wrap (((rows:List aN).length:Int) - (keep:Int))=((rows:List aN).length:Int) - (keep:Int):=IntWalk.i64_in _ (by omega)
  by_cases hx:pp.1 + keep=(rows:List aN).length
  ·refine VS.bE rfl (by rw [GU,beq_iff_eq];omega) ?_
   (repeat first|refine wN ?_|refine wP rfl ?_|refine af rfl ?_|refine ag rfl ?_|refine wO rfl rfl ?_)
   refine VO.dh rfl (([.int .i64 (pp.1:Int)]:List Value).map .val) rfl (bh jH 0 _ ⟨_,rfl⟩) (wV rfl ?_)
   (repeat first|refine wN ?_|refine wP rfl ?_|refine af rfl ?_|refine ag rfl ?_|refine wO rfl rfl ?_)
   refine VO.dh rfl (([.bool s9,.slice p9 n9 c9,.bool t9,.slice y9 m9 d9]:List Value).map .val) rfl (bh jH 1 _ ⟨[],rfl⟩) (wV rfl ?_)
   (repeat first|refine wN ?_|refine wP rfl ?_|refine af rfl ?_|refine ag rfl ?_|refine wO rfl rfl ?_)
   have fi:=fq.len
   have Cp:pp.1 < nI:=by rw [fi,List.length_append,List.length_singleton];omega
   refine VO.cond rfl ⟨by omega,by omega⟩ (wV rfl ?_)
   obtain ⟨rq,zo⟩:∃ rq,(rows++[dD S F [] e])[pp.1]? =some rq:=⟨_,List.getElem?_eq_getElem (by rw [←fi];exact Cp)⟩
   obtain ⟨zp,tI,zt⟩:=fq.el.at pp.1 rq zo
   have gG:=fq.fl
   have Jl:=fq.le
   refine VO.cond rfl (by show 0 + ((pp.1:Int)).toNat * 28 + 20 + 4≤_;rw [gG,Int.toNat_natCast];omega) (VO.ft 52 rfl (kh (new:=[.bool s9,.slice p9 n9 c9,.bool t9,.slice y9 m9 d9]) (o:=20) (fq.el.lens (az B)) tI (Nat.le_of_ble_eq_true rfl)) (wV rfl ?_))
   (repeat first|refine wN ?_|refine wP rfl ?_|refine af rfl ?_|refine ag rfl ?_|refine wO rfl rfl ?_)
   have hR3:nv (dG B) 28 Dk nI lD (qQ.set pp.1 (zp.take 20++([.bool s9,.slice p9 n9 c9,.bool t9,.slice y9 m9 d9]++zp.drop (20 + ([.bool s9,.slice p9 n9 c9,.bool t9,.slice y9 m9 d9]:List Value).length)))) uT ((rows++[dD S F [] e]).modify pp.1 (fun r=>{ r with aZ:=pp.2 })):=
    ⟨by rw [List.length_modify];exact fi,by rw [gJ zo];exact (fq.el.kp (az B) (by (with_reducible (repeat (first | assumption | exact kU _ | exact kR _ | exact Kp.of (U:=UU) (by assumption) | exact aE.of (by assumption) | refine kT ?_ (by assumption)))))).set (oK ((az B).kp zt (by (with_reducible (repeat (first | assumption | exact kU _ | exact kR _ | exact Kp.of (U:=UU) (by assumption) | exact aE.of (by assumption) | refine kT ?_ (by assumption)))))) ⟨_,_,_,_,_,_,_,_,rfl,Jk.kp (by (with_reducible (repeat (first | assumption | exact kU _ | exact kR _ | exact Kp.of (U:=UU) (by assumption) | exact aE.of (by assumption) | refine kT ?_ (by assumption)))))⟩),fq.so,fq.sl,fq.le,fq.cm,by
     rw [List.length_append,List.length_map,cW (kj (fq.el.lens (az B)) (sq ((az B).len zt) rfl)),List.length_set]
     rw [List.length_append,List.length_map,cW (fq.el.lens (az B))] at gG
     exact gG⟩
   refine VO.iA rfl rfl (fk Tryz.func76) rfl (by omega) AG AJ (fun j hj=> ?_) (Nat.le_of_ble_eq_true rfl) (fun w21 k21 b21=>wV rfl ?_)
   ·simp only [ax,AV.cL,List.flatMap_cons,List.flatMap_nil,List.mem_append,List.mem_cons,List.not_mem_nil,or_false,List.append_nil] at hj
    rcases hj with rfl | rfl <;> (intro h;cases h)
   (repeat first|refine wN ?_|refine wP rfl ?_|refine af rfl ?_|refine ag rfl ?_|refine wO rfl rfl ?_)
   have hV4:cY (cH B) 5 w21 (nz - 1) (if nC=1 then fw else fw + 5) (nC - 1) (kC++[.int .i64 (pp.1:Int),.bool s9,.slice p9 n9 c9,.bool t9,.slice y9 m9 d9]) vM GS qt:=⟨by rw [AH];rfl,mM jH,by rw [List.all_append,fA.po];rfl,sB.kp (aM B) (by (with_reducible (repeat (first | assumption | exact kU _ | exact kR _ | exact Kp.of (U:=UU) (by assumption) | exact aE.of (by assumption) | refine kT ?_ (by assumption))))),fA.so,by omega,by omega,mO fA.fl⟩
   have pO:dk S F keep (rows:List aN).length ⟨[],rows,[]⟩ e=⟨qt,(rows++[dD S F [] e]).modify pp.1 (fun r=>{ r with aZ:=pp.2 }),[]⟩:=by
    rw [mf,vi,nw]
    exact if_pos hx
   (repeat first|refine wN ?_|refine wP rfl ?_|refine af rfl ?_|refine ag rfl ?_|refine wO rfl rfl ?_)
   refine VS.ky (bk _ _) rfl (fun wz β kz oz en=> ?_)
   obtain ⟨o1,o2⟩:=eb (en.own 198 _ _ rfl) 0 g rfl rfl
   have oR:=(en.own 52 _ _ rfl).cls
   rw [List.map_append,ah] at oR
   have nR:=fh hB dU (show cB 99 [g,rb] w 52 (β 52) from (en.own 52 _ _ rfl).new)
   have oV:=(en.own 62 _ _ rfl).cls
   rw [dM,ah] at oV
   have nV:=fh hB dU (show cB 99 [g,rb] w 62 (β 62) from (en.own 62 _ _ rfl).new)
   rw [pO]
   refine ⟨rfl,oz.1,[g,β 62,β 52],⟨fun b hb=> ?_,_,_,_,o2,?_⟩⟩
   ·simp only [List.mem_cons,List.not_mem_nil,or_false] at hb
    rcases hb with rfl | rfl | rfl
    ·exact zn
    ·exact nV
    ·exact nR
   ·exact .inr (.inr (.inl ⟨β 62,β 52,rfl,rfl,rfl,⟨_,_,_,_,_,_,rfl,oV,hV4.kp (aM B) (by (with_reducible (repeat (first | assumption | exact kU _ | exact kR _ | exact Kp.of (U:=UU) (by assumption) | exact aE.of (by assumption) | refine kT ?_ (by assumption)))))⟩,⟨_,_,_,_,rfl,oR,(hR3.kp (az B) (by (with_reducible (repeat (first | assumption | exact kU _ | exact kR _ | exact Kp.of (U:=UU) (by assumption) | exact aE.of (by assumption) | refine kT ?_ (by assumption)))))).o β⟩⟩))
  ·refine VS.bu rfl (by rw [GU,beq_eq_false_iff_ne];omega) ?_
   have pO:dk S F keep (rows:List aN).length ⟨[],rows,[]⟩ e=⟨pp::qt,rows++[dD S F [] e],[]⟩:=by
    rw [mf,vi,nw]
    exact if_neg hx
   (repeat first|refine wN ?_|refine wP rfl ?_|refine af rfl ?_|refine ag rfl ?_|refine wO rfl rfl ?_)
   refine VS.ky (bk _ _) rfl (fun wz β kz oz en=> ?_)
   obtain ⟨o1,o2⟩:=eb (en.own 198 _ _ rfl) 0 g rfl rfl
   have oR:=(en.own 52 _ _ rfl).cls
   rw [List.map_append,ah] at oR
   have nR:=fh hB dU (show cB 99 [g,rb] w 52 (β 52) from (en.own 52 _ _ rfl).new)
   have oV:=(en.own 62 _ _ rfl).cls
   rw [ah] at oV
   have nV:=fh hB dU (show cB 99 [g,rb] w 62 (β 62) from (en.own 62 _ _ rfl).new)
   rw [pO]
   refine ⟨rfl,oz.1,[g,β 62,β 52],⟨fun b hb=> ?_,_,_,_,o2,?_⟩⟩
   ·simp only [List.mem_cons,List.not_mem_nil,or_false] at hb
    rcases hb with rfl | rfl | rfl
    ·exact zn
    ·exact nV
    ·exact nR
   ·exact .inr (.inr (.inl ⟨β 62,β 52,rfl,rfl,rfl,⟨_,_,_,_,_,_,rfl,oV,fA.kp (aM B) (by (with_reducible (repeat (first | assumption | exact kU _ | exact kR _ | exact Kp.of (U:=UU) (by assumption) | exact aE.of (by assumption) | refine kT ?_ (by assumption)))))⟩,⟨_,_,_,_,rfl,oR,(fq.kp (az B) (by (with_reducible (repeat (first | assumption | exact kU _ | exact kR _ | exact Kp.of (U:=UU) (by assumption) | exact aE.of (by assumption) | refine kT ?_ (by assumption)))))).o β⟩⟩))
end Go.Proofs.YtabalinjfgcfeaaGreat
set_option maxRecDepth 4000
namespace Go.Proofs.YtabalinjfgcfeaaGreat
open Go.RowKit
attribute [local irreducible] aB VS
set_option maxRecDepth 4000 in
set_option maxHeartbeats 16000000 in
theorem iYear_C {B g keep D kk ks:Nat} {M S F:Rat} {e:Rat×Rat} {vb off nq cq:Nat} {pre Mt:List Value} {Mu:List (List Value)} {rb nr cr:Nat} {sT:List (List Value)} {uG:List Value} {q:List Vq} {rows:List aN} {uses:List Uq} {v u:Value} {w:World} (hg:aW w g Runner #[.slice (some ⟨vb,off,none⟩) nq cq,.slice (some ⟨rb,0,none⟩) nr cr,.slice none 0 0]) (Bc:aW w vb cO (pre++(Mu.flatten++Mt)).toArray) (hV:cY (cH B) 5 w nq off cq pre Mu Mt q) (zu:aW w rb dT (sT.flatten++uG).toArray) (hR:cY (dG B) 28 w nr 0 cr [] sT uG rows)
  (uS:FA w v S F keep ks) (JP:YrV w u e ks) (ss:1≤ks) (yr:ks≤kk) (zf:kk≤100000) (vK:Iz D (aD S F e.2)) (DZ:aD S F e.2≤M) (JQ:Iz D e.1) (gL: -M≤e.1) (Ea:e.1≤M) (hK:∀ x,Iz D x→-(M + M)≤x→x≤M + M→dV x kk)
  (vL:xG D M ⟨q,rows,[]⟩) (uE:(rows:List aN).length≤64) (uF:keep≤40) (hB:B≤w.heap.size) (dU:∀ b∈[g,vb,rb],B≤b):
  Calls Tryz.prog 39 #[.pointer (some ⟨g,0,none⟩),v,.int .i64 ((rows:List aN).length:Int),u] w fun o w'=>o=.returned (iC [])∧qA [g,vb,rb] w w'∧∃ Mp,mY B w' g Mp (dk S F keep (rows:List aN).length ⟨q,rows,[]⟩ e):=by
 have hL0:=mK S F e.2
 have hM0:0≤M:=by grind
 obtain ⟨g1,g2,g3,g4,g5,g6,g7,g8,g9⟩:=sn vK hL0 DZ JQ gL Ea
 have zn:B≤g:=dU g (by simp)
 have hlen:=vL.len
 obtain ⟨sS,pS,nS,cS,tS,yS,mS,dS,sF,pF,nF,cF,tF,yF,mF,dF,rfl,hS,hF⟩:=uS
 obtain ⟨sN,pN,nN,cN,tN,yN,mN,dN,sE,pE,nE,cE,tE,yE,mE,dE,rfl,hN,hE⟩:=JP
 have jv:q.length≤1000:=by dsimp only at hlen;omega
 have pM:iG (KU UU) 99 [g,vb,rb] [(Runner,[.row 199 off nq cq,.row 200 0 nr cr,.val (.slice none 0 0)]),(cO,(pre++(Mu.flatten++Mt)).map .val),(dT,(sT.flatten++uG).map .val)] w:=by
  have Jm:g≠vb:=fun e=>by subst e;exact absurd (bo hg Bc) (by decide)
  have h02:g≠rb:=fun e=>by subst e;exact absurd (bo hg zu) (by decide)
  have Ae:vb≠rb:=fun e=>by subst e;exact absurd (bo Bc zu) (by decide)
  refine ⟨rfl,by simp [Jm,h02,Ae],fun j g' c' hj hc=> ?_,fun c' hc=> ?_,fun c' hc k hk=> ?_⟩
  ·match j,hj,hc with
   | 0,hj,hc=>cases hj;cases hc;exact hg
   | 1,hj,hc=>cases hj;cases hc;rw [ah];exact Bc
   | 2,hj,hc=>cases hj;cases hc;rw [ah];exact zu
   | j + 3,hj,_=>simp at hj
  ·simp only [List.mem_cons,List.not_mem_nil,or_false] at hc
   rcases hc with rfl | rfl | rfl
   ·exact ⟨rfl,rfl⟩
   ·exact ⟨rfl,bb (hV.all (aM B))⟩
   ·exact ⟨rfl,bb (hR.all (az B))⟩
  ·simp only [List.mem_cons,List.not_mem_nil,or_false] at hc
   rcases hc with rfl | rfl | rfl
   ·have:k=199∨k=200:=by simpa [ax,AV.cL] using hk
    rcases this with rfl | rfl
    ·exact ⟨by omega,by show 199 < 2 * 99 + 3;omega⟩
    ·exact ⟨by omega,by show 200 < 2 * 99 + 3;omega⟩
   ·rw [ao] at hk;cases hk
   ·rw [ao] at hk;cases hk
 refine ea Tryz.prog w _ (KU UU) (fun t=>Nat.beq t 22) table (fun _ _=>trivial) (ad:=[g,vb,rb]) (us:=[_,_,_]) Tryz.func39 rfl Tryz.ntmps39 (Nat.le_of_ble_eq_true rfl) pM (Nat.le_of_ble_eq_true rfl) ?_
 (repeat first|refine wN ?_|refine wP rfl ?_|refine af rfl ?_|refine ag rfl ?_|refine wO rfl rfl ?_)
 refine VO.call rfl rfl (fk Tryz.func70) (fun cC er dv=>((mP _ _ S F keep e ks cC ⟨_,_,_,_,_,_,_,_,_,_,_,_,_,_,_,_,rfl,hS.k,hF.k⟩ ⟨_,_,_,_,_,_,_,_,_,_,_,_,_,_,_,_,rfl,hN.k,hE.k⟩ ss (by omega)).mono (fun o w2 h=>And.intro h dv.1.size)).mono ?_)
 rintro o w1 ⟨⟨r1,rfl,q1,aV⟩,FD⟩
 obtain ⟨s1,p1,n1,c1,t1,y1,m1,d1,rfl⟩:=q1.form
 refine ⟨_,rfl,aV,fun fe _ bb1=>wV rfl ?_⟩
 replace q1:=q1.mono (Nat.le_trans hB FD)
 (repeat first|refine wN ?_|refine wP rfl ?_|refine af rfl ?_|refine ag rfl ?_|refine wO rfl rfl ?_)
 refine VO.call rfl rfl (fk Tryz.func44) (fun dC gu eu=>((bF 0 dC (by omega) (by omega)).mono (fun o w2 h=>And.intro h eu.1.size)).mono ?_)
 rintro o w2 ⟨⟨r2,rfl,q2,bm⟩,qN⟩
 obtain ⟨s2,p2,n2,c2,t2,y2,m2,d2,rfl⟩:=q2.form
 refine ⟨_,rfl,bm,fun fZ _ bb2=>wV rfl ?_⟩
 replace q2:=q2.mono (Nat.le_trans hB qN)
 (repeat first|refine wN ?_|refine wP rfl ?_|refine af rfl ?_|refine ag rfl ?_|refine wO rfl rfl ?_)
 refine VO.call rfl rfl (fk Tryz.func44) (fun gv gY gV=>((bF 0 gv (by omega) (by omega)).mono (fun o w2 h=>And.intro h gV.1.size)).mono ?_)
 rintro o w3 ⟨⟨r3,rfl,q3,cD⟩,xH⟩
 obtain ⟨s3,p3,n3,c3,t3,y3,m3,d3,rfl⟩:=q3.form
 refine ⟨_,rfl,cD,fun kt _ bb3=>wV rfl ?_⟩
 replace q3:=q3.mono (Nat.le_trans hB xH)
 (repeat first|refine wN ?_|refine wP rfl ?_|refine af rfl ?_|refine ag rfl ?_|refine wO rfl rfl ?_)
 refine VO.fI rfl (fk Tryz.func71) (fun nj β qa qF ho=>((fJ _ _ e.1 [aD S F e.2] kk nj ((hN.k).up (by omega)) (dW (ho.own 20 (.base (List.mem_singleton.2 rfl)) _ _ rfl) [] (vs:=[[.bool s1,.slice p1 n1 c1,.bool t1,.slice y1 m1 d1]]) (by rfl) rfl (bZ.cons (q1.ki (hK _ vK (by grind) (by grind))) bZ.nil) (Nat.le_of_ble_eq_true rfl) (by decide)) (by omega) (Nat.le_of_ble_eq_true rfl)).mono (fun o w2 h=>And.intro h qF.1.size)).mono ?_)
 rintro o w4 ⟨⟨r4,rfl,q4,z4,gU⟩,FE⟩
 rw [gR] at q4
 obtain ⟨s4,p4,n4,c4,t4,y4,m4,d4,rfl⟩:=q4.form
 refine ⟨_,rfl,gU,fun pd _ AZ=>wV rfl ?_⟩
 replace q4:=q4.mono (Nat.le_trans hB FE)
 (repeat first|refine wN ?_|refine wP rfl ?_|refine af rfl ?_|refine ag rfl ?_|refine wO rfl rfl ?_)
 refine VO.call rfl rfl (fk Tryz.func72) (fun kg mG ku=>((bW _ _ e.1 (ai e.1 (aD S F e.2)) kk kk kg ((hN.k).up (by omega)) (q4.ki (hK _ g1 (by grind) (by grind))) (by omega) (by omega)).mono (fun o w2 h=>And.intro h ku.1.size)).mono ?_)
 rintro o w5 ⟨⟨r5,rfl,q5,gi⟩,qO⟩
 obtain ⟨s5,p5,n5,c5,t5,y5,m5,d5,rfl⟩:=q5.form
 refine ⟨_,rfl,gi,fun nk _ xf=>wV rfl ?_⟩
 replace q5:=q5.mono (Nat.le_trans hB qO)
 (repeat first|refine wN ?_|refine wP rfl ?_|refine af rfl ?_|refine ag rfl ?_|refine wO rfl rfl ?_)
 refine VO.call rfl rfl (fk Tryz.func72) (fun pK ux tw=>((bW _ _ (aD S F e.2) (ai e.1 (aD S F e.2)) kk kk pK (q1.ki (hK _ vK (by grind) (by grind))) (q4.ki (hK _ g1 (by grind) (by grind))) (by omega) (by omega)).mono (fun o w2 h=>And.intro h tw.1.size)).mono ?_)
 rintro o w6 ⟨⟨r6,rfl,q6,mX⟩,FF⟩
 obtain ⟨s6,p6,n6,c6,t6,y6,m6,d6,rfl⟩:=q6.form
 refine ⟨_,rfl,mX,fun tx _ CR=>wV rfl ?_⟩
 replace q6:=q6.mono (Nat.le_trans hB FF)
 (repeat first|refine wN ?_|refine wP rfl ?_|refine af rfl ?_|refine ag rfl ?_|refine wO rfl rfl ?_)
 have mf:dk S F keep (rows:List aN).length ⟨q,rows,[]⟩ e=rZ keep (rows:List aN).length ⟨kA (rows:List aN).length (e.1 - ai e.1 (aD S F e.2)) (kW q (aD S F e.2 - ai e.1 (aD S F e.2))),rows++[dD S F q e],[]++nH (rows:List aN).length q (aD S F e.2 - ai e.1 (aD S F e.2))⟩:=rfl
 refine VO.Di (B:=B) (D:=D) (v:=199) (d2:=36) (M:=M + M) (mm:=aD S F e.2 - ai e.1 (aD S F e.2)) (q:=q) kk rfl rfl rfl (fk Tryz.func73) rfl rfl rfl (by show 36 < 2 * 99;omega) (by decide) rfl (fun _=>rfl) (fun j hj=> ?_) (Nat.le_of_ble_eq_true rfl) (fun ug FG GQ=>hV.kp (aM B) (by (with_reducible (repeat (first | assumption | exact kU _ | exact kR _ | exact Kp.of (U:=UU) (by assumption) | exact aE.of (by assumption) | refine kT ?_ (by assumption)))))) (fun ug FG GQ=>q6.kr) g7 g8 g9 (fun p hp=>⟨(vL.el p hp).1,(vL.el p hp).2.1,(vL.el p hp).2.2.1⟩) (fun x h1 h2 h3=>hK x h1 (by grind) h3) zf jv hB (fun w7 r7 Mv nq1 cq1 Mw Mx My k7 b7 q7 hun hV1=> ?_) (fun w7 r7 Mv nq1 cq1 Mw Mx My un uc vsu1 spu1 k7 b7 q7 hV1 hU1=> ?_)
 ·have:j=200:=by simpa [ax,AV.cL] using hj
  subst this;intro h;cases h
 ·obtain ⟨s7,p7,n7,c7,t7,y7,m7,d7,rfl⟩:=q7.form
  refine wV rfl ?_
  (repeat first|refine wN ?_|refine wP rfl ?_|refine af rfl ?_|refine ag rfl ?_|refine wO rfl rfl ?_)
  have nw:([]:List Uq)++nH rows.length q (aD S F e.2 - ai e.1 (aD S F e.2))=[]:=hun
  obtain ⟨u1,u2,u3⟩:=tH (q:=q) (m:=aD S F e.2 - ai e.1 (aD S F e.2)) (fun p hp=>⟨(vL.el p hp).1,(vL.el p hp).2.1⟩) g7 g8
  refine VO.call rfl rfl (fk Tryz.func16) (fun uQ Fg zl=>((dx _ _ (ai e.1 (aD S F e.2)) (qW q (aD S F e.2 - ai e.1 (aD S F e.2))) kk kk uQ (q4.ki (hK _ g1 (by grind) (by grind))) (q7.ki (hK _ u1 (by grind) (by grind))) (by omega) (by omega)).mono (fun o w2 h=>And.intro h zl.1.size)).mono ?_)
  rintro o w8 ⟨⟨r8,rfl,q8,qU⟩,yt⟩
  obtain ⟨s8,p8,n8,c8,t8,y8,m8,d8,rfl⟩:=q8.form
  refine ⟨_,rfl,qU,fun vH _ JL=>wV rfl ?_⟩
  replace q8:=q8.mono (Nat.le_trans hB yt)
  (repeat first|refine wN ?_|refine wP rfl ?_|refine af rfl ?_|refine ag rfl ?_|refine wO rfl rfl ?_)
  have LV:((0:Int):Rat)=0:=rfl
  have AA:dG B w8 [.bool s1,.slice p1 n1 c1,.bool t1,.slice y1 m1 d1,.bool s4,.slice p4 n4 c4,.bool t4,.slice y4 m4 d4,.bool s5,.slice p5 n5 c5,.bool t5,.slice y5 m5 d5,.bool s7,.slice p7 n7 c7,.bool t7,.slice y7 m7 d7,.bool s8,.slice p8 n8 c8,.bool t8,.slice y8 m8 d8,.bool s2,.slice p2 n2 c2,.bool t2,.slice y2 m2 d2,.bool s3,.slice p3 n3 c3,.bool t3,.slice y3 m3 d3] (dD S F q e):=⟨[.bool s1,.slice p1 n1 c1,.bool t1,.slice y1 m1 d1],[.bool s4,.slice p4 n4 c4,.bool t4,.slice y4 m4 d4],[.bool s5,.slice p5 n5 c5,.bool t5,.slice y5 m5 d5],[.bool s7,.slice p7 n7 c7,.bool t7,.slice y7 m7 d7],[.bool s8,.slice p8 n8 c8,.bool t8,.slice y8 m8 d8],[.bool s2,.slice p2 n2 c2,.bool t2,.slice y2 m2 d2],[.bool s3,.slice p3 n3 c3,.bool t3,.slice y3 m3 d3],rfl,⟨_,_,_,_,_,_,_,_,rfl,q1.k⟩,⟨_,_,_,_,_,_,_,_,rfl,q4.k⟩,⟨_,_,_,_,_,_,_,_,rfl,q5.k⟩,⟨_,_,_,_,_,_,_,_,rfl,q7.k⟩,⟨_,_,_,_,_,_,_,_,rfl,q8.k⟩,⟨_,_,_,_,_,_,_,_,rfl,q2.k⟩,⟨_,_,_,_,_,_,_,_,rfl,q3.k⟩⟩
  obtain ⟨iD,jw⟩:=hR.el.ok (az B)
  have rn:=hR.len
  refine VO.app (bk _ _) (t:=33) (e:=dT) (sz:=28) (n:=nr) (c:=cr) (mm:=1) (known:=sT.flatten.map .val) (spare:=uG.map .val) (del:=some 200) (news:=([.bool s1,.slice p1 n1 c1,.bool t1,.slice y1 m1 d1,.bool s4,.slice p4 n4 c4,.bool t4,.slice y4 m4 d4,.bool s5,.slice p5 n5 c5,.bool t5,.slice y5 m5 d5,.bool s7,.slice p7 n7 c7,.bool t7,.slice y7 m7 d7,.bool s8,.slice p8 n8 c8,.bool t8,.slice y8 m8 d8,.bool s2,.slice p2 n2 c2,.bool t2,.slice y2 m2 d2,.bool s3,.slice p3 n3 c3,.bool t3,.slice y3 m3 d3]:List Value).map .val) (dst:=52) rfl rfl rfl rfl rfl rfl rfl rfl (Nat.le_of_ble_eq_true rfl) rfl (.inr ⟨200,rfl,congrArg (fun l=>some (dT,l)) (List.map_append ..),rfl⟩) (.inl rfl) (by rw [List.length_map,jw,rn]) (by rw [←List.map_append,List.length_map];exact hR.fl) hR.le hR.cm ⟨ao _,ao _,rfl⟩ ⟨bb iD,bb hR.so,rfl⟩ rfl (by omega)
   (fun w1 β k1 b1 ho=>⟨_,_,rfl,.inr ⟨β 51,0,rfl,cK (rest:=[]) (ho.own 51 (.base (List.mem_append_right _ (List.mem_singleton.2 rfl))) _ _ rfl) rfl⟩⟩)
   (fun nD lD uT ρ GM GN fC jc gm ed AB iB=>VO.ft 199 rfl (dR (ao _) _ _) (wV rfl ?_))
  (repeat (first | refine wN ?_ | refine wP rfl ?_ | refine af rfl ?_ | refine wO rfl rfl ?_))
  obtain ⟨nI,sw⟩:∃ nI,nI=nr + 1:=⟨_,rfl⟩
  obtain ⟨qQ,sx⟩:∃ qQ,qQ=(sT++[[.bool s1,.slice p1 n1 c1,.bool t1,.slice y1 m1 d1,.bool s4,.slice p4 n4 c4,.bool t4,.slice y4 m4 d4,.bool s5,.slice p5 n5 c5,.bool t5,.slice y5 m5 d5,.bool s7,.slice p7 n7 c7,.bool t7,.slice y7 m7 d7,.bool s8,.slice p8 n8 c8,.bool t8,.slice y8 m8 d8,.bool s2,.slice p2 n2 c2,.bool t2,.slice y2 m2 d2,.bool s3,.slice p3 n3 c3,.bool t3,.slice y3 m3 d3]]:List (List Value)):=⟨_,rfl⟩
  have fq:nv (dG B) 28 nD nI lD qQ uT (rows++[dD S F q e]):=by rw [sw,sx];exact ⟨by rw [rn,List.length_append];rfl,(hR.el.kp (az B) (by (with_reducible (repeat (first | assumption | exact kU _ | exact kR _ | exact Kp.of (U:=UU) (by assumption) | exact aE.of (by assumption) | refine kT ?_ (by assumption)))))).snoc ((az B).kp AA (by (with_reducible (repeat (first | assumption | exact kU _ | exact kR _ | exact Kp.of (U:=UU) (by assumption) | exact aE.of (by assumption) | refine kT ?_ (by assumption)))))),AB,iB,jc,gm,by simpa using ed⟩
  refine VS.narrow [(0,.box 198 0),(2,.val (.int .i64 ((rows:List aN).length:Int))),(5,.box 5 0),(8,.box 8 0)] [(198,(Runner,[.row 199 Mv nq1 cq1,.row 52 0 nI lD,.val (.slice none 0 0)])),(52,(dT,qQ.flatten.map AV.val++uT)),(5,(28,([.bool sS,.slice pS nS cS,.bool tS,.slice yS mS dS,.bool sF,.slice pF nF cF,.bool tF,.slice yF mF dF,.int .i64 (keep:Int)]:List Value).map AV.val)),(8,(dT,([.bool s1,.slice p1 n1 c1,.bool t1,.slice y1 m1 d1,.bool s4,.slice p4 n4 c4,.bool t4,.slice y4 m4 d4,.bool s5,.slice p5 n5 c5,.bool t5,.slice y5 m5 d5,.bool s7,.slice p7 n7 c7,.bool t7,.slice y7 m7 d7,.bool s8,.slice p8 n8 c8,.bool t8,.slice y8 m8 d8,.bool s2,.slice p2 n2 c2,.bool t2,.slice y2 m2 d2,.bool s3,.slice p3 n3 c3,.bool t3,.slice y3 m3 d3]:List Value).map AV.val)),(199,(cO,(Mw++(Mx.flatten++My)).map AV.val))] ⟨rfl,rfl,rfl,rfl,trivial⟩ ⟨by rw [sw];rfl,by rw [sx];exact congrArg (fun l=>some (dT,l++uT)) (by simp),rfl,rfl,rfl,trivial⟩ rfl ⟨.lit rfl,.append (.vals _) (.none iB),.vals _,.vals _,.vals _,trivial⟩ ?_
  refine VS.draw (bk _ _) (jN _ _) [1000000 + 74] (by kernel_rfl) (VO.run 80 rfl ?_)
  have Mz:nq1≤1000:=by rw [hV1.len];have:=(xF rows.length q (aD S F e.2 - ai e.1 (aD S F e.2))).2;omega
  refine VO.xz (B:=B) (v:=199) (d2:=62) (d:=e.1 - ai e.1 (aD S F e.2)) (q:=kW q (aD S F e.2 - ai e.1 (aD S F e.2))) kk rfl rfl rfl (fk Tryz.func74) rfl rfl rfl (by show 62 < 2 * 99;omega) (by decide) (fun j hj=> ?_) rfl (fun ug FG GQ=>hV1.kp (aM B) (by (with_reducible (repeat (first | assumption | exact kU _ | exact kR _ | exact Kp.of (U:=UU) (by assumption) | exact aE.of (by assumption) | refine kT ?_ (by assumption)))))) (fun ug FG GQ=>q5.kr) (hK _ g4 (by grind) (by grind)) zf Mz hB (fun Bb fw nz nC kC GR GS ρ19 k19 b19 fA=> ?_)
  ·have:j=52:=by simpa [ax,AV.cL] using hj
   subst this;exact ⟨(by intro h;cases h),by decide⟩
  obtain ⟨q2,sA⟩:∃ q2:List Vq,q2=kA rows.length (e.1 - ai e.1 (aD S F e.2)) (kW q (aD S F e.2 - ai e.1 (aD S F e.2))):=⟨_,rfl⟩
  rw [←sA] at fA
  have vi:=sA.symm
  refine VO.ft 52 rfl (dR (by rw [cA,ao,iB];rfl) _ _) (wV rfl ?_)
  (repeat first|refine wN ?_|refine wP rfl ?_|refine af rfl ?_|refine ag rfl ?_|refine wO rfl rfl ?_)
  by_cases lI:nz=0
  ·refine VO.cZ (x:=.row 62 fw nz nC) (p:=fun _=>none) (c:=nC) rfl (fun β=>.inr ⟨_,congrArg (fun n=>Value.slice (some ⟨β 62,fw,none⟩) n nC) lI⟩) rfl (fk Tryz.func75) rfl (fun Dk Mq Mr=>wV rfl ?_)
   (repeat first|refine wN ?_|refine wP rfl ?_|refine af rfl ?_|refine ag rfl ?_|refine wO rfl rfl ?_)
   have AD:q2=[]:=List.eq_nil_of_length_eq_zero (by rw [←fA.len];exact lI)
   have pO:dk S F keep (rows:List aN).length ⟨q,rows,[]⟩ e=⟨q2,rows++[dD S F q e],[]⟩:=by rw [mf,vi,nw,AD];rfl
   (repeat first|refine wN ?_|refine wP rfl ?_|refine af rfl ?_|refine ag rfl ?_|refine wO rfl rfl ?_)
   refine VS.ky (bk _ _) rfl (fun wz β kz oz en=> ?_)
   obtain ⟨o1,o2⟩:=eb (en.own 198 _ _ rfl) 0 g rfl rfl
   have oR:=(en.own 52 _ _ rfl).cls
   rw [List.map_append,ah] at oR
   have nR:=fh hB dU (show cB 99 [g,vb,rb] w 52 (β 52) from (en.own 52 _ _ rfl).new)
   have oV:=(en.own 62 _ _ rfl).cls
   rw [ah] at oV
   have nV:=fh hB dU (show cB 99 [g,vb,rb] w 62 (β 62) from (en.own 62 _ _ rfl).new)
   rw [pO]
   refine ⟨rfl,oz.1,[g,β 62,β 52],⟨fun b hb=> ?_,_,_,_,o2,?_⟩⟩
   ·simp only [List.mem_cons,List.not_mem_nil,or_false] at hb
    rcases hb with rfl | rfl | rfl
    ·exact zn
    ·exact nV
    ·exact nR
   ·exact .inr (.inr (.inl ⟨β 62,β 52,rfl,rfl,rfl,⟨_,_,_,_,_,_,rfl,oV,fA.kp (aM B) (by (with_reducible (repeat (first | assumption | exact kU _ | exact kR _ | exact Kp.of (U:=UU) (by assumption) | exact aE.of (by assumption) | refine kT ?_ (by assumption)))))⟩,⟨_,_,_,_,rfl,oR,(fq.kp (az B) (by (with_reducible (repeat (first | assumption | exact kU _ | exact kR _ | exact Kp.of (U:=UU) (by assumption) | exact aE.of (by assumption) | refine kT ?_ (by assumption)))))).o β⟩⟩))
  obtain ⟨pp,qt,KZ⟩:∃ pp qt,q2=pp::qt:=by
   cases q2 with
   | nil=>exact absurd fA.len lI
   | cons pp qt=>exact ⟨pp,qt,rfl⟩
  subst KZ
  obtain ⟨AE,vM,rfl,hE4,sB⟩:∃ AE vM,GR=AE::vM∧cH B Bb AE pp∧cM (cH B) Bb qt vM:=by
   have:=fA.el
   cases this with
   | cons h1 h2=>exact ⟨_,_,rfl,h1,h2⟩
  obtain ⟨s9,p9,n9,c9,t9,y9,m9,d9,rfl,Jk⟩:=hE4
  have AG:=fA.le
  have AH:=fA.len
  have AJ:=fA.cm
  have jH:kC.length=fw:=fA.pl.resolve_right (by omega)
  refine VO.cI rfl rfl (fk Tryz.func75) rfl lI (by intro h;cases h) (fun Dk Mq Mr=>wV rfl ?_)
  (repeat first|refine wN ?_|refine wP rfl ?_|refine af rfl ?_|refine ag rfl ?_|refine wO rfl rfl ?_)
  refine VO.dh rfl (([.int .i64 (pp.1:Int)]:List Value).map .val) rfl (bh jH 0 _ ⟨_,rfl⟩) (wV rfl ?_)
  (repeat first|refine wN ?_|refine wP rfl ?_|refine af rfl ?_|refine ag rfl ?_|refine wO rfl rfl ?_)
  have GU:IntKind.i64.wrap (((rows:List aN).length:Int) - (keep:Int))=((rows:List aN).length:Int) - (keep:Int):=IntWalk.i64_in _ (by omega)
  by_cases hx:pp.1 + keep=(rows:List aN).length
  ·refine VS.bE rfl (by rw [GU,beq_iff_eq];omega) ?_
   (repeat first|refine wN ?_|refine wP rfl ?_|refine af rfl ?_|refine ag rfl ?_|refine wO rfl rfl ?_)
   refine VO.dh rfl (([.int .i64 (pp.1:Int)]:List Value).map .val) rfl (bh jH 0 _ ⟨_,rfl⟩) (wV rfl ?_)
   (repeat first|refine wN ?_|refine wP rfl ?_|refine af rfl ?_|refine ag rfl ?_|refine wO rfl rfl ?_)
   refine VO.dh rfl (([.bool s9,.slice p9 n9 c9,.bool t9,.slice y9 m9 d9]:List Value).map .val) rfl (bh jH 1 _ ⟨[],rfl⟩) (wV rfl ?_)
   (repeat first|refine wN ?_|refine wP rfl ?_|refine af rfl ?_|refine ag rfl ?_|refine wO rfl rfl ?_)
   have fi:=fq.len
   have Cp:pp.1 < nI:=by rw [fi,List.length_append,List.length_singleton];omega
   refine VO.cond rfl ⟨by omega,by omega⟩ (wV rfl ?_)
   obtain ⟨rq,zo⟩:∃ rq,(rows++[dD S F q e])[pp.1]? =some rq:=⟨_,List.getElem?_eq_getElem (by rw [←fi];exact Cp)⟩
   obtain ⟨zp,tI,zt⟩:=fq.el.at pp.1 rq zo
   have gG:=fq.fl
   have Jl:=fq.le
   refine VO.cond rfl (by show 0 + ((pp.1:Int)).toNat * 28 + 20 + 4≤_;rw [gG,Int.toNat_natCast];omega) (VO.ft 52 rfl (kh (new:=[.bool s9,.slice p9 n9 c9,.bool t9,.slice y9 m9 d9]) (o:=20) (fq.el.lens (az B)) tI (Nat.le_of_ble_eq_true rfl)) (wV rfl ?_))
   (repeat first|refine wN ?_|refine wP rfl ?_|refine af rfl ?_|refine ag rfl ?_|refine wO rfl rfl ?_)
   have hR3:nv (dG B) 28 Dk nI lD (qQ.set pp.1 (zp.take 20++([.bool s9,.slice p9 n9 c9,.bool t9,.slice y9 m9 d9]++zp.drop (20 + ([.bool s9,.slice p9 n9 c9,.bool t9,.slice y9 m9 d9]:List Value).length)))) uT ((rows++[dD S F q e]).modify pp.1 (fun r=>{ r with aZ:=pp.2 })):=
    ⟨by rw [List.length_modify];exact fi,by rw [gJ zo];exact (fq.el.kp (az B) (by (with_reducible (repeat (first | assumption | exact kU _ | exact kR _ | exact Kp.of (U:=UU) (by assumption) | exact aE.of (by assumption) | refine kT ?_ (by assumption)))))).set (oK ((az B).kp zt (by (with_reducible (repeat (first | assumption | exact kU _ | exact kR _ | exact Kp.of (U:=UU) (by assumption) | exact aE.of (by assumption) | refine kT ?_ (by assumption)))))) ⟨_,_,_,_,_,_,_,_,rfl,Jk.kp (by (with_reducible (repeat (first | assumption | exact kU _ | exact kR _ | exact Kp.of (U:=UU) (by assumption) | exact aE.of (by assumption) | refine kT ?_ (by assumption)))))⟩),fq.so,fq.sl,fq.le,fq.cm,by
     rw [List.length_append,List.length_map,cW (kj (fq.el.lens (az B)) (sq ((az B).len zt) rfl)),List.length_set]
     rw [List.length_append,List.length_map,cW (fq.el.lens (az B))] at gG
     exact gG⟩
   refine VO.iA rfl rfl (fk Tryz.func76) rfl (by omega) AG AJ (fun j hj=> ?_) (Nat.le_of_ble_eq_true rfl) (fun w21 k21 b21=>wV rfl ?_)
   ·simp only [ax,AV.cL,List.flatMap_cons,List.flatMap_nil,List.mem_append,List.mem_cons,List.not_mem_nil,or_false,List.append_nil] at hj
    rcases hj with rfl | rfl <;> (intro h;cases h)
   (repeat first|refine wN ?_|refine wP rfl ?_|refine af rfl ?_|refine ag rfl ?_|refine wO rfl rfl ?_)
   have hV4:cY (cH B) 5 w21 (nz - 1) (if nC=1 then fw else fw + 5) (nC - 1) (kC++[.int .i64 (pp.1:Int),.bool s9,.slice p9 n9 c9,.bool t9,.slice y9 m9 d9]) vM GS qt:=⟨by rw [AH];rfl,mM jH,by rw [List.all_append,fA.po];rfl,sB.kp (aM B) (by (with_reducible (repeat (first | assumption | exact kU _ | exact kR _ | exact Kp.of (U:=UU) (by assumption) | exact aE.of (by assumption) | refine kT ?_ (by assumption))))),fA.so,by omega,by omega,mO fA.fl⟩
   have pO:dk S F keep (rows:List aN).length ⟨q,rows,[]⟩ e=⟨qt,(rows++[dD S F q e]).modify pp.1 (fun r=>{ r with aZ:=pp.2 }),[]⟩:=by
    rw [mf,vi,nw]
    exact if_pos hx
   (repeat first|refine wN ?_|refine wP rfl ?_|refine af rfl ?_|refine ag rfl ?_|refine wO rfl rfl ?_)
   refine VS.ky (bk _ _) rfl (fun wz β kz oz en=> ?_)
   obtain ⟨o1,o2⟩:=eb (en.own 198 _ _ rfl) 0 g rfl rfl
   have oR:=(en.own 52 _ _ rfl).cls
   rw [List.map_append,ah] at oR
   have nR:=fh hB dU (show cB 99 [g,vb,rb] w 52 (β 52) from (en.own 52 _ _ rfl).new)
   have oV:=(en.own 62 _ _ rfl).cls
   rw [dM,ah] at oV
   have nV:=fh hB dU (show cB 99 [g,vb,rb] w 62 (β 62) from (en.own 62 _ _ rfl).new)
   rw [pO]
   refine ⟨rfl,oz.1,[g,β 62,β 52],⟨fun b hb=> ?_,_,_,_,o2,?_⟩⟩
   ·simp only [List.mem_cons,List.not_mem_nil,or_false] at hb
    rcases hb with rfl | rfl | rfl
    ·exact zn
    ·exact nV
    ·exact nR
   ·exact .inr (.inr (.inl ⟨β 62,β 52,rfl,rfl,rfl,⟨_,_,_,_,_,_,rfl,oV,hV4.kp (aM B) (by (with_reducible (repeat (first | assumption | exact kU _ | exact kR _ | exact Kp.of (U:=UU) (by assumption) | exact aE.of (by assumption) | refine kT ?_ (by assumption)))))⟩,⟨_,_,_,_,rfl,oR,(hR3.kp (az B) (by (with_reducible (repeat (first | assumption | exact kU _ | exact kR _ | exact Kp.of (U:=UU) (by assumption) | exact aE.of (by assumption) | refine kT ?_ (by assumption)))))).o β⟩⟩))
  ·refine VS.bu rfl (by rw [GU,beq_eq_false_iff_ne];omega) ?_
   have pO:dk S F keep (rows:List aN).length ⟨q,rows,[]⟩ e=⟨pp::qt,rows++[dD S F q e],[]⟩:=by
    rw [mf,vi,nw]
    exact if_neg hx
   (repeat first|refine wN ?_|refine wP rfl ?_|refine af rfl ?_|refine ag rfl ?_|refine wO rfl rfl ?_)
   refine VS.ky (bk _ _) rfl (fun wz β kz oz en=> ?_)
   obtain ⟨o1,o2⟩:=eb (en.own 198 _ _ rfl) 0 g rfl rfl
   have oR:=(en.own 52 _ _ rfl).cls
   rw [List.map_append,ah] at oR
   have nR:=fh hB dU (show cB 99 [g,vb,rb] w 52 (β 52) from (en.own 52 _ _ rfl).new)
   have oV:=(en.own 62 _ _ rfl).cls
   rw [ah] at oV
   have nV:=fh hB dU (show cB 99 [g,vb,rb] w 62 (β 62) from (en.own 62 _ _ rfl).new)
   rw [pO]
   refine ⟨rfl,oz.1,[g,β 62,β 52],⟨fun b hb=> ?_,_,_,_,o2,?_⟩⟩
   ·simp only [List.mem_cons,List.not_mem_nil,or_false] at hb
    rcases hb with rfl | rfl | rfl
    ·exact zn
    ·exact nV
    ·exact nR
   ·exact .inr (.inr (.inl ⟨β 62,β 52,rfl,rfl,rfl,⟨_,_,_,_,_,_,rfl,oV,fA.kp (aM B) (by (with_reducible (repeat (first | assumption | exact kU _ | exact kR _ | exact Kp.of (U:=UU) (by assumption) | exact aE.of (by assumption) | refine kT ?_ (by assumption)))))⟩,⟨_,_,_,_,rfl,oR,(fq.kp (az B) (by (with_reducible (repeat (first | assumption | exact kU _ | exact kR _ | exact Kp.of (U:=UU) (by assumption) | exact aE.of (by assumption) | refine kT ?_ (by assumption)))))).o β⟩⟩))
 ·obtain ⟨s7,p7,n7,c7,t7,y7,m7,d7,rfl⟩:=q7.form
  refine wV rfl ?_
  (repeat first|refine wN ?_|refine wP rfl ?_|refine af rfl ?_|refine ag rfl ?_|refine wO rfl rfl ?_)
  obtain ⟨JR,BH⟩:∃ JR,JR=nH rows.length q (aD S F e.2 - ai e.1 (aD S F e.2)):=⟨_,rfl⟩
  rw [←BH] at hU1
  have nw:([]:List Uq)++nH rows.length q (aD S F e.2 - ai e.1 (aD S F e.2))=JR:=BH.symm
  have xS:=hU1
  obtain ⟨u1,u2,u3⟩:=tH (q:=q) (m:=aD S F e.2 - ai e.1 (aD S F e.2)) (fun p hp=>⟨(vL.el p hp).1,(vL.el p hp).2.1⟩) g7 g8
  refine VO.call rfl rfl (fk Tryz.func16) (fun uQ Fg zl=>((dx _ _ (ai e.1 (aD S F e.2)) (qW q (aD S F e.2 - ai e.1 (aD S F e.2))) kk kk uQ (q4.ki (hK _ g1 (by grind) (by grind))) (q7.ki (hK _ u1 (by grind) (by grind))) (by omega) (by omega)).mono (fun o w2 h=>And.intro h zl.1.size)).mono ?_)
  rintro o w8 ⟨⟨r8,rfl,q8,qU⟩,yt⟩
  obtain ⟨s8,p8,n8,c8,t8,y8,m8,d8,rfl⟩:=q8.form
  refine ⟨_,rfl,qU,fun vH _ JL=>wV rfl ?_⟩
  replace q8:=q8.mono (Nat.le_trans hB yt)
  (repeat first|refine wN ?_|refine wP rfl ?_|refine af rfl ?_|refine ag rfl ?_|refine wO rfl rfl ?_)
  have LV:((0:Int):Rat)=0:=rfl
  have AA:dG B w8 [.bool s1,.slice p1 n1 c1,.bool t1,.slice y1 m1 d1,.bool s4,.slice p4 n4 c4,.bool t4,.slice y4 m4 d4,.bool s5,.slice p5 n5 c5,.bool t5,.slice y5 m5 d5,.bool s7,.slice p7 n7 c7,.bool t7,.slice y7 m7 d7,.bool s8,.slice p8 n8 c8,.bool t8,.slice y8 m8 d8,.bool s2,.slice p2 n2 c2,.bool t2,.slice y2 m2 d2,.bool s3,.slice p3 n3 c3,.bool t3,.slice y3 m3 d3] (dD S F q e):=⟨[.bool s1,.slice p1 n1 c1,.bool t1,.slice y1 m1 d1],[.bool s4,.slice p4 n4 c4,.bool t4,.slice y4 m4 d4],[.bool s5,.slice p5 n5 c5,.bool t5,.slice y5 m5 d5],[.bool s7,.slice p7 n7 c7,.bool t7,.slice y7 m7 d7],[.bool s8,.slice p8 n8 c8,.bool t8,.slice y8 m8 d8],[.bool s2,.slice p2 n2 c2,.bool t2,.slice y2 m2 d2],[.bool s3,.slice p3 n3 c3,.bool t3,.slice y3 m3 d3],rfl,⟨_,_,_,_,_,_,_,_,rfl,q1.k⟩,⟨_,_,_,_,_,_,_,_,rfl,q4.k⟩,⟨_,_,_,_,_,_,_,_,rfl,q5.k⟩,⟨_,_,_,_,_,_,_,_,rfl,q7.k⟩,⟨_,_,_,_,_,_,_,_,rfl,q8.k⟩,⟨_,_,_,_,_,_,_,_,rfl,q2.k⟩,⟨_,_,_,_,_,_,_,_,rfl,q3.k⟩⟩
  obtain ⟨iD,jw⟩:=hR.el.ok (az B)
  have rn:=hR.len
  refine VO.app (bk _ _) (t:=33) (e:=dT) (sz:=28) (n:=nr) (c:=cr) (mm:=1) (known:=sT.flatten.map .val) (spare:=uG.map .val) (del:=some 200) (news:=([.bool s1,.slice p1 n1 c1,.bool t1,.slice y1 m1 d1,.bool s4,.slice p4 n4 c4,.bool t4,.slice y4 m4 d4,.bool s5,.slice p5 n5 c5,.bool t5,.slice y5 m5 d5,.bool s7,.slice p7 n7 c7,.bool t7,.slice y7 m7 d7,.bool s8,.slice p8 n8 c8,.bool t8,.slice y8 m8 d8,.bool s2,.slice p2 n2 c2,.bool t2,.slice y2 m2 d2,.bool s3,.slice p3 n3 c3,.bool t3,.slice y3 m3 d3]:List Value).map .val) (dst:=52) rfl rfl rfl rfl rfl rfl rfl rfl (Nat.le_of_ble_eq_true rfl) rfl (.inr ⟨200,rfl,congrArg (fun l=>some (dT,l)) (List.map_append ..),rfl⟩) (.inl rfl) (by rw [List.length_map,jw,rn]) (by rw [←List.map_append,List.length_map];exact hR.fl) hR.le hR.cm ⟨ao _,ao _,rfl⟩ ⟨bb iD,bb hR.so,rfl⟩ rfl (by omega)
   (fun w1 β k1 b1 ho=>⟨_,_,rfl,.inr ⟨β 51,0,rfl,cK (rest:=[]) (ho.own 51 (.base (List.mem_append_right _ (List.mem_singleton.2 rfl))) _ _ rfl) rfl⟩⟩)
   (fun nD lD uT ρ GM GN fC jc gm ed AB iB=>VO.ft 199 rfl (dR (ao _) _ _) (VO.ft 36 rfl (dR (ao _) _ _) (wV rfl ?_)))
  (repeat (first | refine wN ?_ | refine wP rfl ?_ | refine af rfl ?_ | refine wO rfl rfl ?_))
  obtain ⟨nI,sw⟩:∃ nI,nI=nr + 1:=⟨_,rfl⟩
  obtain ⟨qQ,sx⟩:∃ qQ,qQ=(sT++[[.bool s1,.slice p1 n1 c1,.bool t1,.slice y1 m1 d1,.bool s4,.slice p4 n4 c4,.bool t4,.slice y4 m4 d4,.bool s5,.slice p5 n5 c5,.bool t5,.slice y5 m5 d5,.bool s7,.slice p7 n7 c7,.bool t7,.slice y7 m7 d7,.bool s8,.slice p8 n8 c8,.bool t8,.slice y8 m8 d8,.bool s2,.slice p2 n2 c2,.bool t2,.slice y2 m2 d2,.bool s3,.slice p3 n3 c3,.bool t3,.slice y3 m3 d3]]:List (List Value)):=⟨_,rfl⟩
  have fq:nv (dG B) 28 nD nI lD qQ uT (rows++[dD S F q e]):=by rw [sw,sx];exact ⟨by rw [rn,List.length_append];rfl,(hR.el.kp (az B) (by (with_reducible (repeat (first | assumption | exact kU _ | exact kR _ | exact Kp.of (U:=UU) (by assumption) | exact aE.of (by assumption) | refine kT ?_ (by assumption)))))).snoc ((az B).kp AA (by (with_reducible (repeat (first | assumption | exact kU _ | exact kR _ | exact Kp.of (U:=UU) (by assumption) | exact aE.of (by assumption) | refine kT ?_ (by assumption)))))),AB,iB,jc,gm,by simpa using ed⟩
  refine VS.narrow [(0,.box 198 0),(2,.val (.int .i64 ((rows:List aN).length:Int))),(5,.box 5 0),(8,.box 8 0)] [(198,(Runner,[.row 199 Mv nq1 cq1,.row 52 0 nI lD,.row 36 0 un uc])),(52,(dT,qQ.flatten.map AV.val++uT)),(5,(28,([.bool sS,.slice pS nS cS,.bool tS,.slice yS mS dS,.bool sF,.slice pF nF cF,.bool tF,.slice yF mF dF,.int .i64 (keep:Int)]:List Value).map AV.val)),(8,(dT,([.bool s1,.slice p1 n1 c1,.bool t1,.slice y1 m1 d1,.bool s4,.slice p4 n4 c4,.bool t4,.slice y4 m4 d4,.bool s5,.slice p5 n5 c5,.bool t5,.slice y5 m5 d5,.bool s7,.slice p7 n7 c7,.bool t7,.slice y7 m7 d7,.bool s8,.slice p8 n8 c8,.bool t8,.slice y8 m8 d8,.bool s2,.slice p2 n2 c2,.bool t2,.slice y2 m2 d2,.bool s3,.slice p3 n3 c3,.bool t3,.slice y3 m3 d3]:List Value).map AV.val)),(199,(cO,(Mw++(Mx.flatten++My)).map AV.val)),(36,(et,(vsu1.flatten++spu1).map AV.val))] ⟨rfl,rfl,rfl,rfl,trivial⟩ ⟨by rw [sw];rfl,by rw [sx];exact congrArg (fun l=>some (dT,l++uT)) (by simp),rfl,rfl,rfl,rfl,trivial⟩ rfl ⟨.lit rfl,.append (.vals _) (.none iB),.vals _,.vals _,.vals _,.vals _,trivial⟩ ?_
  refine VS.draw (bk _ _) (jN _ _) [1000000 + 74] (by kernel_rfl) (VO.run 80 rfl ?_)
  have Mz:nq1≤1000:=by rw [hV1.len];have:=(xF rows.length q (aD S F e.2 - ai e.1 (aD S F e.2))).2;omega
  refine VO.xz (B:=B) (v:=199) (d2:=62) (d:=e.1 - ai e.1 (aD S F e.2)) (q:=kW q (aD S F e.2 - ai e.1 (aD S F e.2))) kk rfl rfl rfl (fk Tryz.func74) rfl rfl rfl (by show 62 < 2 * 99;omega) (by decide) (fun j hj=> ?_) rfl (fun ug FG GQ=>hV1.kp (aM B) (by (with_reducible (repeat (first | assumption | exact kU _ | exact kR _ | exact Kp.of (U:=UU) (by assumption) | exact aE.of (by assumption) | refine kT ?_ (by assumption)))))) (fun ug FG GQ=>q5.kr) (hK _ g4 (by grind) (by grind)) zf Mz hB (fun Bb fw nz nC kC GR GS ρ19 k19 b19 fA=> ?_)
  ·have:j=52∨j=36:=by simpa [ax,AV.cL] using hj
   rcases this with rfl | rfl <;> exact ⟨(by intro h;cases h),by decide⟩
  obtain ⟨q2,sA⟩:∃ q2:List Vq,q2=kA rows.length (e.1 - ai e.1 (aD S F e.2)) (kW q (aD S F e.2 - ai e.1 (aD S F e.2))):=⟨_,rfl⟩
  rw [←sA] at fA
  have vi:=sA.symm
  refine VO.ft 52 rfl (dR (by rw [cA,ao,iB];rfl) _ _) (VO.ft 36 rfl (dR (ao _) _ _) (wV rfl ?_))
  (repeat first|refine wN ?_|refine wP rfl ?_|refine af rfl ?_|refine ag rfl ?_|refine wO rfl rfl ?_)
  by_cases lI:nz=0
  ·refine VO.cZ (x:=.row 62 fw nz nC) (p:=fun _=>none) (c:=nC) rfl (fun β=>.inr ⟨_,congrArg (fun n=>Value.slice (some ⟨β 62,fw,none⟩) n nC) lI⟩) rfl (fk Tryz.func75) rfl (fun Dk Mq Mr=>wV rfl ?_)
   (repeat first|refine wN ?_|refine wP rfl ?_|refine af rfl ?_|refine ag rfl ?_|refine wO rfl rfl ?_)
   have AD:q2=[]:=List.eq_nil_of_length_eq_zero (by rw [←fA.len];exact lI)
   have pO:dk S F keep (rows:List aN).length ⟨q,rows,[]⟩ e=⟨q2,rows++[dD S F q e],JR⟩:=by rw [mf,vi,nw,AD];rfl
   (repeat first|refine wN ?_|refine wP rfl ?_|refine af rfl ?_|refine ag rfl ?_|refine wO rfl rfl ?_)
   refine VS.ky (bk _ _) rfl (fun wz β kz oz en=> ?_)
   obtain ⟨o1,o2⟩:=eb (en.own 198 _ _ rfl) 0 g rfl rfl
   have oR:=(en.own 52 _ _ rfl).cls
   rw [List.map_append,ah] at oR
   have nR:=fh hB dU (show cB 99 [g,vb,rb] w 52 (β 52) from (en.own 52 _ _ rfl).new)
   have oV:=(en.own 62 _ _ rfl).cls
   rw [ah] at oV
   have nV:=fh hB dU (show cB 99 [g,vb,rb] w 62 (β 62) from (en.own 62 _ _ rfl).new)
   have oU:=(en.own 36 _ _ rfl).cls
   rw [ah] at oU
   have nU:=fh hB dU (show cB 99 [g,vb,rb] w 36 (β 36) from (en.own 36 _ _ rfl).new)
   rw [pO]
   refine ⟨rfl,oz.1,[g,β 62,β 52,β 36],⟨fun b hb=> ?_,_,_,_,o2,?_⟩⟩
   ·simp only [List.mem_cons,List.not_mem_nil,or_false] at hb
    rcases hb with rfl | rfl | rfl | rfl
    ·exact zn
    ·exact nV
    ·exact nR
    ·exact nU
   ·exact .inr (.inr (.inr ⟨β 62,β 52,β 36,rfl,⟨_,_,_,_,_,_,rfl,oV,fA.kp (aM B) (by (with_reducible (repeat (first | assumption | exact kU _ | exact kR _ | exact Kp.of (U:=UU) (by assumption) | exact aE.of (by assumption) | refine kT ?_ (by assumption)))))⟩,⟨_,_,_,_,rfl,oR,(fq.kp (az B) (by (with_reducible (repeat (first | assumption | exact kU _ | exact kR _ | exact Kp.of (U:=UU) (by assumption) | exact aE.of (by assumption) | refine kT ?_ (by assumption)))))).o β⟩,⟨_,_,_,_,rfl,oU,xS.kp (dm B) (by (with_reducible (repeat (first | assumption | exact kU _ | exact kR _ | exact Kp.of (U:=UU) (by assumption) | exact aE.of (by assumption) | refine kT ?_ (by assumption)))))⟩⟩))
  obtain ⟨pp,qt,KZ⟩:∃ pp qt,q2=pp::qt:=by
   cases q2 with
   | nil=>exact absurd fA.len lI
   | cons pp qt=>exact ⟨pp,qt,rfl⟩
  subst KZ
  obtain ⟨AE,vM,rfl,hE4,sB⟩:∃ AE vM,GR=AE::vM∧cH B Bb AE pp∧cM (cH B) Bb qt vM:=by
   have:=fA.el
   cases this with
   | cons h1 h2=>exact ⟨_,_,rfl,h1,h2⟩
  obtain ⟨s9,p9,n9,c9,t9,y9,m9,d9,rfl,Jk⟩:=hE4
  have AG:=fA.le
  have AH:=fA.len
  have AJ:=fA.cm
  have jH:kC.length=fw:=fA.pl.resolve_right (by omega)
  refine VO.cI rfl rfl (fk Tryz.func75) rfl lI (by intro h;cases h) (fun Dk Mq Mr=>wV rfl ?_)
  (repeat first|refine wN ?_|refine wP rfl ?_|refine af rfl ?_|refine ag rfl ?_|refine wO rfl rfl ?_)
  refine VO.dh rfl (([.int .i64 (pp.1:Int)]:List Value).map .val) rfl (bh jH 0 _ ⟨_,rfl⟩) (wV rfl ?_)
  (repeat first|refine wN ?_|refine wP rfl ?_|refine af rfl ?_|refine ag rfl ?_|refine wO rfl rfl ?_)
  have GU:IntKind.i64.wrap (((rows:List aN).length:Int) - (keep:Int))=((rows:List aN).length:Int) - (keep:Int):=IntWalk.i64_in _ (by omega)
  by_cases hx:pp.1 + keep=(rows:List aN).length
  ·refine VS.bE rfl (by rw [GU,beq_iff_eq];omega) ?_
   (repeat first|refine wN ?_|refine wP rfl ?_|refine af rfl ?_|refine ag rfl ?_|refine wO rfl rfl ?_)
   refine VO.dh rfl (([.int .i64 (pp.1:Int)]:List Value).map .val) rfl (bh jH 0 _ ⟨_,rfl⟩) (wV rfl ?_)
   (repeat first|refine wN ?_|refine wP rfl ?_|refine af rfl ?_|refine ag rfl ?_|refine wO rfl rfl ?_)
   refine VO.dh rfl (([.bool s9,.slice p9 n9 c9,.bool t9,.slice y9 m9 d9]:List Value).map .val) rfl (bh jH 1 _ ⟨[],rfl⟩) (wV rfl ?_)
   (repeat first|refine wN ?_|refine wP rfl ?_|refine af rfl ?_|refine ag rfl ?_|refine wO rfl rfl ?_)
   have fi:=fq.len
   have Cp:pp.1 < nI:=by rw [fi,List.length_append,List.length_singleton];omega
   refine VO.cond rfl ⟨by omega,by omega⟩ (wV rfl ?_)
   obtain ⟨rq,zo⟩:∃ rq,(rows++[dD S F q e])[pp.1]? =some rq:=⟨_,List.getElem?_eq_getElem (by rw [←fi];exact Cp)⟩
   obtain ⟨zp,tI,zt⟩:=fq.el.at pp.1 rq zo
   have gG:=fq.fl
   have Jl:=fq.le
   refine VO.cond rfl (by show 0 + ((pp.1:Int)).toNat * 28 + 20 + 4≤_;rw [gG,Int.toNat_natCast];omega) (VO.ft 52 rfl (kh (new:=[.bool s9,.slice p9 n9 c9,.bool t9,.slice y9 m9 d9]) (o:=20) (fq.el.lens (az B)) tI (Nat.le_of_ble_eq_true rfl)) (wV rfl ?_))
   (repeat first|refine wN ?_|refine wP rfl ?_|refine af rfl ?_|refine ag rfl ?_|refine wO rfl rfl ?_)
   have hR3:nv (dG B) 28 Dk nI lD (qQ.set pp.1 (zp.take 20++([.bool s9,.slice p9 n9 c9,.bool t9,.slice y9 m9 d9]++zp.drop (20 + ([.bool s9,.slice p9 n9 c9,.bool t9,.slice y9 m9 d9]:List Value).length)))) uT ((rows++[dD S F q e]).modify pp.1 (fun r=>{ r with aZ:=pp.2 })):=
    ⟨by rw [List.length_modify];exact fi,by rw [gJ zo];exact (fq.el.kp (az B) (by (with_reducible (repeat (first | assumption | exact kU _ | exact kR _ | exact Kp.of (U:=UU) (by assumption) | exact aE.of (by assumption) | refine kT ?_ (by assumption)))))).set (oK ((az B).kp zt (by (with_reducible (repeat (first | assumption | exact kU _ | exact kR _ | exact Kp.of (U:=UU) (by assumption) | exact aE.of (by assumption) | refine kT ?_ (by assumption)))))) ⟨_,_,_,_,_,_,_,_,rfl,Jk.kp (by (with_reducible (repeat (first | assumption | exact kU _ | exact kR _ | exact Kp.of (U:=UU) (by assumption) | exact aE.of (by assumption) | refine kT ?_ (by assumption)))))⟩),fq.so,fq.sl,fq.le,fq.cm,by
     rw [List.length_append,List.length_map,cW (kj (fq.el.lens (az B)) (sq ((az B).len zt) rfl)),List.length_set]
     rw [List.length_append,List.length_map,cW (fq.el.lens (az B))] at gG
     exact gG⟩
   refine VO.iA rfl rfl (fk Tryz.func76) rfl (by omega) AG AJ (fun j hj=> ?_) (Nat.le_of_ble_eq_true rfl) (fun w21 k21 b21=>wV rfl ?_)
   ·simp only [ax,AV.cL,List.flatMap_cons,List.flatMap_nil,List.mem_append,List.mem_cons,List.not_mem_nil,or_false,List.append_nil] at hj
    rcases hj with rfl | rfl | rfl <;> (intro h;cases h)
   (repeat first|refine wN ?_|refine wP rfl ?_|refine af rfl ?_|refine ag rfl ?_|refine wO rfl rfl ?_)
   have hV4:cY (cH B) 5 w21 (nz - 1) (if nC=1 then fw else fw + 5) (nC - 1) (kC++[.int .i64 (pp.1:Int),.bool s9,.slice p9 n9 c9,.bool t9,.slice y9 m9 d9]) vM GS qt:=⟨by rw [AH];rfl,mM jH,by rw [List.all_append,fA.po];rfl,sB.kp (aM B) (by (with_reducible (repeat (first | assumption | exact kU _ | exact kR _ | exact Kp.of (U:=UU) (by assumption) | exact aE.of (by assumption) | refine kT ?_ (by assumption))))),fA.so,by omega,by omega,mO fA.fl⟩
   have pO:dk S F keep (rows:List aN).length ⟨q,rows,[]⟩ e=⟨qt,(rows++[dD S F q e]).modify pp.1 (fun r=>{ r with aZ:=pp.2 }),JR⟩:=by
    rw [mf,vi,nw]
    exact if_pos hx
   (repeat first|refine wN ?_|refine wP rfl ?_|refine af rfl ?_|refine ag rfl ?_|refine wO rfl rfl ?_)
   refine VS.ky (bk _ _) rfl (fun wz β kz oz en=> ?_)
   obtain ⟨o1,o2⟩:=eb (en.own 198 _ _ rfl) 0 g rfl rfl
   have oR:=(en.own 52 _ _ rfl).cls
   rw [List.map_append,ah] at oR
   have nR:=fh hB dU (show cB 99 [g,vb,rb] w 52 (β 52) from (en.own 52 _ _ rfl).new)
   have oV:=(en.own 62 _ _ rfl).cls
   rw [dM,ah] at oV
   have nV:=fh hB dU (show cB 99 [g,vb,rb] w 62 (β 62) from (en.own 62 _ _ rfl).new)
   have oU:=(en.own 36 _ _ rfl).cls
   rw [ah] at oU
   have nU:=fh hB dU (show cB 99 [g,vb,rb] w 36 (β 36) from (en.own 36 _ _ rfl).new)
   rw [pO]
   refine ⟨rfl,oz.1,[g,β 62,β 52,β 36],⟨fun b hb=> ?_,_,_,_,o2,?_⟩⟩
   ·simp only [List.mem_cons,List.not_mem_nil,or_false] at hb
    rcases hb with rfl | rfl | rfl | rfl
    ·exact zn
    ·exact nV
    ·exact nR
    ·exact nU
   ·exact .inr (.inr (.inr ⟨β 62,β 52,β 36,rfl,⟨_,_,_,_,_,_,rfl,oV,hV4.kp (aM B) (by (with_reducible (repeat (first | assumption | exact kU _ | exact kR _ | exact Kp.of (U:=UU) (by assumption) | exact aE.of (by assumption) | refine kT ?_ (by assumption)))))⟩,⟨_,_,_,_,rfl,oR,(hR3.kp (az B) (by (with_reducible (repeat (first | assumption | exact kU _ | exact kR _ | exact Kp.of (U:=UU) (by assumption) | exact aE.of (by assumption) | refine kT ?_ (by assumption)))))).o β⟩,⟨_,_,_,_,rfl,oU,xS.kp (dm B) (by (with_reducible (repeat (first | assumption | exact kU _ | exact kR _ | exact Kp.of (U:=UU) (by assumption) | exact aE.of (by assumption) | refine kT ?_ (by assumption)))))⟩⟩))
  ·refine VS.bu rfl (by rw [GU,beq_eq_false_iff_ne];omega) ?_
   have pO:dk S F keep (rows:List aN).length ⟨q,rows,[]⟩ e=⟨pp::qt,rows++[dD S F q e],JR⟩:=by
    rw [mf,vi,nw]
    exact if_neg hx
   (repeat first|refine wN ?_|refine wP rfl ?_|refine af rfl ?_|refine ag rfl ?_|refine wO rfl rfl ?_)
   refine VS.ky (bk _ _) rfl (fun wz β kz oz en=> ?_)
   obtain ⟨o1,o2⟩:=eb (en.own 198 _ _ rfl) 0 g rfl rfl
   have oR:=(en.own 52 _ _ rfl).cls
   rw [List.map_append,ah] at oR
   have nR:=fh hB dU (show cB 99 [g,vb,rb] w 52 (β 52) from (en.own 52 _ _ rfl).new)
   have oV:=(en.own 62 _ _ rfl).cls
   rw [ah] at oV
   have nV:=fh hB dU (show cB 99 [g,vb,rb] w 62 (β 62) from (en.own 62 _ _ rfl).new)
   have oU:=(en.own 36 _ _ rfl).cls
   rw [ah] at oU
   have nU:=fh hB dU (show cB 99 [g,vb,rb] w 36 (β 36) from (en.own 36 _ _ rfl).new)
   rw [pO]
   refine ⟨rfl,oz.1,[g,β 62,β 52,β 36],⟨fun b hb=> ?_,_,_,_,o2,?_⟩⟩
   ·simp only [List.mem_cons,List.not_mem_nil,or_false] at hb
    rcases hb with rfl | rfl | rfl | rfl
    ·exact zn
    ·exact nV
    ·exact nR
    ·exact nU
   ·exact .inr (.inr (.inr ⟨β 62,β 52,β 36,rfl,⟨_,_,_,_,_,_,rfl,oV,fA.kp (aM B) (by (with_reducible (repeat (first | assumption | exact kU _ | exact kR _ | exact Kp.of (U:=UU) (by assumption) | exact aE.of (by assumption) | refine kT ?_ (by assumption)))))⟩,⟨_,_,_,_,rfl,oR,(fq.kp (az B) (by (with_reducible (repeat (first | assumption | exact kU _ | exact kR _ | exact Kp.of (U:=UU) (by assumption) | exact aE.of (by assumption) | refine kT ?_ (by assumption)))))).o β⟩,⟨_,_,_,_,rfl,oU,xS.kp (dm B) (by (with_reducible (repeat (first | assumption | exact kU _ | exact kR _ | exact Kp.of (U:=UU) (by assumption) | exact aE.of (by assumption) | refine kT ?_ (by assumption)))))⟩⟩))
end Go.Proofs.YtabalinjfgcfeaaGreat
set_option maxRecDepth 4000
namespace Go.Proofs.YtabalinjfgcfeaaGreat
open Go.RowKit
attribute [local irreducible] aB VS
set_option maxRecDepth 4000 in
set_option maxHeartbeats 16000000 in
theorem iYear_D {B g keep D kk ks:Nat} {M S F:Rat} {e:Rat×Rat} {vb off nq cq:Nat} {pre Mt:List Value} {Mu:List (List Value)} {rb nr cr:Nat} {sT:List (List Value)} {uG:List Value} {ub nu cu:Nat} {vsu:List (List Value)} {spu:List Value} {q:List Vq} {rows:List aN} {uses:List Uq} {v u:Value} {w:World} (hg:aW w g Runner #[.slice (some ⟨vb,off,none⟩) nq cq,.slice (some ⟨rb,0,none⟩) nr cr,.slice (some ⟨ub,0,none⟩) nu cu]) (Bc:aW w vb cO (pre++(Mu.flatten++Mt)).toArray) (hV:cY (cH B) 5 w nq off cq pre Mu Mt q) (zu:aW w rb dT (sT.flatten++uG).toArray) (hR:cY (dG B) 28 w nr 0 cr [] sT uG rows) (hcU:aW w ub et (vsu.flatten++spu).toArray) (hU:cY (np B) 6 w nu 0 cu [] vsu spu uses)
  (uS:FA w v S F keep ks) (JP:YrV w u e ks) (ss:1≤ks) (yr:ks≤kk) (zf:kk≤100000) (vK:Iz D (aD S F e.2)) (DZ:aD S F e.2≤M) (JQ:Iz D e.1) (gL: -M≤e.1) (Ea:e.1≤M) (hK:∀ x,Iz D x→-(M + M)≤x→x≤M + M→dV x kk)
  (vL:xG D M ⟨q,rows,uses⟩) (uE:(rows:List aN).length≤64) (uF:keep≤40) (hB:B≤w.heap.size) (dU:∀ b∈[g,vb,rb,ub],B≤b):
  Calls Tryz.prog 39 #[.pointer (some ⟨g,0,none⟩),v,.int .i64 ((rows:List aN).length:Int),u] w fun o w'=>o=.returned (iC [])∧qA [g,vb,rb,ub] w w'∧∃ Mp,mY B w' g Mp (dk S F keep (rows:List aN).length ⟨q,rows,uses⟩ e):=by
 have hL0:=mK S F e.2
 have hM0:0≤M:=by grind
 obtain ⟨g1,g2,g3,g4,g5,g6,g7,g8,g9⟩:=sn vK hL0 DZ JQ gL Ea
 have zn:B≤g:=dU g (by simp)
 have hlen:=vL.len
 obtain ⟨sS,pS,nS,cS,tS,yS,mS,dS,sF,pF,nF,cF,tF,yF,mF,dF,rfl,hS,hF⟩:=uS
 obtain ⟨sN,pN,nN,cN,tN,yN,mN,dN,sE,pE,nE,cE,tE,yE,mE,dE,rfl,hN,hE⟩:=JP
 have jv:q.length≤1000:=by dsimp only at hlen;omega
 have Ay:uses.length≤1000:=by dsimp only at hlen;omega
 have pM:iG (KU UU) 99 [g,vb,rb,ub] [(Runner,[.row 199 off nq cq,.row 200 0 nr cr,.row 201 0 nu cu]),(cO,(pre++(Mu.flatten++Mt)).map .val),(dT,(sT.flatten++uG).map .val),(et,(vsu.flatten++spu).map .val)] w:=by
  have Jm:g≠vb:=fun e=>by subst e;exact absurd (bo hg Bc) (by decide)
  have h02:g≠rb:=fun e=>by subst e;exact absurd (bo hg zu) (by decide)
  have h03:g≠ub:=fun e=>by subst e;exact absurd (bo hg hcU) (by decide)
  have Ae:vb≠rb:=fun e=>by subst e;exact absurd (bo Bc zu) (by decide)
  have h13:vb≠ub:=fun e=>by subst e;exact absurd (bo Bc hcU) (by decide)
  have h23:rb≠ub:=fun e=>by subst e;exact absurd (bo zu hcU) (by decide)
  refine ⟨rfl,by simp [Jm,h02,h03,Ae,h13,h23],fun j g' c' hj hc=> ?_,fun c' hc=> ?_,fun c' hc k hk=> ?_⟩
  ·match j,hj,hc with
   | 0,hj,hc=>cases hj;cases hc;exact hg
   | 1,hj,hc=>cases hj;cases hc;rw [ah];exact Bc
   | 2,hj,hc=>cases hj;cases hc;rw [ah];exact zu
   | 3,hj,hc=>cases hj;cases hc;rw [ah];exact hcU
   | j + 4,hj,_=>simp at hj
  ·simp only [List.mem_cons,List.not_mem_nil,or_false] at hc
   rcases hc with rfl | rfl | rfl | rfl
   ·exact ⟨rfl,rfl⟩
   ·exact ⟨rfl,bb (hV.all (aM B))⟩
   ·exact ⟨rfl,bb (hR.all (az B))⟩
   ·exact ⟨rfl,bb (hU.all (dm B))⟩
  ·simp only [List.mem_cons,List.not_mem_nil,or_false] at hc
   rcases hc with rfl | rfl | rfl | rfl
   ·have:k=199∨k=200∨k=201:=by simpa [ax,AV.cL] using hk
    rcases this with rfl | rfl | rfl
    ·exact ⟨by omega,by show 199 < 2 * 99 + 4;omega⟩
    ·exact ⟨by omega,by show 200 < 2 * 99 + 4;omega⟩
    ·exact ⟨by omega,by show 201 < 2 * 99 + 4;omega⟩
   ·rw [ao] at hk;cases hk
   ·rw [ao] at hk;cases hk
   ·rw [ao] at hk;cases hk
 refine ea Tryz.prog w _ (KU UU) (fun t=>Nat.beq t 22) table (fun _ _=>trivial) (ad:=[g,vb,rb,ub]) (us:=[_,_,_]) Tryz.func39 rfl Tryz.ntmps39 (Nat.le_of_ble_eq_true rfl) pM (Nat.le_of_ble_eq_true rfl) ?_
 (repeat first|refine wN ?_|refine wP rfl ?_|refine af rfl ?_|refine ag rfl ?_|refine wO rfl rfl ?_)
 refine VO.call rfl rfl (fk Tryz.func70) (fun cC er dv=>((mP _ _ S F keep e ks cC ⟨_,_,_,_,_,_,_,_,_,_,_,_,_,_,_,_,rfl,hS.k,hF.k⟩ ⟨_,_,_,_,_,_,_,_,_,_,_,_,_,_,_,_,rfl,hN.k,hE.k⟩ ss (by omega)).mono (fun o w2 h=>And.intro h dv.1.size)).mono ?_)
 rintro o w1 ⟨⟨r1,rfl,q1,aV⟩,FD⟩
 obtain ⟨s1,p1,n1,c1,t1,y1,m1,d1,rfl⟩:=q1.form
 refine ⟨_,rfl,aV,fun fe _ bb1=>wV rfl ?_⟩
 replace q1:=q1.mono (Nat.le_trans hB FD)
 (repeat first|refine wN ?_|refine wP rfl ?_|refine af rfl ?_|refine ag rfl ?_|refine wO rfl rfl ?_)
 refine VO.call rfl rfl (fk Tryz.func44) (fun dC gu eu=>((bF 0 dC (by omega) (by omega)).mono (fun o w2 h=>And.intro h eu.1.size)).mono ?_)
 rintro o w2 ⟨⟨r2,rfl,q2,bm⟩,qN⟩
 obtain ⟨s2,p2,n2,c2,t2,y2,m2,d2,rfl⟩:=q2.form
 refine ⟨_,rfl,bm,fun fZ _ bb2=>wV rfl ?_⟩
 replace q2:=q2.mono (Nat.le_trans hB qN)
 (repeat first|refine wN ?_|refine wP rfl ?_|refine af rfl ?_|refine ag rfl ?_|refine wO rfl rfl ?_)
 refine VO.call rfl rfl (fk Tryz.func44) (fun gv gY gV=>((bF 0 gv (by omega) (by omega)).mono (fun o w2 h=>And.intro h gV.1.size)).mono ?_)
 rintro o w3 ⟨⟨r3,rfl,q3,cD⟩,xH⟩
 obtain ⟨s3,p3,n3,c3,t3,y3,m3,d3,rfl⟩:=q3.form
 refine ⟨_,rfl,cD,fun kt _ bb3=>wV rfl ?_⟩
 replace q3:=q3.mono (Nat.le_trans hB xH)
 (repeat first|refine wN ?_|refine wP rfl ?_|refine af rfl ?_|refine ag rfl ?_|refine wO rfl rfl ?_)
 refine VO.fI rfl (fk Tryz.func71) (fun nj β qa qF ho=>((fJ _ _ e.1 [aD S F e.2] kk nj ((hN.k).up (by omega)) (dW (ho.own 20 (.base (List.mem_singleton.2 rfl)) _ _ rfl) [] (vs:=[[.bool s1,.slice p1 n1 c1,.bool t1,.slice y1 m1 d1]]) (by rfl) rfl (bZ.cons (q1.ki (hK _ vK (by grind) (by grind))) bZ.nil) (Nat.le_of_ble_eq_true rfl) (by decide)) (by omega) (Nat.le_of_ble_eq_true rfl)).mono (fun o w2 h=>And.intro h qF.1.size)).mono ?_)
 rintro o w4 ⟨⟨r4,rfl,q4,z4,gU⟩,FE⟩
 rw [gR] at q4
 obtain ⟨s4,p4,n4,c4,t4,y4,m4,d4,rfl⟩:=q4.form
 refine ⟨_,rfl,gU,fun pd _ AZ=>wV rfl ?_⟩
 replace q4:=q4.mono (Nat.le_trans hB FE)
 (repeat first|refine wN ?_|refine wP rfl ?_|refine af rfl ?_|refine ag rfl ?_|refine wO rfl rfl ?_)
 refine VO.call rfl rfl (fk Tryz.func72) (fun kg mG ku=>((bW _ _ e.1 (ai e.1 (aD S F e.2)) kk kk kg ((hN.k).up (by omega)) (q4.ki (hK _ g1 (by grind) (by grind))) (by omega) (by omega)).mono (fun o w2 h=>And.intro h ku.1.size)).mono ?_)
 rintro o w5 ⟨⟨r5,rfl,q5,gi⟩,qO⟩
 obtain ⟨s5,p5,n5,c5,t5,y5,m5,d5,rfl⟩:=q5.form
 refine ⟨_,rfl,gi,fun nk _ xf=>wV rfl ?_⟩
 replace q5:=q5.mono (Nat.le_trans hB qO)
 (repeat first|refine wN ?_|refine wP rfl ?_|refine af rfl ?_|refine ag rfl ?_|refine wO rfl rfl ?_)
 refine VO.call rfl rfl (fk Tryz.func72) (fun pK ux tw=>((bW _ _ (aD S F e.2) (ai e.1 (aD S F e.2)) kk kk pK (q1.ki (hK _ vK (by grind) (by grind))) (q4.ki (hK _ g1 (by grind) (by grind))) (by omega) (by omega)).mono (fun o w2 h=>And.intro h tw.1.size)).mono ?_)
 rintro o w6 ⟨⟨r6,rfl,q6,mX⟩,FF⟩
 obtain ⟨s6,p6,n6,c6,t6,y6,m6,d6,rfl⟩:=q6.form
 refine ⟨_,rfl,mX,fun tx _ CR=>wV rfl ?_⟩
 replace q6:=q6.mono (Nat.le_trans hB FF)
 (repeat first|refine wN ?_|refine wP rfl ?_|refine af rfl ?_|refine ag rfl ?_|refine wO rfl rfl ?_)
 have mf:dk S F keep (rows:List aN).length ⟨q,rows,uses⟩ e=rZ keep (rows:List aN).length ⟨kA (rows:List aN).length (e.1 - ai e.1 (aD S F e.2)) (kW q (aD S F e.2 - ai e.1 (aD S F e.2))),rows++[dD S F q e],uses++nH (rows:List aN).length q (aD S F e.2 - ai e.1 (aD S F e.2))⟩:=rfl
 refine VO.Dj (u:=201) (us0:=uses) (B:=B) (D:=D) (v:=199) (d2:=36) (M:=M + M) (mm:=aD S F e.2 - ai e.1 (aD S F e.2)) (q:=q) kk rfl rfl rfl (fk Tryz.func73) rfl rfl rfl (fun ug FG GQ=>hU.kp (dm B) (by (with_reducible (repeat (first | assumption | exact kU _ | exact kR _ | exact Kp.of (U:=UU) (by assumption) | exact aE.of (by assumption) | refine kT ?_ (by assumption)))))) Ay (by decide) (by decide) rfl (by show 36 < 2 * 99;omega) (by decide) rfl (fun _=>rfl) (fun j hj=> ?_) rfl (fun ug FG GQ=>hV.kp (aM B) (by (with_reducible (repeat (first | assumption | exact kU _ | exact kR _ | exact Kp.of (U:=UU) (by assumption) | exact aE.of (by assumption) | refine kT ?_ (by assumption)))))) (fun ug FG GQ=>q6.kr) g7 g8 g9 (fun p hp=>⟨(vL.el p hp).1,(vL.el p hp).2.1,(vL.el p hp).2.2.1⟩) (fun x h1 h2 h3=>hK x h1 (by grind) h3) zf jv hB (fun w7 r7 Mv nq1 cq1 Mw Mx My un uc vsu1 spu1 ρ7 k7 b7 q7 hV1 hU1=> ?_)
 ·have:j=200:=by simpa [ax,AV.cL] using hj
  subst this;exact ⟨(by intro h;cases h),by decide⟩
 obtain ⟨s7,p7,n7,c7,t7,y7,m7,d7,rfl⟩:=q7.form
 refine VO.ft 200 rfl (dR (ao _) _ _) (wV rfl ?_)
 (repeat first|refine wN ?_|refine wP rfl ?_|refine af rfl ?_|refine ag rfl ?_|refine wO rfl rfl ?_)
 obtain ⟨JR,BH⟩:∃ JR,JR=uses++nH rows.length q (aD S F e.2 - ai e.1 (aD S F e.2)):=⟨_,rfl⟩
 rw [←BH] at hU1
 have nw:=BH.symm
 have xS:=hU1
 obtain ⟨u1,u2,u3⟩:=tH (q:=q) (m:=aD S F e.2 - ai e.1 (aD S F e.2)) (fun p hp=>⟨(vL.el p hp).1,(vL.el p hp).2.1⟩) g7 g8
 refine VO.call rfl rfl (fk Tryz.func16) (fun uQ Fg zl=>((dx _ _ (ai e.1 (aD S F e.2)) (qW q (aD S F e.2 - ai e.1 (aD S F e.2))) kk kk uQ (q4.ki (hK _ g1 (by grind) (by grind))) (q7.ki (hK _ u1 (by grind) (by grind))) (by omega) (by omega)).mono (fun o w2 h=>And.intro h zl.1.size)).mono ?_)
 rintro o w8 ⟨⟨r8,rfl,q8,qU⟩,yt⟩
 obtain ⟨s8,p8,n8,c8,t8,y8,m8,d8,rfl⟩:=q8.form
 refine ⟨_,rfl,qU,fun vH _ JL=>wV rfl ?_⟩
 replace q8:=q8.mono (Nat.le_trans hB yt)
 (repeat first|refine wN ?_|refine wP rfl ?_|refine af rfl ?_|refine ag rfl ?_|refine wO rfl rfl ?_)
 have LV:((0:Int):Rat)=0:=rfl
 have AA:dG B w8 [.bool s1,.slice p1 n1 c1,.bool t1,.slice y1 m1 d1,.bool s4,.slice p4 n4 c4,.bool t4,.slice y4 m4 d4,.bool s5,.slice p5 n5 c5,.bool t5,.slice y5 m5 d5,.bool s7,.slice p7 n7 c7,.bool t7,.slice y7 m7 d7,.bool s8,.slice p8 n8 c8,.bool t8,.slice y8 m8 d8,.bool s2,.slice p2 n2 c2,.bool t2,.slice y2 m2 d2,.bool s3,.slice p3 n3 c3,.bool t3,.slice y3 m3 d3] (dD S F q e):=⟨[.bool s1,.slice p1 n1 c1,.bool t1,.slice y1 m1 d1],[.bool s4,.slice p4 n4 c4,.bool t4,.slice y4 m4 d4],[.bool s5,.slice p5 n5 c5,.bool t5,.slice y5 m5 d5],[.bool s7,.slice p7 n7 c7,.bool t7,.slice y7 m7 d7],[.bool s8,.slice p8 n8 c8,.bool t8,.slice y8 m8 d8],[.bool s2,.slice p2 n2 c2,.bool t2,.slice y2 m2 d2],[.bool s3,.slice p3 n3 c3,.bool t3,.slice y3 m3 d3],rfl,⟨_,_,_,_,_,_,_,_,rfl,q1.k⟩,⟨_,_,_,_,_,_,_,_,rfl,q4.k⟩,⟨_,_,_,_,_,_,_,_,rfl,q5.k⟩,⟨_,_,_,_,_,_,_,_,rfl,q7.k⟩,⟨_,_,_,_,_,_,_,_,rfl,q8.k⟩,⟨_,_,_,_,_,_,_,_,rfl,q2.k⟩,⟨_,_,_,_,_,_,_,_,rfl,q3.k⟩⟩
 obtain ⟨iD,jw⟩:=hR.el.ok (az B)
 have rn:=hR.len
 refine VO.app (bk _ _) (t:=33) (e:=dT) (sz:=28) (n:=nr) (c:=cr) (mm:=1) (known:=sT.flatten.map .val) (spare:=uG.map .val) (del:=some 200) (news:=([.bool s1,.slice p1 n1 c1,.bool t1,.slice y1 m1 d1,.bool s4,.slice p4 n4 c4,.bool t4,.slice y4 m4 d4,.bool s5,.slice p5 n5 c5,.bool t5,.slice y5 m5 d5,.bool s7,.slice p7 n7 c7,.bool t7,.slice y7 m7 d7,.bool s8,.slice p8 n8 c8,.bool t8,.slice y8 m8 d8,.bool s2,.slice p2 n2 c2,.bool t2,.slice y2 m2 d2,.bool s3,.slice p3 n3 c3,.bool t3,.slice y3 m3 d3]:List Value).map .val) (dst:=52) rfl rfl rfl rfl rfl rfl rfl rfl (Nat.le_of_ble_eq_true rfl) rfl (.inr ⟨200,rfl,congrArg (fun l=>some (dT,l)) (List.map_append ..),rfl⟩) (.inl rfl) (by rw [List.length_map,jw,rn]) (by rw [←List.map_append,List.length_map];exact hR.fl) hR.le hR.cm ⟨ao _,ao _,rfl⟩ ⟨bb iD,bb hR.so,rfl⟩ rfl (by omega)
  (fun w1 β k1 b1 ho=>⟨_,_,rfl,.inr ⟨β 51,0,rfl,cK (rest:=[]) (ho.own 51 (.base (List.mem_append_right _ (List.mem_singleton.2 rfl))) _ _ rfl) rfl⟩⟩)
  (fun nD lD uT ρ GM GN fC jc gm ed AB iB=>VO.ft 199 rfl (dR (ao _) _ _) (VO.ft 36 rfl (dR (ao _) _ _) (wV rfl ?_)))
 (repeat (first | refine wN ?_ | refine wP rfl ?_ | refine af rfl ?_ | refine wO rfl rfl ?_))
 obtain ⟨nI,sw⟩:∃ nI,nI=nr + 1:=⟨_,rfl⟩
 obtain ⟨qQ,sx⟩:∃ qQ,qQ=(sT++[[.bool s1,.slice p1 n1 c1,.bool t1,.slice y1 m1 d1,.bool s4,.slice p4 n4 c4,.bool t4,.slice y4 m4 d4,.bool s5,.slice p5 n5 c5,.bool t5,.slice y5 m5 d5,.bool s7,.slice p7 n7 c7,.bool t7,.slice y7 m7 d7,.bool s8,.slice p8 n8 c8,.bool t8,.slice y8 m8 d8,.bool s2,.slice p2 n2 c2,.bool t2,.slice y2 m2 d2,.bool s3,.slice p3 n3 c3,.bool t3,.slice y3 m3 d3]]:List (List Value)):=⟨_,rfl⟩
 have fq:nv (dG B) 28 nD nI lD qQ uT (rows++[dD S F q e]):=by rw [sw,sx];exact ⟨by rw [rn,List.length_append];rfl,(hR.el.kp (az B) (by (with_reducible (repeat (first | assumption | exact kU _ | exact kR _ | exact Kp.of (U:=UU) (by assumption) | exact aE.of (by assumption) | refine kT ?_ (by assumption)))))).snoc ((az B).kp AA (by (with_reducible (repeat (first | assumption | exact kU _ | exact kR _ | exact Kp.of (U:=UU) (by assumption) | exact aE.of (by assumption) | refine kT ?_ (by assumption)))))),AB,iB,jc,gm,by simpa using ed⟩
 refine VS.narrow [(0,.box 198 0),(2,.val (.int .i64 ((rows:List aN).length:Int))),(5,.box 5 0),(8,.box 8 0)] [(198,(Runner,[.row 199 Mv nq1 cq1,.row 52 0 nI lD,.row 36 0 un uc])),(52,(dT,qQ.flatten.map AV.val++uT)),(5,(28,([.bool sS,.slice pS nS cS,.bool tS,.slice yS mS dS,.bool sF,.slice pF nF cF,.bool tF,.slice yF mF dF,.int .i64 (keep:Int)]:List Value).map AV.val)),(8,(dT,([.bool s1,.slice p1 n1 c1,.bool t1,.slice y1 m1 d1,.bool s4,.slice p4 n4 c4,.bool t4,.slice y4 m4 d4,.bool s5,.slice p5 n5 c5,.bool t5,.slice y5 m5 d5,.bool s7,.slice p7 n7 c7,.bool t7,.slice y7 m7 d7,.bool s8,.slice p8 n8 c8,.bool t8,.slice y8 m8 d8,.bool s2,.slice p2 n2 c2,.bool t2,.slice y2 m2 d2,.bool s3,.slice p3 n3 c3,.bool t3,.slice y3 m3 d3]:List Value).map AV.val)),(199,(cO,(Mw++(Mx.flatten++My)).map AV.val)),(36,(et,(vsu1.flatten++spu1).map AV.val))] ⟨rfl,rfl,rfl,rfl,trivial⟩ ⟨by rw [sw];rfl,by rw [sx];exact congrArg (fun l=>some (dT,l++uT)) (by simp),rfl,rfl,rfl,rfl,trivial⟩ rfl ⟨.lit rfl,.append (.vals _) (.none iB),.vals _,.vals _,.vals _,.vals _,trivial⟩ ?_
 refine VS.draw (bk _ _) (jN _ _) [1000000 + 74] (by kernel_rfl) (VO.run 80 rfl ?_)
 have Mz:nq1≤1000:=by rw [hV1.len];have:=(xF rows.length q (aD S F e.2 - ai e.1 (aD S F e.2))).2;omega
 refine VO.xz (B:=B) (v:=199) (d2:=62) (d:=e.1 - ai e.1 (aD S F e.2)) (q:=kW q (aD S F e.2 - ai e.1 (aD S F e.2))) kk rfl rfl rfl (fk Tryz.func74) rfl rfl rfl (by show 62 < 2 * 99;omega) (by decide) (fun j hj=> ?_) rfl (fun ug FG GQ=>hV1.kp (aM B) (by (with_reducible (repeat (first | assumption | exact kU _ | exact kR _ | exact Kp.of (U:=UU) (by assumption) | exact aE.of (by assumption) | refine kT ?_ (by assumption)))))) (fun ug FG GQ=>q5.kr) (hK _ g4 (by grind) (by grind)) zf Mz hB (fun Bb fw nz nC kC GR GS ρ19 k19 b19 fA=> ?_)
 ·have:j=52∨j=36:=by simpa [ax,AV.cL] using hj
  rcases this with rfl | rfl <;> exact ⟨(by intro h;cases h),by decide⟩
 obtain ⟨q2,sA⟩:∃ q2:List Vq,q2=kA rows.length (e.1 - ai e.1 (aD S F e.2)) (kW q (aD S F e.2 - ai e.1 (aD S F e.2))):=⟨_,rfl⟩
 rw [←sA] at fA
 have vi:=sA.symm
 refine VO.ft 52 rfl (dR (by rw [cA,ao,iB];rfl) _ _) (VO.ft 36 rfl (dR (ao _) _ _) (wV rfl ?_))
 (repeat first|refine wN ?_|refine wP rfl ?_|refine af rfl ?_|refine ag rfl ?_|refine wO rfl rfl ?_)
 by_cases lI:nz=0
 ·refine VO.cZ (x:=.row 62 fw nz nC) (p:=fun _=>none) (c:=nC) rfl (fun β=>.inr ⟨_,congrArg (fun n=>Value.slice (some ⟨β 62,fw,none⟩) n nC) lI⟩) rfl (fk Tryz.func75) rfl (fun Dk Mq Mr=>wV rfl ?_)
  (repeat first|refine wN ?_|refine wP rfl ?_|refine af rfl ?_|refine ag rfl ?_|refine wO rfl rfl ?_)
  have AD:q2=[]:=List.eq_nil_of_length_eq_zero (by rw [←fA.len];exact lI)
  have pO:dk S F keep (rows:List aN).length ⟨q,rows,uses⟩ e=⟨q2,rows++[dD S F q e],JR⟩:=by rw [mf,vi,nw,AD];rfl
  (repeat first|refine wN ?_|refine wP rfl ?_|refine af rfl ?_|refine ag rfl ?_|refine wO rfl rfl ?_)
  refine VS.ky (bk _ _) rfl (fun wz β kz oz en=> ?_)
  obtain ⟨o1,o2⟩:=eb (en.own 198 _ _ rfl) 0 g rfl rfl
  have oR:=(en.own 52 _ _ rfl).cls
  rw [List.map_append,ah] at oR
  have nR:=fh hB dU (show cB 99 [g,vb,rb,ub] w 52 (β 52) from (en.own 52 _ _ rfl).new)
  have oV:=(en.own 62 _ _ rfl).cls
  rw [ah] at oV
  have nV:=fh hB dU (show cB 99 [g,vb,rb,ub] w 62 (β 62) from (en.own 62 _ _ rfl).new)
  have oU:=(en.own 36 _ _ rfl).cls
  rw [ah] at oU
  have nU:=fh hB dU (show cB 99 [g,vb,rb,ub] w 36 (β 36) from (en.own 36 _ _ rfl).new)
  rw [pO]
  refine ⟨rfl,oz.1,[g,β 62,β 52,β 36],⟨fun b hb=> ?_,_,_,_,o2,?_⟩⟩
  ·simp only [List.mem_cons,List.not_mem_nil,or_false] at hb
   rcases hb with rfl | rfl | rfl | rfl
   ·exact zn
   ·exact nV
   ·exact nR
   ·exact nU
  ·exact .inr (.inr (.inr ⟨β 62,β 52,β 36,rfl,⟨_,_,_,_,_,_,rfl,oV,fA.kp (aM B) (by (with_reducible (repeat (first | assumption | exact kU _ | exact kR _ | exact Kp.of (U:=UU) (by assumption) | exact aE.of (by assumption) | refine kT ?_ (by assumption)))))⟩,⟨_,_,_,_,rfl,oR,(fq.kp (az B) (by (with_reducible (repeat (first | assumption | exact kU _ | exact kR _ | exact Kp.of (U:=UU) (by assumption) | exact aE.of (by assumption) | refine kT ?_ (by assumption)))))).o β⟩,⟨_,_,_,_,rfl,oU,xS.kp (dm B) (by (with_reducible (repeat (first | assumption | exact kU _ | exact kR _ | exact Kp.of (U:=UU) (by assumption) | exact aE.of (by assumption) | refine kT ?_ (by assumption)))))⟩⟩))
 obtain ⟨pp,qt,KZ⟩:∃ pp qt,q2=pp::qt:=by
  cases q2 with
  | nil=>exact absurd fA.len lI
  | cons pp qt=>exact ⟨pp,qt,rfl⟩
 subst KZ
 obtain ⟨AE,vM,rfl,hE4,sB⟩:∃ AE vM,GR=AE::vM∧cH B Bb AE pp∧cM (cH B) Bb qt vM:=by
  have:=fA.el
  cases this with
  | cons h1 h2=>exact ⟨_,_,rfl,h1,h2⟩
 obtain ⟨s9,p9,n9,c9,t9,y9,m9,d9,rfl,Jk⟩:=hE4
 have AG:=fA.le
 have AH:=fA.len
 have AJ:=fA.cm
 have jH:kC.length=fw:=fA.pl.resolve_right (by omega)
 refine VO.cI rfl rfl (fk Tryz.func75) rfl lI (by intro h;cases h) (fun Dk Mq Mr=>wV rfl ?_)
 (repeat first|refine wN ?_|refine wP rfl ?_|refine af rfl ?_|refine ag rfl ?_|refine wO rfl rfl ?_)
 refine VO.dh rfl (([.int .i64 (pp.1:Int)]:List Value).map .val) rfl (bh jH 0 _ ⟨_,rfl⟩) (wV rfl ?_)
 (repeat first|refine wN ?_|refine wP rfl ?_|refine af rfl ?_|refine ag rfl ?_|refine wO rfl rfl ?_)
 have GU:IntKind.i64.wrap (((rows:List aN).length:Int) - (keep:Int))=((rows:List aN).length:Int) - (keep:Int):=IntWalk.i64_in _ (by omega)
 by_cases hx:pp.1 + keep=(rows:List aN).length
 ·refine VS.bE rfl (by rw [GU,beq_iff_eq];omega) ?_
  (repeat first|refine wN ?_|refine wP rfl ?_|refine af rfl ?_|refine ag rfl ?_|refine wO rfl rfl ?_)
  refine VO.dh rfl (([.int .i64 (pp.1:Int)]:List Value).map .val) rfl (bh jH 0 _ ⟨_,rfl⟩) (wV rfl ?_)
  (repeat first|refine wN ?_|refine wP rfl ?_|refine af rfl ?_|refine ag rfl ?_|refine wO rfl rfl ?_)
  refine VO.dh rfl (([.bool s9,.slice p9 n9 c9,.bool t9,.slice y9 m9 d9]:List Value).map .val) rfl (bh jH 1 _ ⟨[],rfl⟩) (wV rfl ?_)
  (repeat first|refine wN ?_|refine wP rfl ?_|refine af rfl ?_|refine ag rfl ?_|refine wO rfl rfl ?_)
  have fi:=fq.len
  have Cp:pp.1 < nI:=by rw [fi,List.length_append,List.length_singleton];omega
  refine VO.cond rfl ⟨by omega,by omega⟩ (wV rfl ?_)
  obtain ⟨rq,zo⟩:∃ rq,(rows++[dD S F q e])[pp.1]? =some rq:=⟨_,List.getElem?_eq_getElem (by rw [←fi];exact Cp)⟩
  obtain ⟨zp,tI,zt⟩:=fq.el.at pp.1 rq zo
  have gG:=fq.fl
  have Jl:=fq.le
  refine VO.cond rfl (by show 0 + ((pp.1:Int)).toNat * 28 + 20 + 4≤_;rw [gG,Int.toNat_natCast];omega) (VO.ft 52 rfl (kh (new:=[.bool s9,.slice p9 n9 c9,.bool t9,.slice y9 m9 d9]) (o:=20) (fq.el.lens (az B)) tI (Nat.le_of_ble_eq_true rfl)) (wV rfl ?_))
  (repeat first|refine wN ?_|refine wP rfl ?_|refine af rfl ?_|refine ag rfl ?_|refine wO rfl rfl ?_)
  have hR3:nv (dG B) 28 Dk nI lD (qQ.set pp.1 (zp.take 20++([.bool s9,.slice p9 n9 c9,.bool t9,.slice y9 m9 d9]++zp.drop (20 + ([.bool s9,.slice p9 n9 c9,.bool t9,.slice y9 m9 d9]:List Value).length)))) uT ((rows++[dD S F q e]).modify pp.1 (fun r=>{ r with aZ:=pp.2 })):=
   ⟨by rw [List.length_modify];exact fi,by rw [gJ zo];exact (fq.el.kp (az B) (by (with_reducible (repeat (first | assumption | exact kU _ | exact kR _ | exact Kp.of (U:=UU) (by assumption) | exact aE.of (by assumption) | refine kT ?_ (by assumption)))))).set (oK ((az B).kp zt (by (with_reducible (repeat (first | assumption | exact kU _ | exact kR _ | exact Kp.of (U:=UU) (by assumption) | exact aE.of (by assumption) | refine kT ?_ (by assumption)))))) ⟨_,_,_,_,_,_,_,_,rfl,Jk.kp (by (with_reducible (repeat (first | assumption | exact kU _ | exact kR _ | exact Kp.of (U:=UU) (by assumption) | exact aE.of (by assumption) | refine kT ?_ (by assumption)))))⟩),fq.so,fq.sl,fq.le,fq.cm,by
    rw [List.length_append,List.length_map,cW (kj (fq.el.lens (az B)) (sq ((az B).len zt) rfl)),List.length_set]
    rw [List.length_append,List.length_map,cW (fq.el.lens (az B))] at gG
    exact gG⟩
  refine VO.iA rfl rfl (fk Tryz.func76) rfl (by omega) AG AJ (fun j hj=> ?_) (Nat.le_of_ble_eq_true rfl) (fun w21 k21 b21=>wV rfl ?_)
  ·simp only [ax,AV.cL,List.flatMap_cons,List.flatMap_nil,List.mem_append,List.mem_cons,List.not_mem_nil,or_false,List.append_nil] at hj
   rcases hj with rfl | rfl | rfl <;> (intro h;cases h)
  (repeat first|refine wN ?_|refine wP rfl ?_|refine af rfl ?_|refine ag rfl ?_|refine wO rfl rfl ?_)
  have hV4:cY (cH B) 5 w21 (nz - 1) (if nC=1 then fw else fw + 5) (nC - 1) (kC++[.int .i64 (pp.1:Int),.bool s9,.slice p9 n9 c9,.bool t9,.slice y9 m9 d9]) vM GS qt:=⟨by rw [AH];rfl,mM jH,by rw [List.all_append,fA.po];rfl,sB.kp (aM B) (by (with_reducible (repeat (first | assumption | exact kU _ | exact kR _ | exact Kp.of (U:=UU) (by assumption) | exact aE.of (by assumption) | refine kT ?_ (by assumption))))),fA.so,by omega,by omega,mO fA.fl⟩
  have pO:dk S F keep (rows:List aN).length ⟨q,rows,uses⟩ e=⟨qt,(rows++[dD S F q e]).modify pp.1 (fun r=>{ r with aZ:=pp.2 }),JR⟩:=by
   rw [mf,vi,nw]
   exact if_pos hx
  (repeat first|refine wN ?_|refine wP rfl ?_|refine af rfl ?_|refine ag rfl ?_|refine wO rfl rfl ?_)
  refine VS.ky (bk _ _) rfl (fun wz β kz oz en=> ?_)
  obtain ⟨o1,o2⟩:=eb (en.own 198 _ _ rfl) 0 g rfl rfl
  have oR:=(en.own 52 _ _ rfl).cls
  rw [List.map_append,ah] at oR
  have nR:=fh hB dU (show cB 99 [g,vb,rb,ub] w 52 (β 52) from (en.own 52 _ _ rfl).new)
  have oV:=(en.own 62 _ _ rfl).cls
  rw [dM,ah] at oV
  have nV:=fh hB dU (show cB 99 [g,vb,rb,ub] w 62 (β 62) from (en.own 62 _ _ rfl).new)
  have oU:=(en.own 36 _ _ rfl).cls
  rw [ah] at oU
  have nU:=fh hB dU (show cB 99 [g,vb,rb,ub] w 36 (β 36) from (en.own 36 _ _ rfl).new)
  rw [pO]
  refine ⟨rfl,oz.1,[g,β 62,β 52,β 36],⟨fun b hb=> ?_,_,_,_,o2,?_⟩⟩
  ·simp only [List.mem_cons,List.not_mem_nil,or_false] at hb
   rcases hb with rfl | rfl | rfl | rfl
   ·exact zn
   ·exact nV
   ·exact nR
   ·exact nU
  ·exact .inr (.inr (.inr ⟨β 62,β 52,β 36,rfl,⟨_,_,_,_,_,_,rfl,oV,hV4.kp (aM B) (by (with_reducible (repeat (first | assumption | exact kU _ | exact kR _ | exact Kp.of (U:=UU) (by assumption) | exact aE.of (by assumption) | refine kT ?_ (by assumption)))))⟩,⟨_,_,_,_,rfl,oR,(hR3.kp (az B) (by (with_reducible (repeat (first | assumption | exact kU _ | exact kR _ | exact Kp.of (U:=UU) (by assumption) | exact aE.of (by assumption) | refine kT ?_ (by assumption)))))).o β⟩,⟨_,_,_,_,rfl,oU,xS.kp (dm B) (by (with_reducible (repeat (first | assumption | exact kU _ | exact kR _ | exact Kp.of (U:=UU) (by assumption) | exact aE.of (by assumption) | refine kT ?_ (by assumption)))))⟩⟩))
 ·refine VS.bu rfl (by rw [GU,beq_eq_false_iff_ne];omega) ?_
  have pO:dk S F keep (rows:List aN).length ⟨q,rows,uses⟩ e=⟨pp::qt,rows++[dD S F q e],JR⟩:=by
   rw [mf,vi,nw]
   exact if_neg hx
  (repeat first|refine wN ?_|refine wP rfl ?_|refine af rfl ?_|refine ag rfl ?_|refine wO rfl rfl ?_)
  refine VS.ky (bk _ _) rfl (fun wz β kz oz en=> ?_)
  obtain ⟨o1,o2⟩:=eb (en.own 198 _ _ rfl) 0 g rfl rfl
  have oR:=(en.own 52 _ _ rfl).cls
  rw [List.map_append,ah] at oR
  have nR:=fh hB dU (show cB 99 [g,vb,rb,ub] w 52 (β 52) from (en.own 52 _ _ rfl).new)
  have oV:=(en.own 62 _ _ rfl).cls
  rw [ah] at oV
  have nV:=fh hB dU (show cB 99 [g,vb,rb,ub] w 62 (β 62) from (en.own 62 _ _ rfl).new)
  have oU:=(en.own 36 _ _ rfl).cls
  rw [ah] at oU
  have nU:=fh hB dU (show cB 99 [g,vb,rb,ub] w 36 (β 36) from (en.own 36 _ _ rfl).new)
  rw [pO]
  refine ⟨rfl,oz.1,[g,β 62,β 52,β 36],⟨fun b hb=> ?_,_,_,_,o2,?_⟩⟩
  ·simp only [List.mem_cons,List.not_mem_nil,or_false] at hb
   rcases hb with rfl | rfl | rfl | rfl
   ·exact zn
   ·exact nV
   ·exact nR
   ·exact nU
  ·exact .inr (.inr (.inr ⟨β 62,β 52,β 36,rfl,⟨_,_,_,_,_,_,rfl,oV,fA.kp (aM B) (by (with_reducible (repeat (first | assumption | exact kU _ | exact kR _ | exact Kp.of (U:=UU) (by assumption) | exact aE.of (by assumption) | refine kT ?_ (by assumption)))))⟩,⟨_,_,_,_,rfl,oR,(fq.kp (az B) (by (with_reducible (repeat (first | assumption | exact kU _ | exact kR _ | exact Kp.of (U:=UU) (by assumption) | exact aE.of (by assumption) | refine kT ?_ (by assumption)))))).o β⟩,⟨_,_,_,_,rfl,oU,xS.kp (dm B) (by (with_reducible (repeat (first | assumption | exact kU _ | exact kR _ | exact Kp.of (U:=UU) (by assumption) | exact aE.of (by assumption) | refine kT ?_ (by assumption)))))⟩⟩))
end Go.Proofs.YtabalinjfgcfeaaGreat
set_option maxRecDepth 4000
namespace Go.Proofs.YtabalinjfgcfeaaGreat
open Go.RowKit
attribute [local irreducible] aB VS
theorem Jn {B g keep D kk ks:Nat} {M S F:Rat} {e:Rat×Rat} {ad:List Nat} {s:Dd} {v u:Value} {w:World} (hs:mY B w g ad s)
  (uS:FA w v S F keep ks) (JP:YrV w u e ks) (ss:1≤ks) (yr:ks≤kk) (zf:kk≤100000) (vK:Iz D (aD S F e.2)) (DZ:aD S F e.2≤M) (JQ:Iz D e.1) (gL: -M≤e.1) (Ea:e.1≤M) (hK:∀ x,Iz D x→-(M + M)≤x→x≤M + M→dV x kk)
  (vL:xG D M s) (uE:s.rows.length≤64) (uF:keep≤40) (hB:B≤w.heap.size):
  Calls Tryz.prog 39 #[.pointer (some ⟨g,0,none⟩),v,.int .i64 (s.rows.length:Int),u] w fun o w'=>o=.returned (iC [])∧qA ad w w'∧∃ Mp,mY B w' g Mp (dk S F keep s.rows.length s e):=by
 obtain ⟨q,rows,uses⟩:=s
 obtain ⟨had,vv,r,uu,hg,h⟩:=hs
 rcases h with ⟨rfl,rfl,rfl,rfl,rfl,rfl,rfl⟩ | ⟨rb,rfl,rfl,rfl,rfl,rfl,n,c,vs,sp,rfl,h1,h2⟩ | ⟨vb,rb,rfl,rfl,rfl,⟨off,nq,cq,pre,Mu,Mt,rfl,h3,h4⟩,n,c,vs,sp,rfl,h1,h2⟩ | ⟨vb,rb,ub,rfl,⟨off,nq,cq,pre,Mu,Mt,rfl,h3,h4⟩,⟨n,c,vs,sp,rfl,h1,h2⟩,n',c',gE,sp',rfl,h5,h6⟩
 ·exact iYear_A (q:=[]) (rows:=[]) (uses:=[]) hg uS JP ss yr zf vK DZ JQ gL Ea hK vL uE uF hB had
 ·exact iYear_B (q:=[]) (uses:=[]) hg h1 h2 uS JP ss yr zf vK DZ JQ gL Ea hK vL uE uF hB had
 ·exact iYear_C (uses:=[]) hg h3 h4 h1 h2 uS JP ss yr zf vK DZ JQ gL Ea hK vL uE uF hB had
 ·exact iYear_D hg h3 h4 h1 h2 h5 h6 uS JP ss yr zf vK DZ JQ gL Ea hK vL uE uF hB had
abbrev RR:=Bool×List Nat×Bool×List Nat
def RR.q (x:RR):Rat:=rq x.1 x.2.1 x.2.2.1 x.2.2.2
def RR.ok (x:RR):Bool:=Fl x.1 x.2.1 x.2.2.1 x.2.2.2
def tJ (w:World) (cs:List Value) (x:RR):Prop:=∃ p c r d,cs=[.bool x.1,.slice p x.2.1.length c,.bool x.2.2.1,.slice r x.2.2.2.length d]∧eR w (.agg #[.bool x.1,.slice p x.2.1.length c,.bool x.2.2.1,.slice r x.2.2.2.length d]) x.1 x.2.1 x.2.2.1 x.2.2.2
theorem tJ.kp {T:TypeId→Bool} {w w':World} {cs:List Value} {x:RR} (h:tJ w cs x) (k:aE ⟨UU,fun _=>True,T⟩ w w'):tJ w' cs x:=by
 obtain ⟨p,c,r,d,h1,h2⟩:=h
 exact ⟨p,c,r,d,h1,h2.kp k⟩
def RR.mW (x:RR) (k:Nat):Prop:=x.2.1.length≤k∧x.2.2.2.length≤k
def xY (kk:Nat) (w:World) (cs:List Value) (e:RR×RR):Prop:=∃ a b,cs=a++b∧tJ w a e.1∧tJ w b e.2∧e.1.mW kk∧e.2.mW kk
theorem tJ.len {w:World} {cs:List Value} {x:RR} (h:tJ w cs x):cs.length=4:=by obtain ⟨p,c,r,d,rfl,_⟩:=h;rfl
theorem tJ.ok {w:World} {cs:List Value} {x:RR} (h:tJ w cs x):cs.all aU=true:=by obtain ⟨p,c,r,d,rfl,_⟩:=h;rfl
theorem fP (kk:Nat):lB (xY kk) 8 where
 kp:=fun h k=>by
  obtain ⟨a,b,h0,h1,h2,h3⟩:=h
  exact ⟨a,b,h0,h1.kp k,h2.kp k,h3⟩
 len:=fun h=>by obtain ⟨a,b,rfl,h1,h2,h3⟩:=h;rw [List.length_append,h1.len,h2.len]
 ok:=fun h=>by obtain ⟨a,b,rfl,h1,h2,h3⟩:=h;rw [List.all_append,h1.ok,h2.ok];rfl
def jl (w:World) (v:Value) (a b:RR) (keep:Int):Prop:=∃ p c r d p' c' r' d',v=.agg #[.bool a.1,.slice p a.2.1.length c,.bool a.2.2.1,.slice r a.2.2.2.length d,.bool b.1,.slice p' b.2.1.length c',.bool b.2.2.1,.slice r' b.2.2.2.length d',.int .i64 keep]∧
 eR w (.agg #[.bool a.1,.slice p a.2.1.length c,.bool a.2.2.1,.slice r a.2.2.2.length d]) a.1 a.2.1 a.2.2.1 a.2.2.2∧eR w (.agg #[.bool b.1,.slice p' b.2.1.length c',.bool b.2.2.1,.slice r' b.2.2.2.length d']) b.1 b.2.1 b.2.2.1 b.2.2.2
theorem eR.pz {w:World} {v:Value} {x:RR} {k:Nat} (h:eR w v x.1 x.2.1 x.2.2.1 x.2.2.2) (hk:x.mW k):bK w v x.q k:=⟨_,_,_,_,h,rfl,hk.1,hk.2⟩
theorem jl.v {w:World} {v:Value} {a b:RR} {keep:Int} {ks:Nat} (h:jl w v a b keep) (ha:a.mW ks) (hb:b.mW ks):FA w v a.q b.q keep ks:=by
 obtain ⟨p,c,r,d,p',c',r',d',rfl,h1,h2⟩:=h
 exact ⟨_,_,_,_,_,_,_,_,_,_,_,_,_,_,_,_,rfl,h1.pz ha,h2.pz hb⟩
theorem jl.kp {T:TypeId→Bool} {w w':World} {v:Value} {a b:RR} {keep:Int} (h:jl w v a b keep) (k:aE ⟨UU,fun _=>True,T⟩ w w'):jl w' v a b keep:=by
 obtain ⟨p,c,r,d,p',c',r',d',h0,h1,h2⟩:=h
 exact ⟨p,c,r,d,p',c',r',d',h0,h1.kp k,h2.kp k⟩
theorem fQ (x:RR) (b:Bool) (hb:x.ok=b) (v:Value) (w:World) (h:eR w v x.1 x.2.1 x.2.2.1 x.2.2.2) {k:Nat} (hx:x.mW k) (hk:k≤100000):
 Calls Tryz.prog 68 #[v] w fun e w'=>e=.returned (.bool b)∧aj w w':=hb▸rW _ _ _ _ v w h (Nat.le_trans hx.1 (by omega)) (Nat.le_trans hx.2 (by omega))
def jm (a b:RR) (keep:Int):Bool:=a.ok && (b.ok && (decide (dK a.q 0≥0) && (decide (dK a.q 1≤0) && (decide (keep≥0) && decide (keep≤40)))))
set_option maxRecDepth 4000 in
theorem FH (v:Value) (a b:RR) (keep:Int) (k:Nat) (w:World) (h:jl w v a b keep) (ha:a.mW k) (hb:b.mW k) (hk:k≤100000):
  Calls Tryz.prog 35 #[v] w fun o w'=>o=.returned (.bool (jm a b keep))∧aj w w':=by
 obtain ⟨p,c,r,d,p',c',r',d',rfl,h1,h2⟩:=h
 refine aw (C:=cj Tryz.prog w _) (args:=[_]) Tryz.func35 rfl Tryz.ntmps35 (Nat.le_of_ble_eq_true rfl) ?_
 (repeat first|refine wN ?_|refine wP rfl ?_|refine aa rfl ?_|refine ab rfl ?_|refine wO rfl rfl ?_)
 cases e1:a.ok with
 | false=>
  refine VO.call rfl rfl (fk Tryz.func68) (fun cC er dv=>(fQ a false e1 _ cC (h1.kp (Kp.of (U:=UU) dv)) ha hk).mono ?_)
  rintro e w1 ⟨rfl,aV⟩
  skip
  refine ⟨_,rfl,aV,fun fe _ bb1=>wV rfl ?_⟩
  (repeat first|refine wN ?_|refine wP rfl ?_|refine aa rfl ?_|refine ab rfl ?_|refine wO rfl rfl ?_)
  refine VS.ret (aL _ _) rfl rfl (fun wz kz bz=> ?_)
  exact ⟨by unfold jm;rw [e1];rfl,bz⟩
 | true=>
 refine VO.call rfl rfl (fk Tryz.func68) (fun cC er dv=>(fQ a true e1 _ cC (h1.kp (Kp.of (U:=UU) dv)) ha hk).mono ?_)
 rintro e w1 ⟨rfl,aV⟩
 skip
 refine ⟨_,rfl,aV,fun fe _ bb1=>wV rfl ?_⟩
 (repeat first|refine wN ?_|refine wP rfl ?_|refine aa rfl ?_|refine ab rfl ?_|refine wO rfl rfl ?_)
 cases e2:b.ok with
 | false=>
  refine VO.call rfl rfl (fk Tryz.func68) (fun dC gu eu=>(fQ b false e2 _ dC (h2.kp (Kp.of (U:=UU) eu)) hb hk).mono ?_)
  rintro e w2 ⟨rfl,bm⟩
  skip
  refine ⟨_,rfl,bm,fun fZ _ bb2=>wV rfl ?_⟩
  (repeat first|refine wN ?_|refine wP rfl ?_|refine aa rfl ?_|refine ab rfl ?_|refine wO rfl rfl ?_)
  refine VS.ret (aL _ _) rfl rfl (fun wz kz bz=> ?_)
  exact ⟨by unfold jm;rw [e1,e2];rfl,bz⟩
 | true=>
 refine VO.call rfl rfl (fk Tryz.func68) (fun dC gu eu=>(fQ b true e2 _ dC (h2.kp (Kp.of (U:=UU) eu)) hb hk).mono ?_)
 rintro e w2 ⟨rfl,bm⟩
 skip
 refine ⟨_,rfl,bm,fun fZ _ bb2=>wV rfl ?_⟩
 (repeat first|refine wN ?_|refine wP rfl ?_|refine aa rfl ?_|refine ab rfl ?_|refine wO rfl rfl ?_)
 obtain ⟨sg,jn⟩:∃ sg,dK a.q 0=sg:=⟨_,rfl⟩
 have hrul:jm a b keep=(decide (sg≥0) && (decide (dK a.q 1≤0) && (decide (keep≥0) && decide (keep≤40)))):=by unfold jm;rw [e1,e2,jn];rfl
 rw [hrul]
 refine VO.call rfl rfl (fk Tryz.func13) (fun gv gY gV=>(bS _ a.q k gv ((h1.pz ha).kp (Kp.of (U:=UU) gV)) (by omega) sg jn).mono ?_)
 rintro e w3 ⟨rfl,cD⟩
 skip
 refine ⟨_,rfl,cD,fun kt _ bb3=>wV rfl ?_⟩
 (repeat first|refine wN ?_|refine wP rfl ?_|refine aa rfl ?_|refine ab rfl ?_|refine wO rfl rfl ?_)
 by_cases e3':sg < 0
 ·have e3:¬ sg≥0:=by omega
  rw [decide_eq_false e3]
  (repeat first|refine wN ?_|refine wP rfl ?_|refine aa rfl ?_|refine ab rfl ?_|refine wO rfl rfl ?_)
  refine VS.ret (aL _ _) rfl rfl (fun wz kz bz=> ?_)
  exact ⟨rfl,bz⟩
 have e3:sg≥0:=by omega
 rw [decide_eq_true e3]
 (repeat first|refine wN ?_|refine wP rfl ?_|refine aa rfl ?_|refine ab rfl ?_|refine wO rfl rfl ?_)
 refine VO.call rfl rfl (fk Tryz.func44) (fun nj qa qF=>(bF 1 nj (by omega) (by omega)).mono ?_)
 rintro e w4 ⟨r4,rfl,q4,gU⟩
 obtain ⟨s4,p4,n4,c4,t4,y4,m4,d4,rfl⟩:=q4.form
 refine ⟨_,rfl,gU,fun pd _ AZ=>wV rfl ?_⟩
 (repeat first|refine wN ?_|refine wP rfl ?_|refine aa rfl ?_|refine ab rfl ?_|refine wO rfl rfl ?_)
 have h11:((1:Int):Rat)=1:=rfl
 rw [h11] at q4
 obtain ⟨cm,eV⟩:∃ cm,dK a.q 1=cm:=⟨_,rfl⟩
 rw [eV]
 refine VO.call rfl rfl (fk Tryz.func12) (fun kg mG ku=>(dL _ _ a.q 1 k 1 kg ((h1.pz ha).kp (Kp.of (U:=UU) ku)) (q4.ki ⟨Sz.small (by decide),Sz.small (by decide)⟩) (by omega) (by omega) cm eV).mono ?_)
 rintro e w5 ⟨rfl,gi⟩
 skip
 refine ⟨_,rfl,gi,fun nk _ xf=>wV rfl ?_⟩
 (repeat first|refine wN ?_|refine wP rfl ?_|refine aa rfl ?_|refine ab rfl ?_|refine wO rfl rfl ?_)
 by_cases e4':0 < cm
 ·have e4:¬ cm≤0:=by omega
  rw [decide_eq_false e4]
  (repeat first|refine wN ?_|refine wP rfl ?_|refine aa rfl ?_|refine ab rfl ?_|refine wO rfl rfl ?_)
  refine VS.ret (aL _ _) rfl rfl (fun wz kz bz=> ?_)
  exact ⟨rfl,bz⟩
 have e4:cm≤0:=by omega
 rw [decide_eq_true e4]
 (repeat first|refine wN ?_|refine wP rfl ?_|refine aa rfl ?_|refine ab rfl ?_|refine wO rfl rfl ?_)
 by_cases e5':keep < 0
 ·have e5:¬ keep≥0:=by omega
  rw [decide_eq_false e5]
  (repeat first|refine wN ?_|refine wP rfl ?_|refine aa rfl ?_|refine ab rfl ?_|refine wO rfl rfl ?_)
  refine VS.ret (aL _ _) rfl rfl (fun wz kz bz=> ?_)
  exact ⟨rfl,bz⟩
 have e5:keep≥0:=by omega
 rw [decide_eq_true e5]
 (repeat first|refine wN ?_|refine wP rfl ?_|refine aa rfl ?_|refine ab rfl ?_|refine wO rfl rfl ?_)
 refine VS.ret (aL _ _) rfl rfl (fun wz kz bz=> ?_)
 exact ⟨rfl,bz⟩
theorem Dn (v:Value) (cs:List Value) (e:RR×RR) (k:Nat) (w:World) (hv:v=.agg cs.toArray) (h:xY k w cs e) (hk:k≤100000):
  Calls Tryz.prog 38 #[v] w fun o w'=>o=.returned (.bool (e.1.ok && e.2.ok))∧aj w w':=by
 obtain ⟨_,_,rfl,⟨p,c,r,d,rfl,h1⟩,⟨p',c',r',d',rfl,h2⟩,ha,hb⟩:=h
 subst hv
 refine aw (C:=cj Tryz.prog w _) (args:=[_]) Tryz.func38 rfl Tryz.ntmps38 (Nat.le_of_ble_eq_true rfl) ?_
 (repeat first|refine wN ?_|refine wP rfl ?_|refine aa rfl ?_|refine ab rfl ?_|refine wO rfl rfl ?_)
 cases e1:e.1.ok with
 | false=>
  refine VO.call rfl rfl (fk Tryz.func68) (fun cC er dv=>(fQ e.1 false e1 _ cC (h1.kp (Kp.of (U:=UU) dv)) ha hk).mono ?_)
  rintro e w1 ⟨rfl,aV⟩
  skip
  refine ⟨_,rfl,aV,fun fe _ bb1=>wV rfl ?_⟩
  (repeat first|refine wN ?_|refine wP rfl ?_|refine aa rfl ?_|refine ab rfl ?_|refine wO rfl rfl ?_)
  refine VS.ret (aL _ _) rfl rfl (fun wz kz bz=> ?_)
  exact ⟨rfl,bz⟩
 | true=>
 refine VO.call rfl rfl (fk Tryz.func68) (fun cC er dv=>(fQ e.1 true e1 _ cC (h1.kp (Kp.of (U:=UU) dv)) ha hk).mono ?_)
 rintro e w1 ⟨rfl,aV⟩
 skip
 refine ⟨_,rfl,aV,fun fe _ bb1=>wV rfl ?_⟩
 (repeat first|refine wN ?_|refine wP rfl ?_|refine aa rfl ?_|refine ab rfl ?_|refine wO rfl rfl ?_)
 obtain ⟨b2,bm⟩:∃ b2,e.2.ok=b2:=⟨_,rfl⟩
 rw [bm]
 refine VO.call rfl rfl (fk Tryz.func68) (fun dC gu eu=>(fQ e.2 b2 bm _ dC (h2.kp (Kp.of (U:=UU) eu)) hb hk).mono ?_)
 rintro e w2 ⟨rfl,bm⟩
 skip
 refine ⟨_,rfl,bm,fun fZ _ bb2=>wV rfl ?_⟩
 (repeat first|refine wN ?_|refine wP rfl ?_|refine aa rfl ?_|refine ab rfl ?_|refine wO rfl rfl ?_)
 refine VS.ret (aL _ _) rfl rfl (fun wz kz bz=> ?_)
 exact ⟨rfl,bz⟩
def pP (e:RR×RR):Bool:=e.1.ok && e.2.ok
theorem FI (v:Value) (cs:List Value) (e:RR×RR) (k:Nat) (w:World) (hv:v=.agg cs.toArray) (h:xY k w cs e) (hk:k≤100000) (b:Bool) (hb:pP e=b):
 Calls Tryz.prog 38 #[v] w fun o w'=>o=.returned (.bool b)∧aj w w':=hb▸Dn v cs e k w hv h hk
theorem zv (v:Value) (cs:List Value) (e:RR×RR) (k:Nat) (w:World) (hv:v=.agg cs.toArray) (h:xY k w cs e) (hk:k≤100000) (b:Bool) (hb:pP e=b):
  Calls Tryz.prog 37 #[v] w fun o w'=>o=.returned (.bool !b)∧aj w w':=by
 have h0:=h
 obtain ⟨_,_,rfl,⟨p,c,r,d,rfl,h1⟩,⟨p',c',r',d',rfl,h2⟩,ha,ya⟩:=h
 subst hv
 refine aw (C:=cj Tryz.prog w _) (args:=[_]) Tryz.func37 rfl Tryz.ntmps37 (Nat.le_of_ble_eq_true rfl) ?_
 (repeat first|refine wN ?_|refine wP rfl ?_|refine aa rfl ?_|refine ab rfl ?_|refine wO rfl rfl ?_)
 refine VO.call rfl rfl (fk Tryz.func38) (fun cC er dv=>(FI _ _ e k cC rfl ((fP k).kp h0 (Kp.of (U:=UU) dv)) hk b hb).mono ?_)
 rintro e w1 ⟨rfl,aV⟩
 skip
 refine ⟨_,rfl,aV,fun fe _ bb1=>wV rfl ?_⟩
 (repeat first|refine wN ?_|refine wP rfl ?_|refine aa rfl ?_|refine ab rfl ?_|refine wO rfl rfl ?_)
 refine VS.ret (aL _ _) rfl rfl (fun wz kz bz=> ?_)
 exact ⟨rfl,bz⟩
end Go.Proofs.YtabalinjfgcfeaaGreat
