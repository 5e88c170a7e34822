/- BD of the proof,laid behind one another. -/
import Derived.Test.YtabalinjfgcfeaaGreatKInterestMore4
set_option linter.all false
set_option maxRecDepth 4000
namespace Go.Proofs.YtabalinjfgcfeaaGreat
open Go.RowKit
attribute [local irreducible] aA VS
def Iz (D:Nat) (x:Rat):Prop:=∃ n:Int,x * ((D:Int):Rat)=((n:Int):Rat)
theorem Iz.zero {D:Nat}:Iz D 0:=⟨0,by rw [Rat.zero_mul];rfl⟩
theorem Iz.add {D:Nat} {x y:Rat} (h:Iz D x) (k:Iz D y):Iz D (x + y):=by
 obtain ⟨a,ha⟩:=h;obtain ⟨b,hb⟩:=k
 exact ⟨a + b,by rw [Rat.intCast_add,←ha,←hb];grind⟩
theorem Iz.sub {D:Nat} {x y:Rat} (h:Iz D x) (k:Iz D y):Iz D (x - y):=by
 obtain ⟨a,ha⟩:=h;obtain ⟨b,hb⟩:=k
 exact ⟨a - b,by rw [Rat.intCast_sub,←ha,←hb];grind⟩
theorem VO.via {C:Cx} {m:Option (List FuncId)} {full:Array Oper} {l:List Oper} {Q:Exit→Act→World→Prop} {F:Fr} {H:Hp} {w:World} {P:Fr→Hp→World→Prop} {stk0 stk1:List It} (h1:(∀ F' H' w',P F' H' w'→VS C Q stk1 F' H' w')→aA C m full l (VS C Q stk0) F H w) (h2:∀ F' H' w',P F' H' w'→VS C Q stk1 F' H' w'):aA C m full l (VS C Q stk0) F H w:=h1 h2
theorem vW {d:Rat} (h:d≠0):eG d 0≠0:=fun e=>h (by
 have h1:=jM.1 (show eG d 0≤0 by omega)
 have h2:=rZ.1 (show eG d 0≥0 by omega)
 grind)
theorem rnr_ok' {a y:AV} {r:Value} (h:aG a=true) (hr:aR r=true) (hu:aG y=true):[a,.val r,y].all aG=true:=by
 rw [List.all_cons,List.all_cons,List.all_cons,h,hu]
 show (true && (aR r && true))=true
 rw [hr];rfl
structure vd (B:Nat) (w:World) (n c:Nat) (vs:List (List Value)) (sp:List AV) (es:List Uq):Prop where
 len:n=es.length
 el:cM (nK B) w es vs
 so:sp.all aG=true
 sl:ay sp=[]
 le:n≤c
 cm:c≤9223372036854775807
 fl:(vs.flatten.map AV.val++sp).length=c * 6
theorem vd.kp {B n c:Nat} {w w':World} {vs:List (List Value)} {sp:List AV} {es:List Uq} (h:vd B w n c vs sp es) (k:Kp UU w w'):vd B w' n c vs sp es:=⟨h.len,h.el.kp (dk B) k,h.so,h.sl,h.le,h.cm,h.fl⟩
theorem vd.o {B n c:Nat} {w:World} {vs:List (List Value)} {sp:List AV} {es:List Uq} (h:vd B w n c vs sp es) (β:Nat→Nat):cX (nK B) 6 w n 0 c [] vs (sp.map (AV.leaf β)) es:=
 ⟨h.len,.inl rfl,rfl,h.el,cJ h.so,h.le,h.cm,by have:=h.fl;rw [List.length_append,List.length_map] at this;rw [List.length_append,List.length_map];exact this⟩
theorem bg {pre:List Value} {off:Nat} {cs:List Value} {vs:List (List Value)} {spare:List Value} (iB:pre.length=off) (k:Nat) (ds:List Value) (hd:ds <+:cs.drop k):∀ (j:Nat) (u:AV),(ds.map AV.val)[j]? =some u→((pre++((cs::vs).flatten++spare)).map AV.val)[off + k + j]? =some u:=by
 intro j u hj
 obtain ⟨t,ht⟩:=hd
 rw [List.getElem?_map] at hj ⊢
 have hlt:j < ds.length:=by
  by_cases h:j < ds.length
  ·exact h
  ·rw [List.getElem?_eq_none (by omega)] at hj;cases hj
 have hk:k + j < cs.length:=by
  have:=congrArg List.length ht
  rw [List.length_append,List.length_drop] at this;omega
 rw [List.getElem?_append_right (by omega),iB,List.flatten_cons,List.append_assoc,show off + k + j - off=k + j by omega,List.getElem?_append_left hk,←List.getElem?_drop,←ht,List.getElem?_append_left hlt]
 exact hj
theorem sn {pre:List Value} {off:Nat} {a x1 x2 x3 x4 y1 y2 y3 y4:Value} {vs:List (List Value)} {spare:List Value} (iB:pre.length=off):
  ((pre++(([a,x1,x2,x3,x4]::vs).flatten++spare)).map AV.val).take (off + 1)++([.val y1,.val y2,.val y3,.val y4]++((pre++(([a,x1,x2,x3,x4]::vs).flatten++spare)).map AV.val).drop (off + 1 + 4))=(pre++(([a,y1,y2,y3,y4]::vs).flatten++spare)).map AV.val:=by
 have e:off=(pre.map AV.val).length:=by rw [List.length_map];exact iB.symm
 rw [List.map_append,e,Nat.add_assoc,List.take_length_add_append,List.drop_length_add_append,List.append_assoc,List.map_append]
 simp
theorem nj {pre:List Value} {off c':Nat} {a y1 y2 y3 y4:Value} (iB:pre.length=off):(pre++[a,y1,y2,y3,y4]).length=(if c'=1 then off else off + 5)∨c' - 1=0:=by
 by_cases h:c'=1
 ·exact .inr (by omega)
 ·rw [if_neg h,List.length_append,iB];exact .inl rfl
theorem nk {a x1 x2 x3 x4:Value} {vs:List (List Value)} {spare:List Value} {c':Nat} (h:(([a,x1,x2,x3,x4]::vs).flatten++spare).length=c' * 5):(vs.flatten++spare).length=(c' - 1) * 5:=by
 rw [List.flatten_cons,List.append_assoc,List.length_append] at h
 have h':5 + (vs.flatten++spare).length=c' * 5:=h
 omega
theorem dG (pre cs:List Value) (vs:List (List Value)) (spare:List Value):(pre++((cs::vs).flatten++spare)).map AV.val=((pre++cs)++(vs.flatten++spare)).map AV.val:=by
 rw [List.flatten_cons,List.append_assoc,List.append_assoc]
def sq (B:Nat) (D:Nat) (M:Rat) (W0:World) (rv:Value) (y:Nat) (q:List Vq) (m:Rat) (idx:Nat) (L:List (Nat×AV)) (Mm:List (Nat×(TypeId×List AV))) (w':World):Prop:=
 ∃ (q':List Vq) (aQ n' c':Nat) (bI:List Value) (gE:List (List Value)) (ak:List Value) (m' s':Rat) (done:List Uq) (v8 Us:AV) (Um:List (Nat×(TypeId×List AV))) (s1 t1 s2 t2:Bool) (p1 y1 p2 y2:Option Addr) (n1 c1 m1 d1 n2 c2 m2 d2:Nat),
   idx=2 * q'.length + (if 0 < m' then 1 else 0)∧L=[(0,.box 154 0),(1,.val (.int .i64 (y:Int))),(5,.box 5 0),(6,.box 6 0),(7,.box 7 0),(8,v8)]∧
   Mm=(154,(Runner,[.row 155 aQ n' c',.val rv,Us]))::(155,(cO,(bI++(gE.flatten++ak)).map .val))::(5,(26,([.bool s1,.slice p1 n1 c1,.bool t1,.slice y1 m1 d1]:List Value).map .val))::(6,(26,([.bool false,.slice none 0 0,.bool false,.slice none 0 0]:List Value).map .val))::(7,(26,([.bool s2,.slice p2 n2 c2,.bool t2,.slice y2 m2 d2]:List Value).map .val))::Um∧
   cX (cG B) 5 w' n' aQ c' bI gE ak q'∧cP w' (.agg #[.bool s1,.slice p1 n1 c1,.bool t1,.slice y1 m1 d1]) m'∧aK w' W0.heap.size (.agg #[.bool s2,.slice p2 n2 c2,.bool t2,.slice y2 m2 d2]) s'∧Iz D m'∧Iz D s'∧0≤m'∧0≤s'∧s' + m'=m∧(∀ p∈q',Iz D p.2∧0≤p.2∧p.2≤M)∧
   nW y q m=done++nW y q' m'∧ld q m=ld q' m'∧rh q m=s' + rh q' m'∧((n'=0∧v8=.val (.pointer none))∨(n'≠0∧v8=.kC 155 aQ))∧done.length + (if 0 < m' then q'.length else 0)≤q.length∧
   ((Us=.val (.slice none 0 0)∧Um=[]∧done=[])∨∃ un uc oW qS,Us=.row 47 0 un uc∧Um=[(47,(ey,oW.flatten.map .val++qS))]∧vd B w' un uc oW qS (done))
def ss (B:Nat) (D:Nat) (M:Rat) (W0:World) (rv:Value) (y:Nat) (q:List Vq) (m:Rat) (yM Bd:Nat) (mw:List (List Value)) (nL:List Value) (us0:List Uq) (idx:Nat) (L:List (Nat×AV)) (Mm:List (Nat×(TypeId×List AV))) (w':World):Prop:=
 ∃ (q':List Vq) (aQ n' c':Nat) (bI:List Value) (gE:List (List Value)) (ak:List Value) (m' s':Rat) (done:List Uq) (v8 Us:AV) (Um:List (Nat×(TypeId×List AV))) (s1 t1 s2 t2:Bool) (p1 y1 p2 y2:Option Addr) (n1 c1 m1 d1 n2 c2 m2 d2:Nat),
   idx=2 * q'.length + (if 0 < m' then 1 else 0)∧L=[(0,.box 154 0),(1,.val (.int .i64 (y:Int))),(5,.box 5 0),(6,.box 6 0),(7,.box 7 0),(8,v8)]∧
   Mm=(154,(Runner,[.row 155 aQ n' c',.val rv,Us]))::(155,(cO,(bI++(gE.flatten++ak)).map .val))::(5,(26,([.bool s1,.slice p1 n1 c1,.bool t1,.slice y1 m1 d1]:List Value).map .val))::(6,(26,([.bool false,.slice none 0 0,.bool false,.slice none 0 0]:List Value).map .val))::(7,(26,([.bool s2,.slice p2 n2 c2,.bool t2,.slice y2 m2 d2]:List Value).map .val))::Um∧
   cX (cG B) 5 w' n' aQ c' bI gE ak q'∧cP w' (.agg #[.bool s1,.slice p1 n1 c1,.bool t1,.slice y1 m1 d1]) m'∧aK w' W0.heap.size (.agg #[.bool s2,.slice p2 n2 c2,.bool t2,.slice y2 m2 d2]) s'∧Iz D m'∧Iz D s'∧0≤m'∧0≤s'∧s' + m'=m∧(∀ p∈q',Iz D p.2∧0≤p.2∧p.2≤M)∧
   nW y q m=done++nW y q' m'∧ld q m=ld q' m'∧rh q m=s' + rh q' m'∧((n'=0∧v8=.val (.pointer none))∨(n'≠0∧v8=.kC 155 aQ))∧done.length + (if 0 < m' then q'.length else 0)≤q.length∧
   ((Us=.row 156 0 yM Bd∧Um=[(156,(ey,mw.flatten.map .val++nL.map .val))]∧done=[]∧aF (KU UU) W0 w')∨∃ un uc oW qS,Us=.row 47 0 un uc∧Um=[(47,(ey,oW.flatten.map .val++qS))]∧vd B w' un uc oW qS (us0++done))
set_option maxRecDepth 4000 in
set_option maxHeartbeats 8000000 in
theorem Mq (B g b off n c y D kk:Nat) (M m:Rat) (pre:List Value) (vs:List (List Value)) (spare:List Value) (q:List Vq) (rv v:Value) (w:World)
  (hg:aV w g Runner #[.slice (some ⟨b,off,none⟩) n c,rv,.slice none 0 0]) (hb:aV w b cO (pre++(vs.flatten++spare)).toArray) (hO:cX (cG B) 5 w n off c pre vs spare q) (hr:aR rv=true) (hv:cP w v m) (hmI:Iz D m) (xP:0≤m) (hmM:m≤M) (hq:∀ p∈q,Iz D p.2∧0≤p.2∧p.2≤M)
  (hK:∀ x,Iz D x→0≤x→x≤M→fo x kk) (hk:kk≤100000) (jA:q.length≤1000) (hB:B≤w.heap.size):
  Calls Tryz.prog 73 #[.pointer (some ⟨g,0,none⟩),.int .i64 (y:Int),v] w fun o w'=>∃ x,o=.returned x∧aK w' w.heap.size x (rh q m)∧qJ [g,b] w w'∧∃ aQ n' c' bI gE ak uv,aV w' g Runner #[.slice (some ⟨b,aQ,none⟩) n' c',rv,uv]∧aV w' b cO (bI++(gE.flatten++ak)).toArray∧cX (cG B) 5 w' n' aQ c' bI gE ak (ld q m)∧((uv=.slice none 0 0∧nW y q m=[])∨∃ b' un uc oW qS,w.heap.size≤b'∧uv=.slice (some ⟨b',0,none⟩) un uc∧aV w' b' ey (oW.flatten++qS).toArray∧cX (nK B) 6 w' un 0 uc [] oW qS (nW y q m)):=by
 have hgb:g≠b:=fun e=>by subst e;exact absurd (bo hg hb) (by decide)
 obtain ⟨s0,p0,n0,c0,t0,y0,m0,d0,rfl⟩:=hv.form
 have pX:iI (KU UU) 77 [g,b] [(Runner,[.row 155 off n c,.val rv,.val (.slice none 0 0)]),(cO,(pre++(vs.flatten++spare)).map .val)] w:=by
  refine ⟨rfl,by simp [hgb],fun j g' c' hj hc=> ?_,fun c' hc=> ?_,fun c' hc k hk=> ?_⟩
  ·match j,hj,hc with
   | 0,hj,hc=>cases hj;cases hc;exact hg
   | 1,hj,hc=>cases hj;cases hc;rw [ah];exact hb
   | j + 2,hj,_=>simp at hj
  ·rcases List.mem_cons.1 hc with rfl | hc
   ·exact ⟨rfl,Ba rfl hr rfl⟩
   ·cases List.mem_singleton.1 hc
    exact ⟨rfl,aZ (hO.all (aL B))⟩
  ·rcases List.mem_cons.1 hc with rfl | hc
   ·have:k=155:=by simpa [ay,AV.cL] using hk
    subst this;exact ⟨by omega,by show 155 < 2 * 77 + 2;omega⟩
   ·cases List.mem_singleton.1 hc
    rw [ao] at hk;cases hk
 refine dZ Tryz.prog w _ (KU UU) (fun t=>Nat.beq t 22) table (fun _ _=>trivial) (ad:=[g,b]) (us:=[_,_]) Tryz.func73 rfl Tryz.ntmps73 (Nat.le_of_ble_eq_true rfl) pX (Nat.le_of_ble_eq_true rfl) ?_
 (repeat first|refine wN ?_|refine wP rfl ?_|refine af rfl ?_|refine ag rfl ?_|refine wO rfl rfl ?_)
 refine VO.call rfl rfl (fk Tryz.func44) (fun cB eu dt=>((bF 0 cB (by omega) (by omega)).mono (fun o w2 h=>And.intro h dt.1.size)).mono ?_)
 rintro o w1 ⟨⟨r9,rfl,q9,Gv⟩,FM⟩
 obtain ⟨s9,p9,n9,c9,t9,y9,m9,d9,rfl⟩:=q9.form
 refine ⟨_,rfl,Gv,fun Bz _ bb9=>wV rfl ?_⟩
 (repeat first|refine wN ?_|refine wP rfl ?_|refine af rfl ?_|refine ag rfl ?_|refine wO rfl rfl ?_)
 have Me:((0:Int):Rat)=0:=rfl
 rw [Me] at q9
 apply VO.via (P:=fun F' H' w'=>Entry (sq B D M w rv y q m ) (2 * q.length + (if 0 < m then 1 else 0)) F' H' w')
 ·intro cont
  by_cases lU:n=0
  ·refine VO.cY (x:=.row 155 off n c) (p:=fun _=>none) (c:=c) rfl (fun β=>.inr ⟨_,congrArg (fun n=>Value.slice (some ⟨β 155,off,none⟩) n c) lU⟩) rfl (fk Tryz.func75) rfl (fun w3 k3 b3=>wV rfl ?_)
   (repeat first|refine wN ?_|refine wP rfl ?_|refine af rfl ?_|refine ag rfl ?_|refine wO rfl rfl ?_)
   refine cont _ _ _ ⟨_,_,?_,?_,?_,?_,⟨q,off,n,c,pre,vs,spare,m,0,[],.val (.pointer none),_,_,_,_,_,_,_,_,_,_,_,_,_,_,_,_,_,_,rfl,rfl,rfl,hO.kp (aL B) (by (with_reducible (repeat (first | assumption | exact kU _ | exact kR _ | exact Kp.of (U:=UU) (by assumption) | exact aF.of (by assumption) | refine kT ?_ (by assumption))))),hv.k,(q9.mono FM).kp (by (with_reducible (repeat (first | assumption | exact kU _ | exact kR _ | exact Kp.of (U:=UU) (by assumption) | exact aF.of (by assumption) | refine kT ?_ (by assumption))))),hmI,Iz.zero,xP,Rat.le_refl,by grind,hq,rfl,rfl,by grind,.inl ⟨lU,rfl⟩,by split <;> simp,.inl ⟨rfl,rfl,rfl⟩⟩⟩
   ·(repeat first|exact trivial|refine ⟨rfl,?_⟩)
   ·(repeat first|exact trivial|refine ⟨rfl,?_⟩)
   ·rfl
   ·exact ⟨.lit rfl,.vals _,.vals _,.vals _,.vals _,trivial⟩
  ·refine VO.cH rfl rfl (fk Tryz.func75) rfl lU (by intro h;cases h) (fun w3 k3 b3=>wV rfl ?_)
   (repeat first|refine wN ?_|refine wP rfl ?_|refine af rfl ?_|refine ag rfl ?_|refine wO rfl rfl ?_)
   refine cont _ _ _ ⟨_,_,?_,?_,?_,?_,⟨q,off,n,c,pre,vs,spare,m,0,[],.kC 155 off,_,_,_,_,_,_,_,_,_,_,_,_,_,_,_,_,_,_,rfl,rfl,rfl,hO.kp (aL B) (by (with_reducible (repeat (first | assumption | exact kU _ | exact kR _ | exact Kp.of (U:=UU) (by assumption) | exact aF.of (by assumption) | refine kT ?_ (by assumption))))),hv.k,(q9.mono FM).kp (by (with_reducible (repeat (first | assumption | exact kU _ | exact kR _ | exact Kp.of (U:=UU) (by assumption) | exact aF.of (by assumption) | refine kT ?_ (by assumption))))),hmI,Iz.zero,xP,Rat.le_refl,by grind,hq,rfl,rfl,by grind,.inr ⟨lU,rfl⟩,by split <;> simp,.inl ⟨rfl,rfl,rfl⟩⟩⟩
   ·(repeat first|exact trivial|refine ⟨rfl,?_⟩)
   ·(repeat first|exact trivial|refine ⟨rfl,?_⟩)
   ·rfl
   ·exact ⟨.lit rfl,.vals _,.vals _,.vals _,.vals _,trivial⟩
 ·intro F0 H0 w0' hent
  refine VS.loop (J:=sq B D M w rv y q m ) _ hent ?_
  rintro idx L Mm w' ⟨q',aQ,n',c',bI,gE,ak,m',s',done,v8,Us,Um,s1,t1,s2,t2,p1,y1,p2,y2,n1,c1,m1,d1,n2,c2,m2,d2,rfl,rfl,rfl,gL,En,uJ,lJ,Jy,tI,hs0,hsm,Al,eU,eL,eS,Jz,iE,hUs⟩
  have oX:m'≤M:=by grind
  have hsM:s'≤M:=by grind
  rcases hUs with ⟨rfl,rfl,rfl⟩ | ⟨un,uc,oW,qS,rfl,rfl,tJ⟩
  ·rcases Jz with ⟨lU,rfl⟩ | ⟨lU,rfl⟩
   ·have Ef:q'=[]:=List.eq_nil_of_length_eq_zero (by rw [←gL.len];exact lU)
    subst Ef
    have fU:nW y [] m'=[]:=rfl
    have fL:ld [] m'=[]:=rfl
    have fS:rh [] m'=0:=rfl
    (repeat first|refine wN ?_|refine wP rfl ?_|refine af rfl ?_|refine ag rfl ?_|refine wO rfl rfl ?_)
    refine VS.oJ (bj _ _) rfl (fun wz β kz oz en=> ?_)
    obtain ⟨o1,o2⟩:=ea (en.own 154 _ _ rfl) 0 g rfl rfl
    obtain ⟨o3,o4⟩:=ea (en.own 155 _ _ rfl) 1 b rfl rfl
    rw [ah] at o4
    replace o3:β 155=b:=o3
    rw [fU] at eU
    rw [fL] at eL
    rw [fS,show s' + 0=s' by grind] at eS
    refine ⟨_,rfl,?_,oz.1,aQ,n',c',bI,gE,ak,.slice none 0 0,?_,o4,?_,.inl ⟨rfl,?_⟩⟩
    ·rw [eS];exact uJ.k
    ·rw [←o3];exact o2
    ·rw [eL];exact gL.kp (aL B) (by (with_reducible (repeat (first | assumption | exact kU _ | exact kR _ | exact Kp.of (U:=UU) (by assumption) | exact aF.of (by assumption) | refine kT ?_ (by assumption)))))
    ·rw [eU];rfl
   ·obtain ⟨e,fw,rfl⟩:∃ e fw,q'=e::fw:=by
     cases q' with
     | nil=>exact absurd gL.len lU
     | cons e fw=>exact ⟨e,fw,rfl⟩
    obtain ⟨cs,fT,rfl,hE,qT⟩:∃ cs fT,gE=cs::fT∧cG B w' cs e∧cM (cG B) w' fw fT:=by
     have:=gL.el
     cases this with
     | cons h1 h2=>exact ⟨_,_,rfl,h1,h2⟩
    obtain ⟨s3,p3,n3,c3,t3,y3,m3,d3,rfl,Mr⟩:=hE
    have uY:=gL.le
    have qO:=gL.len
    have uS:=gL.cm
    have iB:bI.length=aQ:=gL.pl.resolve_right (by omega)
    obtain ⟨ky,yA,Bv⟩:=Al e (by simp)
    (repeat first|refine wN ?_|refine wP rfl ?_|refine af rfl ?_|refine ag rfl ?_|refine wO rfl rfl ?_)
    obtain ⟨sg,kE⟩:∃ sg,eG m' 0=sg:=⟨_,rfl⟩
    refine VO.call rfl rfl (fk Tryz.func13) (fun cB eu dt=>(dL _ m' kk cB (En.ki (hK m' lJ tI oX)) (by omega) sg kE).mono ?_)
    rintro e w1 ⟨rfl,aU⟩
    skip
    refine ⟨_,rfl,aU,fun fq _ bb1=>wV rfl ?_⟩
    (repeat first|refine wN ?_|refine wP rfl ?_|refine af rfl ?_|refine ag rfl ?_|refine wO rfl rfl ?_)
    by_cases hm:0 < m'
    ·have kj:sg > 0:=by rw [←kE];exact fe.2 hm
     rw [if_pos hm] at iE
     refine VS.bG rfl (decide_eq_true kj) ?_
     (repeat first|refine wN ?_|refine wP rfl ?_|refine af rfl ?_|refine ag rfl ?_|refine wO rfl rfl ?_)
     refine VO.de rfl (([.bool s3,.slice p3 n3 c3,.bool t3,.slice y3 m3 d3]:List Value).map .val) rfl (bg iB 1 _ ⟨[],rfl⟩) (wV rfl ?_)
     (repeat first|refine wN ?_|refine wP rfl ?_|refine af rfl ?_|refine ag rfl ?_|refine wO rfl rfl ?_)
     have uW:=cQ e.2 m'
     have FN:0≤ai e.2 m':=by rcases uW with ⟨h,_⟩ | ⟨h,_⟩ <;> rw [h] <;> assumption
     have pJ:Iz D (ai e.2 m'):=by rcases uW with ⟨h,_⟩ | ⟨h,_⟩ <;> rw [h] <;> assumption
     have zz:=dh e.2 m'
     have vN:=bR e.2 m'
     have lN:=hK _ pJ FN (Rat.le_trans vN oX)
     refine VO.gi rfl (fk Tryz.func71) (fun dR β gS eW ho=>((fO _ _ e.2 [m'] kk dR (Mr.rd.ki (hK e.2 ky yA Bv)) (eE (ho.own 31 (.base (List.mem_singleton.2 rfl)) _ _ rfl) [] (vs:=[[.bool s1,.slice p1 n1 c1,.bool t1,.slice y1 m1 d1]]) (by rfl) rfl (cD.cons (En.ki (hK m' lJ tI oX)) cD.nil) (Nat.le_of_ble_eq_true rfl) (by decide)) (by omega) (Nat.le_of_ble_eq_true rfl)).mono (fun o w2 h=>And.intro h eW.1.size)).mono ?_)
     rintro o w2 ⟨⟨r4,rfl,q4,z4,bn⟩,qU⟩
     rw [gV] at q4
     have xT:aK w2 w.heap.size r4 (ai e.2 m'):=q4.mono qU
     obtain ⟨s4,p4,n4,c4,t4,y4,m4,d4,rfl⟩:=xT.form
     refine ⟨_,rfl,bn,fun gw _ bb2=>wV rfl ?_⟩
     (repeat first|refine wN ?_|refine wP rfl ?_|refine af rfl ?_|refine ag rfl ?_|refine wO rfl rfl ?_)
     refine VO.de rfl (([.int .i64 (e.1:Int)]:List Value).map .val) rfl (bg iB 0 _ ⟨_,rfl⟩) (wV rfl ?_)
     (repeat first|refine wN ?_|refine wP rfl ?_|refine af rfl ?_|refine ag rfl ?_|refine wO rfl rfl ?_)
     refine VO.app (bj _ _) (t:=34) (e:=ey) (sz:=6) (n:=0) (c:=0) (mm:=1) (known:=[]) (spare:=[]) (del:=none) (news:=([.int .i64 (e.1:Int),.int .i64 (y:Int),.bool s4,.slice p4 n4 c4,.bool t4,.slice y4 m4 d4]:List Value).map .val) (dst:=47) rfl rfl rfl rfl rfl rfl rfl rfl (Nat.le_of_ble_eq_true rfl) rfl (.inl ⟨rfl,rfl,rfl,rfl,rfl,rfl,by omega⟩) (.inl rfl) rfl rfl (Nat.le_refl _) (by omega) ⟨rfl,rfl,rfl⟩ ⟨rfl,rfl,rfl⟩ rfl (by omega)
      (fun w1 β k1 b1 ho=>⟨_,_,rfl,.inr ⟨β 46,0,rfl,cK (rest:=[]) (ho.own 46 (.base (List.mem_append_right _ (List.mem_singleton.2 rfl))) _ _ rfl) rfl⟩⟩)
      (fun oO cap' eF ρ Hf Hg fD jh gU ed ni dv=>wV rfl ?_)
     (repeat first|refine wN ?_|refine wP rfl ?_|refine af rfl ?_|refine ag rfl ?_|refine wO rfl rfl ?_)
     have yo:vd B oO (0 + 1) cap' ([[.int .i64 (e.1:Int),.int .i64 (y:Int),.bool s4,.slice p4 n4 c4,.bool t4,.slice y4 m4 d4]]:List (List Value)) eF (([]++[(e.1,y,ai e.2 m')])):=⟨by simp <;> omega,by exact cM.cons (show nK B oO [.int .i64 (e.1:Int),.int .i64 (y:Int),.bool s4,.slice p4 n4 c4,.bool t4,.slice y4 m4 d4] (e.1,y,ai e.2 m') from ⟨s4,p4,n4,c4,t4,y4,m4,d4,rfl,(xT.mono hB).kp (by (with_reducible (repeat (first | assumption | exact kU _ | exact kR _ | exact Kp.of (U:=UU) (by assumption) | exact aF.of (by assumption) | refine kT ?_ (by assumption)))))⟩) cM.nil,ni,dv,jh,gU,by simpa using ed⟩
     refine VO.call rfl rfl (fk Tryz.func16) (fun jK mD jy=>((eT _ _ s' (ai e.2 m') kk kk jK (uJ.rd.ki (hK s' Jy hs0 hsM)) (xT.rd.ki lN) (by omega) (by omega)).mono (fun o w2 h=>And.intro h jy.1.size)).mono ?_)
     rintro o w5 ⟨⟨r5,rfl,q5,fY⟩,pY⟩
     obtain ⟨s5,p5,n5,c5,t5,y5,m5,d5,rfl⟩:=q5.form
     refine ⟨_,rfl,fY,fun mX _ vQ=>wV rfl ?_⟩
     (repeat first|refine wN ?_|refine wP rfl ?_|refine af rfl ?_|refine ag rfl ?_|refine wO rfl rfl ?_)
     refine VO.call rfl rfl (fk Tryz.func72) (fun pW uC uZ=>(ck _ _ m' (ai e.2 m') kk kk pW (En.ki (hK m' lJ tI oX)) (xT.rd.ki lN) (by omega) (by omega)).mono ?_)
     rintro e w6 ⟨r6,rfl,q6,ny⟩
     obtain ⟨s6,p6,n6,c6,t6,y6,m6,d6,rfl⟩:=q6.form
     refine ⟨_,rfl,ny,fun tD _ Dl=>wV rfl ?_⟩
     (repeat first|refine wN ?_|refine wP rfl ?_|refine af rfl ?_|refine ag rfl ?_|refine wO rfl rfl ?_)
     refine VO.de rfl (([.bool s3,.slice p3 n3 c3,.bool t3,.slice y3 m3 d3]:List Value).map .val) rfl (bg iB 1 _ ⟨[],rfl⟩) (wV rfl ?_)
     (repeat first|refine wN ?_|refine wP rfl ?_|refine af rfl ?_|refine ag rfl ?_|refine wO rfl rfl ?_)
     refine VO.call rfl rfl (fk Tryz.func72) (fun yH Em xE=>((ck _ _ e.2 (ai e.2 m') kk kk yH (Mr.rd.ki (hK e.2 ky yA Bv)) (xT.rd.ki lN) (by omega) (by omega)).mono (fun o w2 h=>And.intro h xE.1.size)).mono ?_)
     rintro o w7 ⟨⟨r7,rfl,q7,uX⟩,FO⟩
     obtain ⟨s7,p7,n7,c7,t7,y7,m7,d7,rfl⟩:=q7.form
     refine ⟨_,rfl,uX,fun zK _ bb7=>wV rfl ?_⟩
     (repeat first|refine wN ?_|refine wP rfl ?_|refine af rfl ?_|refine ag rfl ?_|refine wO rfl rfl ?_)
     refine VO.cond rfl (by show aQ + 1 + 4≤_;rw [List.length_map,List.length_append,List.length_append,List.flatten_cons,List.length_append,iB];show aQ + 1 + 4≤aQ + (6 - 1 + _ + _);omega) (VO.fu 155 rfl (sn iB) (wV rfl ?_))
     (repeat first|refine wN ?_|refine wP rfl ?_|refine af rfl ?_|refine ag rfl ?_|refine wO rfl rfl ?_)
     refine VO.de rfl (([.bool s7,.slice p7 n7 c7,.bool t7,.slice y7 m7 d7]:List Value).map .val) rfl (bg iB 1 _ ⟨[],rfl⟩) (wV rfl ?_)
     (repeat first|refine wN ?_|refine wP rfl ?_|refine af rfl ?_|refine ag rfl ?_|refine wO rfl rfl ?_)
     have zB:0≤e.2 - ai e.2 m':=by grind
     have Ms:e.2 - ai e.2 m'≤M:=by grind
     have Mt:Iz D (e.2 - ai e.2 m'):=ky.sub pJ
     obtain ⟨kg,lF⟩:∃ kg,eG (e.2 - ai e.2 m') 0=kg:=⟨_,rfl⟩
     refine VO.call rfl rfl (fk Tryz.func13) (fun vc Fu yI=>(dL _ (e.2 - ai e.2 m') kk vc (q7.ki (hK _ Mt zB Ms)) (by omega) kg lF).mono ?_)
     rintro e w8 ⟨rfl,re⟩
     skip
     refine ⟨_,rfl,re,fun vT _ JZ=>wV rfl ?_⟩
     (repeat first|refine wN ?_|refine wP rfl ?_|refine af rfl ?_|refine ag rfl ?_|refine wO rfl rfl ?_)
     have hE7:cG B w8 [.int .i64 (e.1:Int),.bool s7,.slice p7 n7 c7,.bool t7,.slice y7 m7 d7] (e.1,e.2 - ai e.2 m'):=⟨s7,p7,n7,c7,t7,y7,m7,d7,rfl,(q7.mono (Nat.le_trans hB FO)).kp (by (with_reducible (repeat (first | assumption | exact kU _ | exact kR _ | exact Kp.of (U:=UU) (by assumption) | exact aF.of (by assumption) | refine kT ?_ (by assumption)))))⟩
     have zv:=gL.so
     have Jx:=gL.po
     have sT:=gL.fl
     have CW:0≤m' - ai e.2 m':=by grind
     have Ff:0≤s' + ai e.2 m':=by grind
     have xU:s' + ai e.2 m' + (m' - ai e.2 m')=m:=by grind
     have xV:=(q6.kr (w':=w8) (by (with_reducible (repeat (first | assumption | exact kU _ | exact kR _ | exact Kp.of (U:=UU) (by assumption) | exact aF.of (by assumption) | refine kT ?_ (by assumption))))))
     have xW:aK w8 w.heap.size _ (s' + ai e.2 m'):=(q5.mono pY).kp (by (with_reducible (repeat (first | assumption | exact kU _ | exact kR _ | exact Kp.of (U:=UU) (by assumption) | exact aF.of (by assumption) | refine kT ?_ (by assumption)))))
     have Mu:cM (cG B) w8 fw fT:=qT.kp (aL B) (by (with_reducible (repeat (first | assumption | exact kU _ | exact kR _ | exact Kp.of (U:=UU) (by assumption) | exact aF.of (by assumption) | refine kT ?_ (by assumption)))))
     by_cases hz:e.2 - ai e.2 m'=0
     ·have qV:(kg == 0)=true:=by rw [←lF,hz];rfl
      refine VS.bG rfl qV ?_
      (repeat first|refine wN ?_|refine wP rfl ?_|refine af rfl ?_|refine ag rfl ?_|refine wO rfl rfl ?_)
      obtain ⟨e1,e2,e3⟩:=fR (y:=y) (p:=e) (q:=fw) hm hz
      rw [e1,←List.singleton_append,←List.append_assoc] at eU
      rw [e2] at eL
      rw [e3] at eS
      refine VO.iz rfl rfl (fk Tryz.func76) rfl (by omega) uY uS (fun j hj=> ?_) (Nat.le_of_ble_eq_true rfl) (fun w9 k9 b9=>wV rfl ?_)
      ·rcases List.mem_cons.1 hj with rfl | hj
       ·intro h;cases h
       ·cases List.mem_singleton.1 hj
        intro h;cases h
      (repeat first|refine wN ?_|refine wP rfl ?_|refine af rfl ?_|refine ag rfl ?_|refine wO rfl rfl ?_)
      have hO9:cX (cG B) 5 w9 (n' - 1) (if c'=1 then aQ else aQ + 5) (c' - 1) (bI++[.int .i64 (e.1:Int),.bool s7,.slice p7 n7 c7,.bool t7,.slice y7 m7 d7]) fT ak fw:=⟨by rw [qO];rfl,nj iB,by rw [List.all_append,Jx];rfl,Mu.kp (aL B) (by (with_reducible (repeat (first | assumption | exact kU _ | exact kR _ | exact Kp.of (U:=UU) (by assumption) | exact aF.of (by assumption) | refine kT ?_ (by assumption))))),zv,by omega,by omega,nk sT⟩
      have gu:∀ (v8:AV) (wb:World),aF (KU UU) w9 wb→((n' - 1=0∧v8=.val (.pointer none))∨(n' - 1≠0∧v8=.kC 155 (if c'=1 then aQ else aQ + 5)))→sq B D M w rv y q m (2 * fw.length + (if 0 < m' - ai e.2 m' then 1 else 0)) [(0,.box 154 0),(1,.val (.int .i64 (y:Int))),(5,.box 5 0),(6,.box 6 0),(7,.box 7 0),(8,v8)]
        ((154,(Runner,[.row 155 (if c'=1 then aQ else aQ + 5) (n' - 1) (c' - 1),.val rv,.row 47 0 (0 + 1) cap']))::(155,(cO,((bI++([.int .i64 (e.1:Int),.bool s7,.slice p7 n7 c7,.bool t7,.slice y7 m7 d7]:List Value))++(fT.flatten++ak)).map AV.val))::(5,(26,([.bool s6,.slice p6 n6 c6,.bool t6,.slice y6 m6 d6]:List Value).map .val))::(6,(26,([.bool false,.slice none 0 0,.bool false,.slice none 0 0]:List Value).map .val))::(7,(26,([.bool s5,.slice p5 n5 c5,.bool t5,.slice y5 m5 d5]:List Value).map .val))::[(47,(ey,([[.int .i64 (e.1:Int),.int .i64 (y:Int),.bool s4,.slice p4 n4 c4,.bool t4,.slice y4 m4 d4]]:List (List Value)).flatten.map AV.val++eF))]) wb:=fun v8 wb kb Jz=>
       ⟨fw,_,_,_,_,fT,ak,m' - ai e.2 m',s' + ai e.2 m',[]++[(e.1,y,ai e.2 m')],v8,_,_,_,_,_,_,_,_,_,_,_,_,_,_,_,_,_,_,rfl,rfl,rfl,hO9.kp (aL B) (by (with_reducible (repeat (first | assumption | exact kU _ | exact kR _ | exact Kp.of (U:=UU) (by assumption) | exact aF.of (by assumption) | refine kT ?_ (by assumption))))),xV.k,xW.k,lJ.sub pJ,Jy.add pJ,CW,Ff,xU,fun p hp=>Al p (by simp [hp]),eU,eL,by rw [eS];grind,Jz,by simp at iE ⊢;split <;> omega,.inr ⟨_,_,_,_,rfl,rfl,yo.kp (by (with_reducible (repeat (first | assumption | exact kU _ | exact kR _ | exact Kp.of (U:=UU) (by assumption) | exact aF.of (by assumption) | refine kT ?_ (by assumption)))))⟩⟩
      have hlt:2 * fw.length + (if 0 < m' - ai e.2 m' then 1 else 0) < 2 * (e::fw).length + (if 0 < m' then 1 else 0):=by
       rw [if_pos hm,List.length_cons];split <;> omega
      by_cases sU:n' - 1=0
      ·refine VO.cY (x:=.row 155 (if c'=1 then aQ else aQ + 5) (n' - 1) (c' - 1)) (p:=fun _=>none) (c:=c' - 1) rfl (fun β=>.inr ⟨_,congrArg (fun n=>Value.slice (some ⟨β 155,(if c'=1 then aQ else aQ + 5),none⟩) n (c' - 1)) sU⟩) rfl (fk Tryz.func75) rfl (fun wb JA Hi=>wV rfl ?_)
       (repeat first|refine wN ?_|refine wP rfl ?_|refine af rfl ?_|refine ag rfl ?_|refine wO rfl rfl ?_)
       refine VS.back _ hlt ⟨_,_,?_,?_,?_,?_,gu _ wb (by (with_reducible (repeat (first | assumption | exact kU _ | exact kR _ | exact Kp.of (U:=UU) (by assumption) | exact aF.of (by assumption) | refine kT ?_ (by assumption))))) (.inl ⟨sU,rfl⟩)⟩
       ·(repeat first|exact trivial|refine ⟨rfl,?_⟩)
       ·exact ⟨rfl,congrArg (fun l=>some (cO,l)) (dG _ _ _ _),rfl,rfl,rfl,rfl,trivial⟩
       ·rfl
       ·exact ⟨.lit rfl,.vals _,.vals _,.vals _,.vals _,.append (.vals _) (.none dv),trivial⟩
      ·refine VO.cH rfl rfl (fk Tryz.func75) rfl sU (by intro h;cases h) (fun wb JA Hi=>wV rfl ?_)
       (repeat first|refine wN ?_|refine wP rfl ?_|refine af rfl ?_|refine ag rfl ?_|refine wO rfl rfl ?_)
       refine VS.back _ hlt ⟨_,_,?_,?_,?_,?_,gu _ wb (by (with_reducible (repeat (first | assumption | exact kU _ | exact kR _ | exact Kp.of (U:=UU) (by assumption) | exact aF.of (by assumption) | refine kT ?_ (by assumption))))) (.inr ⟨sU,rfl⟩)⟩
       ·(repeat first|exact trivial|refine ⟨rfl,?_⟩)
       ·exact ⟨rfl,congrArg (fun l=>some (cO,l)) (dG _ _ _ _),rfl,rfl,rfl,rfl,trivial⟩
       ·rfl
       ·exact ⟨.lit rfl,.vals _,.vals _,.vals _,.vals _,.append (.vals _) (.none dv),trivial⟩
     ·have qV:(kg == 0)=false:=by rw [←lF,beq_eq_false_iff_ne];exact vW hz
      refine VS.bK rfl qV ?_
      (repeat first|refine wN ?_|refine wP rfl ?_|refine af rfl ?_|refine ag rfl ?_|refine wO rfl rfl ?_)
      obtain ⟨e0,e1,e2,e3⟩:=fQ (y:=y) (p:=e) (q:=fw) hm hz
      refine VO.cH rfl rfl (fk Tryz.func75) rfl lU (by intro h;cases h) (fun wb JA Hi=>wV rfl ?_)
      (repeat first|refine wN ?_|refine wP rfl ?_|refine af rfl ?_|refine ag rfl ?_|refine wO rfl rfl ?_)
      refine VS.back (2 * (e::fw).length + 0) (by rw [if_pos hm];omega) ⟨_,_,?_,?_,?_,?_,⟨(e.1,e.2 - ai e.2 m')::fw,aQ,n',c',bI,[.int .i64 (e.1:Int),.bool s7,.slice p7 n7 c7,.bool t7,.slice y7 m7 d7]::fT,ak,m' - ai e.2 m',s' + ai e.2 m',[]++[(e.1,y,ai e.2 m')],.kC 155 aQ,_,_,_,_,_,_,_,_,_,_,_,_,_,_,_,_,_,_,by rw [if_neg e0];rfl,rfl,rfl,⟨qO,.inl iB,Jx,.cons ((aL B).kp hE7 (by (with_reducible (repeat (first | assumption | exact kU _ | exact kR _ | exact Kp.of (U:=UU) (by assumption) | exact aF.of (by assumption) | refine kT ?_ (by assumption)))))) (Mu.kp (aL B) (by (with_reducible (repeat (first | assumption | exact kU _ | exact kR _ | exact Kp.of (U:=UU) (by assumption) | exact aF.of (by assumption) | refine kT ?_ (by assumption)))))),zv,uY,uS,by simpa using sT⟩,xV.k,xW.k,lJ.sub pJ,Jy.add pJ,CW,Ff,xU,fun p hp=> ?_,?_,?_,?_,.inr ⟨lU,rfl⟩,?_,.inr ⟨_,_,_,_,rfl,rfl,yo.kp (by (with_reducible (repeat (first | assumption | exact kU _ | exact kR _ | exact Kp.of (U:=UU) (by assumption) | exact aF.of (by assumption) | refine kT ?_ (by assumption)))))⟩⟩⟩
      ·(repeat first|exact trivial|refine ⟨rfl,?_⟩)
      ·exact ⟨rfl,rfl,rfl,rfl,rfl,rfl,trivial⟩
      ·rfl
      ·exact ⟨.lit rfl,.vals _,.vals _,.vals _,.vals _,.append (.vals _) (.none dv),trivial⟩
      ·rcases List.mem_cons.1 hp with rfl | hp
       ·exact ⟨Mt,zB,Ms⟩
       ·exact Al p (by simp [hp])
      ·rw [eU,e1,gz y _ e0,List.append_nil]
      ·rw [eL,e2,fP _ e0]
      ·rw [eS,e3,gA _ e0];grind
      ·rw [if_neg e0];simp at iE ⊢;omega
    ·have kj:¬ sg > 0:=by rw [←kE];exact fun h=>hm (fe.1 h)
     refine VS.bK rfl (decide_eq_false kj) ?_
     have fU:=gz y (e::fw) hm
     have fL:=fP (e::fw) hm
     have fS:=gA (e::fw) hm
     (repeat first|refine wN ?_|refine wP rfl ?_|refine af rfl ?_|refine ag rfl ?_|refine wO rfl rfl ?_)
     refine VS.oJ (bj _ _) rfl (fun wz β kz oz en=> ?_)
     obtain ⟨o1,o2⟩:=ea (en.own 154 _ _ rfl) 0 g rfl rfl
     obtain ⟨o3,o4⟩:=ea (en.own 155 _ _ rfl) 1 b rfl rfl
     rw [ah] at o4
     replace o3:β 155=b:=o3
     rw [fU] at eU
     rw [fL] at eL
     rw [fS,show s' + 0=s' by grind] at eS
     refine ⟨_,rfl,?_,oz.1,aQ,n',c',bI,_,ak,.slice none 0 0,?_,o4,?_,.inl ⟨rfl,?_⟩⟩
     ·rw [eS];exact uJ.k
     ·rw [←o3];exact o2
     ·rw [eL];exact gL.kp (aL B) (by (with_reducible (repeat (first | assumption | exact kU _ | exact kR _ | exact Kp.of (U:=UU) (by assumption) | exact aF.of (by assumption) | refine kT ?_ (by assumption)))))
     ·rw [eU];rfl
  ·rcases Jz with ⟨lU,rfl⟩ | ⟨lU,rfl⟩
   ·have Ef:q'=[]:=List.eq_nil_of_length_eq_zero (by rw [←gL.len];exact lU)
    subst Ef
    have fU:nW y [] m'=[]:=rfl
    have fL:ld [] m'=[]:=rfl
    have fS:rh [] m'=0:=rfl
    (repeat first|refine wN ?_|refine wP rfl ?_|refine af rfl ?_|refine ag rfl ?_|refine wO rfl rfl ?_)
    refine VS.oJ (bj _ _) rfl (fun wz β kz oz en=> ?_)
    obtain ⟨o1,o2⟩:=ea (en.own 154 _ _ rfl) 0 g rfl rfl
    obtain ⟨o3,o4⟩:=ea (en.own 155 _ _ rfl) 1 b rfl rfl
    rw [ah] at o4
    replace o3:β 155=b:=o3
    rw [fU] at eU
    rw [fL] at eL
    rw [fS,show s' + 0=s' by grind] at eS
    have o5:=(en.own 47 _ _ rfl).new
    have o6:=(en.own 47 _ _ rfl).cls
    rw [List.map_append,ah] at o6
    have n1':β 47≠g:=fun e=>absurd (en.apart 154 47 (by intro h;cases h) (by intro h;cases h) (o1.trans e.symm)) (by decide)
    have n2':β 47≠b:=fun e=>absurd (en.apart 155 47 (by intro h;cases h) (by intro h;cases h) (o3.trans e.symm)) (by decide)
    have o7:w.heap.size≤β 47:=by
     have:=eO (show cA 77 [g,b] w 47 (β 47) from o5)
     simpa [n1',n2'] using this
    refine ⟨_,rfl,?_,oz.1,aQ,n',c',bI,gE,ak,.slice (some ⟨β 47,0,none⟩) un uc,?_,o4,?_,.inr ⟨β 47,un,uc,oW,qS.map (AV.leaf β),o7,rfl,o6,?_⟩⟩
    ·rw [eS];exact uJ.k
    ·rw [←o3];exact o2
    ·rw [eL];exact gL.kp (aL B) (by (with_reducible (repeat (first | assumption | exact kU _ | exact kR _ | exact Kp.of (U:=UU) (by assumption) | exact aF.of (by assumption) | refine kT ?_ (by assumption)))))
    ·rw [eU,List.append_nil];exact (tJ.kp (by (with_reducible (repeat (first | assumption | exact kU _ | exact kR _ | exact Kp.of (U:=UU) (by assumption) | exact aF.of (by assumption) | refine kT ?_ (by assumption)))))).o β
   ·obtain ⟨e,fw,rfl⟩:∃ e fw,q'=e::fw:=by
     cases q' with
     | nil=>exact absurd gL.len lU
     | cons e fw=>exact ⟨e,fw,rfl⟩
    obtain ⟨cs,fT,rfl,hE,qT⟩:∃ cs fT,gE=cs::fT∧cG B w' cs e∧cM (cG B) w' fw fT:=by
     have:=gL.el
     cases this with
     | cons h1 h2=>exact ⟨_,_,rfl,h1,h2⟩
    obtain ⟨s3,p3,n3,c3,t3,y3,m3,d3,rfl,Mr⟩:=hE
    have uY:=gL.le
    have qO:=gL.len
    have uS:=gL.cm
    have iB:bI.length=aQ:=gL.pl.resolve_right (by omega)
    obtain ⟨ky,yA,Bv⟩:=Al e (by simp)
    (repeat first|refine wN ?_|refine wP rfl ?_|refine af rfl ?_|refine ag rfl ?_|refine wO rfl rfl ?_)
    obtain ⟨sg,kE⟩:∃ sg,eG m' 0=sg:=⟨_,rfl⟩
    refine VO.call rfl rfl (fk Tryz.func13) (fun cB eu dt=>(dL _ m' kk cB (En.ki (hK m' lJ tI oX)) (by omega) sg kE).mono ?_)
    rintro e w1 ⟨rfl,aU⟩
    skip
    refine ⟨_,rfl,aU,fun fq _ bb1=>wV rfl ?_⟩
    (repeat first|refine wN ?_|refine wP rfl ?_|refine af rfl ?_|refine ag rfl ?_|refine wO rfl rfl ?_)
    by_cases hm:0 < m'
    ·have kj:sg > 0:=by rw [←kE];exact fe.2 hm
     rw [if_pos hm] at iE
     refine VS.bG rfl (decide_eq_true kj) ?_
     (repeat first|refine wN ?_|refine wP rfl ?_|refine af rfl ?_|refine ag rfl ?_|refine wO rfl rfl ?_)
     refine VO.de rfl (([.bool s3,.slice p3 n3 c3,.bool t3,.slice y3 m3 d3]:List Value).map .val) rfl (bg iB 1 _ ⟨[],rfl⟩) (wV rfl ?_)
     (repeat first|refine wN ?_|refine wP rfl ?_|refine af rfl ?_|refine ag rfl ?_|refine wO rfl rfl ?_)
     have uW:=cQ e.2 m'
     have FN:0≤ai e.2 m':=by rcases uW with ⟨h,_⟩ | ⟨h,_⟩ <;> rw [h] <;> assumption
     have pJ:Iz D (ai e.2 m'):=by rcases uW with ⟨h,_⟩ | ⟨h,_⟩ <;> rw [h] <;> assumption
     have zz:=dh e.2 m'
     have vN:=bR e.2 m'
     have lN:=hK _ pJ FN (Rat.le_trans vN oX)
     refine VO.gi rfl (fk Tryz.func71) (fun dR β gS eW ho=>((fO _ _ e.2 [m'] kk dR (Mr.rd.ki (hK e.2 ky yA Bv)) (eE (ho.own 31 (.base (List.mem_singleton.2 rfl)) _ _ rfl) [] (vs:=[[.bool s1,.slice p1 n1 c1,.bool t1,.slice y1 m1 d1]]) (by rfl) rfl (cD.cons (En.ki (hK m' lJ tI oX)) cD.nil) (Nat.le_of_ble_eq_true rfl) (by decide)) (by omega) (Nat.le_of_ble_eq_true rfl)).mono (fun o w2 h=>And.intro h eW.1.size)).mono ?_)
     rintro o w2 ⟨⟨r4,rfl,q4,z4,bn⟩,qU⟩
     rw [gV] at q4
     have xT:aK w2 w.heap.size r4 (ai e.2 m'):=q4.mono qU
     obtain ⟨s4,p4,n4,c4,t4,y4,m4,d4,rfl⟩:=xT.form
     refine ⟨_,rfl,bn,fun gw _ bb2=>wV rfl ?_⟩
     (repeat first|refine wN ?_|refine wP rfl ?_|refine af rfl ?_|refine ag rfl ?_|refine wO rfl rfl ?_)
     refine VO.de rfl (([.int .i64 (e.1:Int)]:List Value).map .val) rfl (bg iB 0 _ ⟨_,rfl⟩) (wV rfl ?_)
     (repeat first|refine wN ?_|refine wP rfl ?_|refine af rfl ?_|refine ag rfl ?_|refine wO rfl rfl ?_)
     obtain ⟨vL,vM⟩:=tJ.el.ok (dk B)
     have EM:=tJ.len
     refine VO.app (bj _ _) (t:=34) (e:=ey) (sz:=6) (n:=un) (c:=uc) (mm:=1) (known:=oW.flatten.map .val) (spare:=qS) (del:=some 47) (news:=([.int .i64 (e.1:Int),.int .i64 (y:Int),.bool s4,.slice p4 n4 c4,.bool t4,.slice y4 m4 d4]:List Value).map .val) (dst:=47) rfl rfl rfl rfl rfl rfl rfl rfl (Nat.le_of_ble_eq_true rfl) rfl (.inr ⟨47,rfl,rfl,rfl⟩) (.inr rfl) (by rw [List.length_map,vM,EM]) tJ.fl tJ.le tJ.cm ⟨ao _,tJ.sl,rfl⟩ ⟨aZ vL,tJ.so,rfl⟩ rfl (by simp only [List.length_append,List.length_cons] at EM iE jA ⊢;omega)
      (fun w1 β k1 b1 ho=>⟨_,_,rfl,.inr ⟨β 46,0,rfl,cK (rest:=[]) (ho.own 46 (.base (List.mem_append_right _ (List.mem_singleton.2 rfl))) _ _ rfl) rfl⟩⟩)
      (fun oO cap' eF ρ Hf Hg fD jh gU ed ni dv=>VO.fu 155 rfl (dJ (ao _) _ _) (wV rfl ?_))
     (repeat first|refine wN ?_|refine wP rfl ?_|refine af rfl ?_|refine ag rfl ?_|refine wO rfl rfl ?_)
     have yo:vd B oO (un + 1) cap' (oW++[[.int .i64 (e.1:Int),.int .i64 (y:Int),.bool s4,.slice p4 n4 c4,.bool t4,.slice y4 m4 d4]]:List (List Value)) eF ((done++[(e.1,y,ai e.2 m')])):=⟨by simp [EM] <;> omega,by simpa [List.append_assoc] using ((tJ.el.kp (dk B) (by (with_reducible (repeat (first | assumption | exact kU _ | exact kR _ | exact Kp.of (U:=UU) (by assumption) | exact aF.of (by assumption) | refine kT ?_ (by assumption)))))).snoc (show nK B oO [.int .i64 (e.1:Int),.int .i64 (y:Int),.bool s4,.slice p4 n4 c4,.bool t4,.slice y4 m4 d4] (e.1,y,ai e.2 m') from ⟨s4,p4,n4,c4,t4,y4,m4,d4,rfl,(xT.mono hB).kp (by (with_reducible (repeat (first | assumption | exact kU _ | exact kR _ | exact Kp.of (U:=UU) (by assumption) | exact aF.of (by assumption) | refine kT ?_ (by assumption)))))⟩)),ni,dv,jh,gU,by simpa using ed⟩
     refine VO.call rfl rfl (fk Tryz.func16) (fun jK mD jy=>((eT _ _ s' (ai e.2 m') kk kk jK (uJ.rd.ki (hK s' Jy hs0 hsM)) (xT.rd.ki lN) (by omega) (by omega)).mono (fun o w2 h=>And.intro h jy.1.size)).mono ?_)
     rintro o w5 ⟨⟨r5,rfl,q5,fY⟩,pY⟩
     obtain ⟨s5,p5,n5,c5,t5,y5,m5,d5,rfl⟩:=q5.form
     refine ⟨_,rfl,fY,fun mX _ vQ=>wV rfl ?_⟩
     (repeat first|refine wN ?_|refine wP rfl ?_|refine af rfl ?_|refine ag rfl ?_|refine wO rfl rfl ?_)
     refine VO.call rfl rfl (fk Tryz.func72) (fun pW uC uZ=>(ck _ _ m' (ai e.2 m') kk kk pW (En.ki (hK m' lJ tI oX)) (xT.rd.ki lN) (by omega) (by omega)).mono ?_)
     rintro e w6 ⟨r6,rfl,q6,ny⟩
     obtain ⟨s6,p6,n6,c6,t6,y6,m6,d6,rfl⟩:=q6.form
     refine ⟨_,rfl,ny,fun tD _ Dl=>wV rfl ?_⟩
     (repeat first|refine wN ?_|refine wP rfl ?_|refine af rfl ?_|refine ag rfl ?_|refine wO rfl rfl ?_)
     refine VO.de rfl (([.bool s3,.slice p3 n3 c3,.bool t3,.slice y3 m3 d3]:List Value).map .val) rfl (bg iB 1 _ ⟨[],rfl⟩) (wV rfl ?_)
     (repeat first|refine wN ?_|refine wP rfl ?_|refine af rfl ?_|refine ag rfl ?_|refine wO rfl rfl ?_)
     refine VO.call rfl rfl (fk Tryz.func72) (fun yH Em xE=>((ck _ _ e.2 (ai e.2 m') kk kk yH (Mr.rd.ki (hK e.2 ky yA Bv)) (xT.rd.ki lN) (by omega) (by omega)).mono (fun o w2 h=>And.intro h xE.1.size)).mono ?_)
     rintro o w7 ⟨⟨r7,rfl,q7,uX⟩,FO⟩
     obtain ⟨s7,p7,n7,c7,t7,y7,m7,d7,rfl⟩:=q7.form
     refine ⟨_,rfl,uX,fun zK _ bb7=>wV rfl ?_⟩
     (repeat first|refine wN ?_|refine wP rfl ?_|refine af rfl ?_|refine ag rfl ?_|refine wO rfl rfl ?_)
     refine VO.cond rfl (by show aQ + 1 + 4≤_;rw [List.length_map,List.length_append,List.length_append,List.flatten_cons,List.length_append,iB];show aQ + 1 + 4≤aQ + (6 - 1 + _ + _);omega) (VO.fu 155 rfl (sn iB) (wV rfl ?_))
     (repeat first|refine wN ?_|refine wP rfl ?_|refine af rfl ?_|refine ag rfl ?_|refine wO rfl rfl ?_)
     refine VO.de rfl (([.bool s7,.slice p7 n7 c7,.bool t7,.slice y7 m7 d7]:List Value).map .val) rfl (bg iB 1 _ ⟨[],rfl⟩) (wV rfl ?_)
     (repeat first|refine wN ?_|refine wP rfl ?_|refine af rfl ?_|refine ag rfl ?_|refine wO rfl rfl ?_)
     have zB:0≤e.2 - ai e.2 m':=by grind
     have Ms:e.2 - ai e.2 m'≤M:=by grind
     have Mt:Iz D (e.2 - ai e.2 m'):=ky.sub pJ
     obtain ⟨kg,lF⟩:∃ kg,eG (e.2 - ai e.2 m') 0=kg:=⟨_,rfl⟩
     refine VO.call rfl rfl (fk Tryz.func13) (fun vc Fu yI=>(dL _ (e.2 - ai e.2 m') kk vc (q7.ki (hK _ Mt zB Ms)) (by omega) kg lF).mono ?_)
     rintro e w8 ⟨rfl,re⟩
     skip
     refine ⟨_,rfl,re,fun vT _ JZ=>wV rfl ?_⟩
     (repeat first|refine wN ?_|refine wP rfl ?_|refine af rfl ?_|refine ag rfl ?_|refine wO rfl rfl ?_)
     have hE7:cG B w8 [.int .i64 (e.1:Int),.bool s7,.slice p7 n7 c7,.bool t7,.slice y7 m7 d7] (e.1,e.2 - ai e.2 m'):=⟨s7,p7,n7,c7,t7,y7,m7,d7,rfl,(q7.mono (Nat.le_trans hB FO)).kp (by (with_reducible (repeat (first | assumption | exact kU _ | exact kR _ | exact Kp.of (U:=UU) (by assumption) | exact aF.of (by assumption) | refine kT ?_ (by assumption)))))⟩
     have zv:=gL.so
     have Jx:=gL.po
     have sT:=gL.fl
     have CW:0≤m' - ai e.2 m':=by grind
     have Ff:0≤s' + ai e.2 m':=by grind
     have xU:s' + ai e.2 m' + (m' - ai e.2 m')=m:=by grind
     have xV:=(q6.kr (w':=w8) (by (with_reducible (repeat (first | assumption | exact kU _ | exact kR _ | exact Kp.of (U:=UU) (by assumption) | exact aF.of (by assumption) | refine kT ?_ (by assumption))))))
     have xW:aK w8 w.heap.size _ (s' + ai e.2 m'):=(q5.mono pY).kp (by (with_reducible (repeat (first | assumption | exact kU _ | exact kR _ | exact Kp.of (U:=UU) (by assumption) | exact aF.of (by assumption) | refine kT ?_ (by assumption)))))
     have Mu:cM (cG B) w8 fw fT:=qT.kp (aL B) (by (with_reducible (repeat (first | assumption | exact kU _ | exact kR _ | exact Kp.of (U:=UU) (by assumption) | exact aF.of (by assumption) | refine kT ?_ (by assumption)))))
     by_cases hz:e.2 - ai e.2 m'=0
     ·have qV:(kg == 0)=true:=by rw [←lF,hz];rfl
      refine VS.bG rfl qV ?_
      (repeat first|refine wN ?_|refine wP rfl ?_|refine af rfl ?_|refine ag rfl ?_|refine wO rfl rfl ?_)
      obtain ⟨e1,e2,e3⟩:=fR (y:=y) (p:=e) (q:=fw) hm hz
      rw [e1,←List.singleton_append,←List.append_assoc] at eU
      rw [e2] at eL
      rw [e3] at eS
      refine VO.iz rfl rfl (fk Tryz.func76) rfl (by omega) uY uS (fun j hj=> ?_) (Nat.le_of_ble_eq_true rfl) (fun w9 k9 b9=>wV rfl ?_)
      ·rcases List.mem_cons.1 hj with rfl | hj
       ·intro h;cases h
       ·cases List.mem_singleton.1 hj
        intro h;cases h
      (repeat first|refine wN ?_|refine wP rfl ?_|refine af rfl ?_|refine ag rfl ?_|refine wO rfl rfl ?_)
      have hO9:cX (cG B) 5 w9 (n' - 1) (if c'=1 then aQ else aQ + 5) (c' - 1) (bI++[.int .i64 (e.1:Int),.bool s7,.slice p7 n7 c7,.bool t7,.slice y7 m7 d7]) fT ak fw:=⟨by rw [qO];rfl,nj iB,by rw [List.all_append,Jx];rfl,Mu.kp (aL B) (by (with_reducible (repeat (first | assumption | exact kU _ | exact kR _ | exact Kp.of (U:=UU) (by assumption) | exact aF.of (by assumption) | refine kT ?_ (by assumption))))),zv,by omega,by omega,nk sT⟩
      have gu:∀ (v8:AV) (wb:World),aF (KU UU) w9 wb→((n' - 1=0∧v8=.val (.pointer none))∨(n' - 1≠0∧v8=.kC 155 (if c'=1 then aQ else aQ + 5)))→sq B D M w rv y q m (2 * fw.length + (if 0 < m' - ai e.2 m' then 1 else 0)) [(0,.box 154 0),(1,.val (.int .i64 (y:Int))),(5,.box 5 0),(6,.box 6 0),(7,.box 7 0),(8,v8)]
        ((154,(Runner,[.row 155 (if c'=1 then aQ else aQ + 5) (n' - 1) (c' - 1),.val rv,.row 47 0 (un + 1) cap']))::(155,(cO,((bI++([.int .i64 (e.1:Int),.bool s7,.slice p7 n7 c7,.bool t7,.slice y7 m7 d7]:List Value))++(fT.flatten++ak)).map AV.val))::(5,(26,([.bool s6,.slice p6 n6 c6,.bool t6,.slice y6 m6 d6]:List Value).map .val))::(6,(26,([.bool false,.slice none 0 0,.bool false,.slice none 0 0]:List Value).map .val))::(7,(26,([.bool s5,.slice p5 n5 c5,.bool t5,.slice y5 m5 d5]:List Value).map .val))::[(47,(ey,(oW++[[.int .i64 (e.1:Int),.int .i64 (y:Int),.bool s4,.slice p4 n4 c4,.bool t4,.slice y4 m4 d4]]:List (List Value)).flatten.map AV.val++eF))]) wb:=fun v8 wb kb Jz=>
       ⟨fw,_,_,_,_,fT,ak,m' - ai e.2 m',s' + ai e.2 m',done++[(e.1,y,ai e.2 m')],v8,_,_,_,_,_,_,_,_,_,_,_,_,_,_,_,_,_,_,rfl,rfl,rfl,hO9.kp (aL B) (by (with_reducible (repeat (first | assumption | exact kU _ | exact kR _ | exact Kp.of (U:=UU) (by assumption) | exact aF.of (by assumption) | refine kT ?_ (by assumption))))),xV.k,xW.k,lJ.sub pJ,Jy.add pJ,CW,Ff,xU,fun p hp=>Al p (by simp [hp]),eU,eL,by rw [eS];grind,Jz,by simp at iE ⊢;split <;> omega,.inr ⟨_,_,_,_,rfl,rfl,yo.kp (by (with_reducible (repeat (first | assumption | exact kU _ | exact kR _ | exact Kp.of (U:=UU) (by assumption) | exact aF.of (by assumption) | refine kT ?_ (by assumption)))))⟩⟩
      have hlt:2 * fw.length + (if 0 < m' - ai e.2 m' then 1 else 0) < 2 * (e::fw).length + (if 0 < m' then 1 else 0):=by
       rw [if_pos hm,List.length_cons];split <;> omega
      by_cases sU:n' - 1=0
      ·refine VO.cY (x:=.row 155 (if c'=1 then aQ else aQ + 5) (n' - 1) (c' - 1)) (p:=fun _=>none) (c:=c' - 1) rfl (fun β=>.inr ⟨_,congrArg (fun n=>Value.slice (some ⟨β 155,(if c'=1 then aQ else aQ + 5),none⟩) n (c' - 1)) sU⟩) rfl (fk Tryz.func75) rfl (fun wb JA Hi=>wV rfl ?_)
       (repeat first|refine wN ?_|refine wP rfl ?_|refine af rfl ?_|refine ag rfl ?_|refine wO rfl rfl ?_)
       refine VS.back _ hlt ⟨_,_,?_,?_,?_,?_,gu _ wb (by (with_reducible (repeat (first | assumption | exact kU _ | exact kR _ | exact Kp.of (U:=UU) (by assumption) | exact aF.of (by assumption) | refine kT ?_ (by assumption))))) (.inl ⟨sU,rfl⟩)⟩
       ·(repeat first|exact trivial|refine ⟨rfl,?_⟩)
       ·exact ⟨rfl,congrArg (fun l=>some (cO,l)) (dG _ _ _ _),rfl,rfl,rfl,congrArg (fun l=>some (ey,l++eF)) (by simp),trivial⟩
       ·rfl
       ·exact ⟨.lit rfl,.vals _,.vals _,.vals _,.vals _,.append (.vals _) (.none dv),trivial⟩
      ·refine VO.cH rfl rfl (fk Tryz.func75) rfl sU (by intro h;cases h) (fun wb JA Hi=>wV rfl ?_)
       (repeat first|refine wN ?_|refine wP rfl ?_|refine af rfl ?_|refine ag rfl ?_|refine wO rfl rfl ?_)
       refine VS.back _ hlt ⟨_,_,?_,?_,?_,?_,gu _ wb (by (with_reducible (repeat (first | assumption | exact kU _ | exact kR _ | exact Kp.of (U:=UU) (by assumption) | exact aF.of (by assumption) | refine kT ?_ (by assumption))))) (.inr ⟨sU,rfl⟩)⟩
       ·(repeat first|exact trivial|refine ⟨rfl,?_⟩)
       ·exact ⟨rfl,congrArg (fun l=>some (cO,l)) (dG _ _ _ _),rfl,rfl,rfl,congrArg (fun l=>some (ey,l++eF)) (by simp),trivial⟩
       ·rfl
       ·exact ⟨.lit rfl,.vals _,.vals _,.vals _,.vals _,.append (.vals _) (.none dv),trivial⟩
     ·have qV:(kg == 0)=false:=by rw [←lF,beq_eq_false_iff_ne];exact vW hz
      refine VS.bK rfl qV ?_
      (repeat first|refine wN ?_|refine wP rfl ?_|refine af rfl ?_|refine ag rfl ?_|refine wO rfl rfl ?_)
      obtain ⟨e0,e1,e2,e3⟩:=fQ (y:=y) (p:=e) (q:=fw) hm hz
      refine VO.cH rfl rfl (fk Tryz.func75) rfl lU (by intro h;cases h) (fun wb JA Hi=>wV rfl ?_)
      (repeat first|refine wN ?_|refine wP rfl ?_|refine af rfl ?_|refine ag rfl ?_|refine wO rfl rfl ?_)
      refine VS.back (2 * (e::fw).length + 0) (by rw [if_pos hm];omega) ⟨_,_,?_,?_,?_,?_,⟨(e.1,e.2 - ai e.2 m')::fw,aQ,n',c',bI,[.int .i64 (e.1:Int),.bool s7,.slice p7 n7 c7,.bool t7,.slice y7 m7 d7]::fT,ak,m' - ai e.2 m',s' + ai e.2 m',done++[(e.1,y,ai e.2 m')],.kC 155 aQ,_,_,_,_,_,_,_,_,_,_,_,_,_,_,_,_,_,_,by rw [if_neg e0];rfl,rfl,rfl,⟨qO,.inl iB,Jx,.cons ((aL B).kp hE7 (by (with_reducible (repeat (first | assumption | exact kU _ | exact kR _ | exact Kp.of (U:=UU) (by assumption) | exact aF.of (by assumption) | refine kT ?_ (by assumption)))))) (Mu.kp (aL B) (by (with_reducible (repeat (first | assumption | exact kU _ | exact kR _ | exact Kp.of (U:=UU) (by assumption) | exact aF.of (by assumption) | refine kT ?_ (by assumption)))))),zv,uY,uS,by simpa using sT⟩,xV.k,xW.k,lJ.sub pJ,Jy.add pJ,CW,Ff,xU,fun p hp=> ?_,?_,?_,?_,.inr ⟨lU,rfl⟩,?_,.inr ⟨_,_,_,_,rfl,rfl,yo.kp (by (with_reducible (repeat (first | assumption | exact kU _ | exact kR _ | exact Kp.of (U:=UU) (by assumption) | exact aF.of (by assumption) | refine kT ?_ (by assumption)))))⟩⟩⟩
      ·(repeat first|exact trivial|refine ⟨rfl,?_⟩)
      ·exact ⟨rfl,rfl,rfl,rfl,rfl,congrArg (fun l=>some (ey,l++eF)) (by simp),trivial⟩
      ·rfl
      ·exact ⟨.lit rfl,.vals _,.vals _,.vals _,.vals _,.append (.vals _) (.none dv),trivial⟩
      ·rcases List.mem_cons.1 hp with rfl | hp
       ·exact ⟨Mt,zB,Ms⟩
       ·exact Al p (by simp [hp])
      ·rw [eU,e1,gz y _ e0,List.append_nil]
      ·rw [eL,e2,fP _ e0]
      ·rw [eS,e3,gA _ e0];grind
      ·rw [if_neg e0];simp at iE ⊢;omega
    ·have kj:¬ sg > 0:=by rw [←kE];exact fun h=>hm (fe.1 h)
     refine VS.bK rfl (decide_eq_false kj) ?_
     have fU:=gz y (e::fw) hm
     have fL:=fP (e::fw) hm
     have fS:=gA (e::fw) hm
     (repeat first|refine wN ?_|refine wP rfl ?_|refine af rfl ?_|refine ag rfl ?_|refine wO rfl rfl ?_)
     refine VS.oJ (bj _ _) rfl (fun wz β kz oz en=> ?_)
     obtain ⟨o1,o2⟩:=ea (en.own 154 _ _ rfl) 0 g rfl rfl
     obtain ⟨o3,o4⟩:=ea (en.own 155 _ _ rfl) 1 b rfl rfl
     rw [ah] at o4
     replace o3:β 155=b:=o3
     rw [fU] at eU
     rw [fL] at eL
     rw [fS,show s' + 0=s' by grind] at eS
     have o5:=(en.own 47 _ _ rfl).new
     have o6:=(en.own 47 _ _ rfl).cls
     rw [List.map_append,ah] at o6
     have n1':β 47≠g:=fun e=>absurd (en.apart 154 47 (by intro h;cases h) (by intro h;cases h) (o1.trans e.symm)) (by decide)
     have n2':β 47≠b:=fun e=>absurd (en.apart 155 47 (by intro h;cases h) (by intro h;cases h) (o3.trans e.symm)) (by decide)
     have o7:w.heap.size≤β 47:=by
      have:=eO (show cA 77 [g,b] w 47 (β 47) from o5)
      simpa [n1',n2'] using this
     refine ⟨_,rfl,?_,oz.1,aQ,n',c',bI,_,ak,.slice (some ⟨β 47,0,none⟩) un uc,?_,o4,?_,.inr ⟨β 47,un,uc,oW,qS.map (AV.leaf β),o7,rfl,o6,?_⟩⟩
     ·rw [eS];exact uJ.k
     ·rw [←o3];exact o2
     ·rw [eL];exact gL.kp (aL B) (by (with_reducible (repeat (first | assumption | exact kU _ | exact kR _ | exact Kp.of (U:=UU) (by assumption) | exact aF.of (by assumption) | refine kT ?_ (by assumption)))))
     ·rw [eU,List.append_nil];exact (tJ.kp (by (with_reducible (repeat (first | assumption | exact kU _ | exact kR _ | exact Kp.of (U:=UU) (by assumption) | exact aF.of (by assumption) | refine kT ?_ (by assumption)))))).o β
set_option maxRecDepth 4000 in
set_option maxHeartbeats 8000000 in
theorem Mv (B g b off n c y D kk:Nat) (M m:Rat) (pre:List Value) (vs:List (List Value)) (spare:List Value) (q:List Vq) (rv v:Value) (ub yM Bd:Nat) (mw:List (List Value)) (nL:List Value) (us0:List Uq) (w:World)
  (hg:aV w g Runner #[.slice (some ⟨b,off,none⟩) n c,rv,.slice (some ⟨ub,0,none⟩) yM Bd]) (Kz:aV w ub ey (mw.flatten++nL).toArray) (Kb:cX (nK B) 6 w yM 0 Bd [] mw nL us0) (Be:us0.length≤1000) (hb:aV w b cO (pre++(vs.flatten++spare)).toArray) (hO:cX (cG B) 5 w n off c pre vs spare q) (hr:aR rv=true) (hv:cP w v m) (hmI:Iz D m) (xP:0≤m) (hmM:m≤M) (hq:∀ p∈q,Iz D p.2∧0≤p.2∧p.2≤M)
  (hK:∀ x,Iz D x→0≤x→x≤M→fo x kk) (hk:kk≤100000) (jA:q.length≤1000) (hB:B≤w.heap.size):
  Calls Tryz.prog 73 #[.pointer (some ⟨g,0,none⟩),.int .i64 (y:Int),v] w fun o w'=>∃ x,o=.returned x∧aK w' w.heap.size x (rh q m)∧qJ [g,b,ub] w w'∧LeftA w' ub∧∃ aQ n' c' bI gE ak uv,aV w' g Runner #[.slice (some ⟨b,aQ,none⟩) n' c',rv,uv]∧aV w' b cO (bI++(gE.flatten++ak)).toArray∧cX (cG B) 5 w' n' aQ c' bI gE ak (ld q m)∧(∃ b' un uc oW qS,(w.heap.size≤b'∨b'=ub)∧uv=.slice (some ⟨b',0,none⟩) un uc∧aV w' b' ey (oW.flatten++qS).toArray∧cX (nK B) 6 w' un 0 uc [] oW qS (us0++nW y q m)):=by
 have hgb:g≠b:=fun e=>by subst e;exact absurd (bo hg hb) (by decide)
 have hgu:g≠ub:=fun e=>by subst e;exact absurd (bo hg Kz) (by decide)
 have hbu:b≠ub:=fun e=>by subst e;exact absurd (bo hb Kz) (by decide)
 have hUo:vd B w yM Bd mw (nL.map .val) us0:=⟨Kb.len,Kb.el,aZ Kb.so,ao _,Kb.le,Kb.cm,by rw [←List.map_append,List.length_map];exact Kb.fl⟩
 obtain ⟨huok,hulen⟩:=Kb.el.ok (dk B)
 obtain ⟨s0,p0,n0,c0,t0,y0,m0,d0,rfl⟩:=hv.form
 have pX:iI (KU UU) 77 [g,b,ub] [(Runner,[.row 155 off n c,.val rv,.row 156 0 yM Bd]),(cO,(pre++(vs.flatten++spare)).map .val),(ey,mw.flatten.map .val++nL.map .val)] w:=by
  refine ⟨rfl,by simp [hgb,hgu,hbu],fun j g' c' hj hc=> ?_,fun c' hc=> ?_,fun c' hc k hk=> ?_⟩
  ·match j,hj,hc with
   | 0,hj,hc=>cases hj;cases hc;exact hg
   | 1,hj,hc=>cases hj;cases hc;rw [ah];exact hb
   | 2,hj,hc=>cases hj;cases hc;rw [←List.map_append,ah];exact Kz
   | j + 3,hj,_=>simp at hj
  ·rcases List.mem_cons.1 hc with rfl | hc
   ·exact ⟨rfl,rnr_ok' rfl hr rfl⟩
   ·rcases List.mem_cons.1 hc with rfl | hc
    ·exact ⟨rfl,aZ (hO.all (aL B))⟩
    ·cases List.mem_singleton.1 hc
     exact ⟨rfl,by rw [←List.map_append];exact aZ (by rw [List.all_append,huok,Kb.so];rfl)⟩
  ·rcases List.mem_cons.1 hc with rfl | hc
   ·have:k=155∨k=156:=by simpa [ay,AV.cL] using hk
    rcases this with rfl | rfl
    ·exact ⟨by omega,by show 155 < 2 * 77 + 3;omega⟩
    ·exact ⟨by omega,by show 156 < 2 * 77 + 3;omega⟩
   ·rcases List.mem_cons.1 hc with rfl | hc
    ·rw [ao] at hk;cases hk
    ·cases List.mem_singleton.1 hc
     rw [←List.map_append,ao] at hk;cases hk
 refine dZ Tryz.prog w _ (KU UU) (fun t=>Nat.beq t 22) table (fun _ _=>trivial) (ad:=[g,b,ub]) (us:=[_,_]) Tryz.func73 rfl Tryz.ntmps73 (Nat.le_of_ble_eq_true rfl) pX (Nat.le_of_ble_eq_true rfl) ?_
 (repeat first|refine wN ?_|refine wP rfl ?_|refine af rfl ?_|refine ag rfl ?_|refine wO rfl rfl ?_)
 refine VO.call rfl rfl (fk Tryz.func44) (fun cB eu dt=>((bF 0 cB (by omega) (by omega)).mono (fun o w2 h=>And.intro h dt.1.size)).mono ?_)
 rintro o w1 ⟨⟨r9,rfl,q9,Gv⟩,FM⟩
 obtain ⟨s9,p9,n9,c9,t9,y9,m9,d9,rfl⟩:=q9.form
 refine ⟨_,rfl,Gv,fun Bz _ bb9=>wV rfl ?_⟩
 (repeat first|refine wN ?_|refine wP rfl ?_|refine af rfl ?_|refine ag rfl ?_|refine wO rfl rfl ?_)
 have Me:((0:Int):Rat)=0:=rfl
 rw [Me] at q9
 apply VO.via (P:=fun F' H' w'=>Entry (ss B D M w rv y q m yM Bd mw nL us0) (2 * q.length + (if 0 < m then 1 else 0)) F' H' w')
 ·intro cont
  by_cases lU:n=0
  ·refine VO.cY (x:=.row 155 off n c) (p:=fun _=>none) (c:=c) rfl (fun β=>.inr ⟨_,congrArg (fun n=>Value.slice (some ⟨β 155,off,none⟩) n c) lU⟩) rfl (fk Tryz.func75) rfl (fun w3 k3 b3=>wV rfl ?_)
   (repeat first|refine wN ?_|refine wP rfl ?_|refine af rfl ?_|refine ag rfl ?_|refine wO rfl rfl ?_)
   refine cont _ _ _ ⟨_,_,?_,?_,?_,?_,⟨q,off,n,c,pre,vs,spare,m,0,[],.val (.pointer none),_,_,_,_,_,_,_,_,_,_,_,_,_,_,_,_,_,_,rfl,rfl,rfl,hO.kp (aL B) (by (with_reducible (repeat (first | assumption | exact kU _ | exact kR _ | exact Kp.of (U:=UU) (by assumption) | exact aF.of (by assumption) | refine kT ?_ (by assumption))))),hv.k,(q9.mono FM).kp (by (with_reducible (repeat (first | assumption | exact kU _ | exact kR _ | exact Kp.of (U:=UU) (by assumption) | exact aF.of (by assumption) | refine kT ?_ (by assumption))))),hmI,Iz.zero,xP,Rat.le_refl,by grind,hq,rfl,rfl,by grind,.inl ⟨lU,rfl⟩,by split <;> simp,.inl ⟨rfl,rfl,rfl,by (with_reducible (repeat (first | assumption | exact kU _ | exact kR _ | exact Kp.of (U:=UU) (by assumption) | exact aF.of (by assumption) | refine kT ?_ (by assumption))))⟩⟩⟩
   ·(repeat first|exact trivial|refine ⟨rfl,?_⟩)
   ·(repeat first|exact trivial|refine ⟨rfl,?_⟩)
   ·rfl
   ·exact ⟨.lit rfl,.vals _,.vals _,.vals _,.vals _,.append (.vals _) (.vals _),trivial⟩
  ·refine VO.cH rfl rfl (fk Tryz.func75) rfl lU (by intro h;cases h) (fun w3 k3 b3=>wV rfl ?_)
   (repeat first|refine wN ?_|refine wP rfl ?_|refine af rfl ?_|refine ag rfl ?_|refine wO rfl rfl ?_)
   refine cont _ _ _ ⟨_,_,?_,?_,?_,?_,⟨q,off,n,c,pre,vs,spare,m,0,[],.kC 155 off,_,_,_,_,_,_,_,_,_,_,_,_,_,_,_,_,_,_,rfl,rfl,rfl,hO.kp (aL B) (by (with_reducible (repeat (first | assumption | exact kU _ | exact kR _ | exact Kp.of (U:=UU) (by assumption) | exact aF.of (by assumption) | refine kT ?_ (by assumption))))),hv.k,(q9.mono FM).kp (by (with_reducible (repeat (first | assumption | exact kU _ | exact kR _ | exact Kp.of (U:=UU) (by assumption) | exact aF.of (by assumption) | refine kT ?_ (by assumption))))),hmI,Iz.zero,xP,Rat.le_refl,by grind,hq,rfl,rfl,by grind,.inr ⟨lU,rfl⟩,by split <;> simp,.inl ⟨rfl,rfl,rfl,by (with_reducible (repeat (first | assumption | exact kU _ | exact kR _ | exact Kp.of (U:=UU) (by assumption) | exact aF.of (by assumption) | refine kT ?_ (by assumption))))⟩⟩⟩
   ·(repeat first|exact trivial|refine ⟨rfl,?_⟩)
   ·(repeat first|exact trivial|refine ⟨rfl,?_⟩)
   ·rfl
   ·exact ⟨.lit rfl,.vals _,.vals _,.vals _,.vals _,.append (.vals _) (.vals _),trivial⟩
 ·intro F0 H0 w0' hent
  refine VS.loop (J:=ss B D M w rv y q m yM Bd mw nL us0) _ hent ?_
  rintro idx L Mm w' ⟨q',aQ,n',c',bI,gE,ak,m',s',done,v8,Us,Um,s1,t1,s2,t2,p1,y1,p2,y2,n1,c1,m1,d1,n2,c2,m2,d2,rfl,rfl,rfl,gL,En,uJ,lJ,Jy,tI,hs0,hsm,Al,eU,eL,eS,Jz,iE,hUs⟩
  have oX:m'≤M:=by grind
  have hsM:s'≤M:=by grind
  rcases hUs with ⟨rfl,rfl,rfl,kw0⟩ | ⟨un,uc,oW,qS,rfl,rfl,tJ⟩
  ·rcases Jz with ⟨lU,rfl⟩ | ⟨lU,rfl⟩
   ·have Ef:q'=[]:=List.eq_nil_of_length_eq_zero (by rw [←gL.len];exact lU)
    subst Ef
    have fU:nW y [] m'=[]:=rfl
    have fL:ld [] m'=[]:=rfl
    have fS:rh [] m'=0:=rfl
    (repeat first|refine wN ?_|refine wP rfl ?_|refine af rfl ?_|refine ag rfl ?_|refine wO rfl rfl ?_)
    refine VS.oJ (bj _ _) rfl (fun wz β kz oz en=> ?_)
    obtain ⟨o1,o2⟩:=ea (en.own 154 _ _ rfl) 0 g rfl rfl
    obtain ⟨o3,o4⟩:=ea (en.own 155 _ _ rfl) 1 b rfl rfl
    rw [ah] at o4
    replace o3:β 155=b:=o3
    rw [fU] at eU
    rw [fL] at eL
    rw [fS,show s' + 0=s' by grind] at eS
    obtain ⟨o5,o6⟩:=ea (en.own 156 _ _ rfl) 2 ub rfl rfl
    replace o5:β 156=ub:=o5
    rw [List.map_append,ah,ah] at o6
    refine ⟨_,rfl,?_,oz.1,oz.2 ub (by simp),aQ,n',c',bI,gE,ak,.slice (some ⟨ub,0,none⟩) yM Bd,?_,o4,?_,ub,yM,Bd,mw,nL,.inr rfl,rfl,o6,?_⟩
    ·rw [eS];exact uJ.k
    ·rw [←o3,←o5];exact o2
    ·rw [eL];exact gL.kp (aL B) (by (with_reducible (repeat (first | assumption | exact kU _ | exact kR _ | exact Kp.of (U:=UU) (by assumption) | exact aF.of (by assumption) | refine kT ?_ (by assumption)))))
    ·rw [eU,List.nil_append,List.append_nil];exact Kb.kp (dk B) (by (with_reducible (repeat (first | assumption | exact kU _ | exact kR _ | exact Kp.of (U:=UU) (by assumption) | exact aF.of (by assumption) | refine kT ?_ (by assumption)))))
   ·obtain ⟨e,fw,rfl⟩:∃ e fw,q'=e::fw:=by
     cases q' with
     | nil=>exact absurd gL.len lU
     | cons e fw=>exact ⟨e,fw,rfl⟩
    obtain ⟨cs,fT,rfl,hE,qT⟩:∃ cs fT,gE=cs::fT∧cG B w' cs e∧cM (cG B) w' fw fT:=by
     have:=gL.el
     cases this with
     | cons h1 h2=>exact ⟨_,_,rfl,h1,h2⟩
    obtain ⟨s3,p3,n3,c3,t3,y3,m3,d3,rfl,Mr⟩:=hE
    have uY:=gL.le
    have qO:=gL.len
    have uS:=gL.cm
    have iB:bI.length=aQ:=gL.pl.resolve_right (by omega)
    obtain ⟨ky,yA,Bv⟩:=Al e (by simp)
    (repeat first|refine wN ?_|refine wP rfl ?_|refine af rfl ?_|refine ag rfl ?_|refine wO rfl rfl ?_)
    obtain ⟨sg,kE⟩:∃ sg,eG m' 0=sg:=⟨_,rfl⟩
    refine VO.call rfl rfl (fk Tryz.func13) (fun cB eu dt=>(dL _ m' kk cB (En.ki (hK m' lJ tI oX)) (by omega) sg kE).mono ?_)
    rintro e w1 ⟨rfl,aU⟩
    skip
    refine ⟨_,rfl,aU,fun fq _ bb1=>wV rfl ?_⟩
    (repeat first|refine wN ?_|refine wP rfl ?_|refine af rfl ?_|refine ag rfl ?_|refine wO rfl rfl ?_)
    by_cases hm:0 < m'
    ·have kj:sg > 0:=by rw [←kE];exact fe.2 hm
     rw [if_pos hm] at iE
     refine VS.bG rfl (decide_eq_true kj) ?_
     (repeat first|refine wN ?_|refine wP rfl ?_|refine af rfl ?_|refine ag rfl ?_|refine wO rfl rfl ?_)
     refine VO.de rfl (([.bool s3,.slice p3 n3 c3,.bool t3,.slice y3 m3 d3]:List Value).map .val) rfl (bg iB 1 _ ⟨[],rfl⟩) (wV rfl ?_)
     (repeat first|refine wN ?_|refine wP rfl ?_|refine af rfl ?_|refine ag rfl ?_|refine wO rfl rfl ?_)
     have uW:=cQ e.2 m'
     have FN:0≤ai e.2 m':=by rcases uW with ⟨h,_⟩ | ⟨h,_⟩ <;> rw [h] <;> assumption
     have pJ:Iz D (ai e.2 m'):=by rcases uW with ⟨h,_⟩ | ⟨h,_⟩ <;> rw [h] <;> assumption
     have zz:=dh e.2 m'
     have vN:=bR e.2 m'
     have lN:=hK _ pJ FN (Rat.le_trans vN oX)
     refine VO.gi rfl (fk Tryz.func71) (fun dR β gS eW ho=>((fO _ _ e.2 [m'] kk dR (Mr.rd.ki (hK e.2 ky yA Bv)) (eE (ho.own 31 (.base (List.mem_singleton.2 rfl)) _ _ rfl) [] (vs:=[[.bool s1,.slice p1 n1 c1,.bool t1,.slice y1 m1 d1]]) (by rfl) rfl (cD.cons (En.ki (hK m' lJ tI oX)) cD.nil) (Nat.le_of_ble_eq_true rfl) (by decide)) (by omega) (Nat.le_of_ble_eq_true rfl)).mono (fun o w2 h=>And.intro h eW.1.size)).mono ?_)
     rintro o w2 ⟨⟨r4,rfl,q4,z4,bn⟩,qU⟩
     rw [gV] at q4
     have xT:aK w2 w.heap.size r4 (ai e.2 m'):=q4.mono qU
     obtain ⟨s4,p4,n4,c4,t4,y4,m4,d4,rfl⟩:=xT.form
     refine ⟨_,rfl,bn,fun gw _ bb2=>wV rfl ?_⟩
     (repeat first|refine wN ?_|refine wP rfl ?_|refine af rfl ?_|refine ag rfl ?_|refine wO rfl rfl ?_)
     refine VO.de rfl (([.int .i64 (e.1:Int)]:List Value).map .val) rfl (bg iB 0 _ ⟨_,rfl⟩) (wV rfl ?_)
     (repeat first|refine wN ?_|refine wP rfl ?_|refine af rfl ?_|refine ag rfl ?_|refine wO rfl rfl ?_)
     obtain ⟨vL,vM⟩:=hUo.el.ok (dk B)
     have EM:=hUo.len
     refine VO.app (bj _ _) (t:=34) (e:=ey) (sz:=6) (n:=yM) (c:=Bd) (mm:=1) (known:=mw.flatten.map .val) (spare:=(nL.map AV.val)) (del:=some 156) (news:=([.int .i64 (e.1:Int),.int .i64 (y:Int),.bool s4,.slice p4 n4 c4,.bool t4,.slice y4 m4 d4]:List Value).map .val) (dst:=47) rfl rfl rfl rfl rfl rfl rfl rfl (Nat.le_of_ble_eq_true rfl) rfl (.inr ⟨156,rfl,rfl,rfl⟩) (.inl rfl) (by rw [List.length_map,vM,EM]) hUo.fl hUo.le hUo.cm ⟨ao _,hUo.sl,rfl⟩ ⟨aZ vL,hUo.so,rfl⟩ rfl (by simp only [List.length_append,List.length_cons] at EM iE jA ⊢;omega)
      (fun w1 β k1 b1 ho=>⟨_,_,rfl,.inr ⟨β 46,0,rfl,cK (rest:=[]) (ho.own 46 (.base (List.mem_append_right _ (List.mem_singleton.2 rfl))) _ _ rfl) rfl⟩⟩)
      (fun oO cap' eF ρ Hf Hg fD jh gU ed ni dv=>VO.fu 155 rfl (dJ (ao _) _ _) (wV rfl ?_))
     (repeat first|refine wN ?_|refine wP rfl ?_|refine af rfl ?_|refine ag rfl ?_|refine wO rfl rfl ?_)
     have yo:vd B oO (yM + 1) cap' (mw++[[.int .i64 (e.1:Int),.int .i64 (y:Int),.bool s4,.slice p4 n4 c4,.bool t4,.slice y4 m4 d4]]:List (List Value)) eF (us0++([]++[(e.1,y,ai e.2 m')])):=⟨by simp [EM] <;> omega,by simpa [List.append_assoc] using ((hUo.el.kp (dk B) (by (with_reducible (repeat (first | assumption | exact kU _ | exact kR _ | exact Kp.of (U:=UU) (by assumption) | exact aF.of (by assumption) | refine kT ?_ (by assumption)))))).snoc (show nK B oO [.int .i64 (e.1:Int),.int .i64 (y:Int),.bool s4,.slice p4 n4 c4,.bool t4,.slice y4 m4 d4] (e.1,y,ai e.2 m') from ⟨s4,p4,n4,c4,t4,y4,m4,d4,rfl,(xT.mono hB).kp (by (with_reducible (repeat (first | assumption | exact kU _ | exact kR _ | exact Kp.of (U:=UU) (by assumption) | exact aF.of (by assumption) | refine kT ?_ (by assumption)))))⟩)),ni,dv,jh,gU,by simpa using ed⟩
     refine VO.call rfl rfl (fk Tryz.func16) (fun jK mD jy=>((eT _ _ s' (ai e.2 m') kk kk jK (uJ.rd.ki (hK s' Jy hs0 hsM)) (xT.rd.ki lN) (by omega) (by omega)).mono (fun o w2 h=>And.intro h jy.1.size)).mono ?_)
     rintro o w5 ⟨⟨r5,rfl,q5,fY⟩,pY⟩
     obtain ⟨s5,p5,n5,c5,t5,y5,m5,d5,rfl⟩:=q5.form
     refine ⟨_,rfl,fY,fun mX _ vQ=>wV rfl ?_⟩
     (repeat first|refine wN ?_|refine wP rfl ?_|refine af rfl ?_|refine ag rfl ?_|refine wO rfl rfl ?_)
     refine VO.call rfl rfl (fk Tryz.func72) (fun pW uC uZ=>(ck _ _ m' (ai e.2 m') kk kk pW (En.ki (hK m' lJ tI oX)) (xT.rd.ki lN) (by omega) (by omega)).mono ?_)
     rintro e w6 ⟨r6,rfl,q6,ny⟩
     obtain ⟨s6,p6,n6,c6,t6,y6,m6,d6,rfl⟩:=q6.form
     refine ⟨_,rfl,ny,fun tD _ Dl=>wV rfl ?_⟩
     (repeat first|refine wN ?_|refine wP rfl ?_|refine af rfl ?_|refine ag rfl ?_|refine wO rfl rfl ?_)
     refine VO.de rfl (([.bool s3,.slice p3 n3 c3,.bool t3,.slice y3 m3 d3]:List Value).map .val) rfl (bg iB 1 _ ⟨[],rfl⟩) (wV rfl ?_)
     (repeat first|refine wN ?_|refine wP rfl ?_|refine af rfl ?_|refine ag rfl ?_|refine wO rfl rfl ?_)
     refine VO.call rfl rfl (fk Tryz.func72) (fun yH Em xE=>((ck _ _ e.2 (ai e.2 m') kk kk yH (Mr.rd.ki (hK e.2 ky yA Bv)) (xT.rd.ki lN) (by omega) (by omega)).mono (fun o w2 h=>And.intro h xE.1.size)).mono ?_)
     rintro o w7 ⟨⟨r7,rfl,q7,uX⟩,FO⟩
     obtain ⟨s7,p7,n7,c7,t7,y7,m7,d7,rfl⟩:=q7.form
     refine ⟨_,rfl,uX,fun zK _ bb7=>wV rfl ?_⟩
     (repeat first|refine wN ?_|refine wP rfl ?_|refine af rfl ?_|refine ag rfl ?_|refine wO rfl rfl ?_)
     refine VO.cond rfl (by show aQ + 1 + 4≤_;rw [List.length_map,List.length_append,List.length_append,List.flatten_cons,List.length_append,iB];show aQ + 1 + 4≤aQ + (6 - 1 + _ + _);omega) (VO.fu 155 rfl (sn iB) (wV rfl ?_))
     (repeat first|refine wN ?_|refine wP rfl ?_|refine af rfl ?_|refine ag rfl ?_|refine wO rfl rfl ?_)
     refine VO.de rfl (([.bool s7,.slice p7 n7 c7,.bool t7,.slice y7 m7 d7]:List Value).map .val) rfl (bg iB 1 _ ⟨[],rfl⟩) (wV rfl ?_)
     (repeat first|refine wN ?_|refine wP rfl ?_|refine af rfl ?_|refine ag rfl ?_|refine wO rfl rfl ?_)
     have zB:0≤e.2 - ai e.2 m':=by grind
     have Ms:e.2 - ai e.2 m'≤M:=by grind
     have Mt:Iz D (e.2 - ai e.2 m'):=ky.sub pJ
     obtain ⟨kg,lF⟩:∃ kg,eG (e.2 - ai e.2 m') 0=kg:=⟨_,rfl⟩
     refine VO.call rfl rfl (fk Tryz.func13) (fun vc Fu yI=>(dL _ (e.2 - ai e.2 m') kk vc (q7.ki (hK _ Mt zB Ms)) (by omega) kg lF).mono ?_)
     rintro e w8 ⟨rfl,re⟩
     skip
     refine ⟨_,rfl,re,fun vT _ JZ=>wV rfl ?_⟩
     (repeat first|refine wN ?_|refine wP rfl ?_|refine af rfl ?_|refine ag rfl ?_|refine wO rfl rfl ?_)
     have hE7:cG B w8 [.int .i64 (e.1:Int),.bool s7,.slice p7 n7 c7,.bool t7,.slice y7 m7 d7] (e.1,e.2 - ai e.2 m'):=⟨s7,p7,n7,c7,t7,y7,m7,d7,rfl,(q7.mono (Nat.le_trans hB FO)).kp (by (with_reducible (repeat (first | assumption | exact kU _ | exact kR _ | exact Kp.of (U:=UU) (by assumption) | exact aF.of (by assumption) | refine kT ?_ (by assumption)))))⟩
     have zv:=gL.so
     have Jx:=gL.po
     have sT:=gL.fl
     have CW:0≤m' - ai e.2 m':=by grind
     have Ff:0≤s' + ai e.2 m':=by grind
     have xU:s' + ai e.2 m' + (m' - ai e.2 m')=m:=by grind
     have xV:=(q6.kr (w':=w8) (by (with_reducible (repeat (first | assumption | exact kU _ | exact kR _ | exact Kp.of (U:=UU) (by assumption) | exact aF.of (by assumption) | refine kT ?_ (by assumption))))))
     have xW:aK w8 w.heap.size _ (s' + ai e.2 m'):=(q5.mono pY).kp (by (with_reducible (repeat (first | assumption | exact kU _ | exact kR _ | exact Kp.of (U:=UU) (by assumption) | exact aF.of (by assumption) | refine kT ?_ (by assumption)))))
     have Mu:cM (cG B) w8 fw fT:=qT.kp (aL B) (by (with_reducible (repeat (first | assumption | exact kU _ | exact kR _ | exact Kp.of (U:=UU) (by assumption) | exact aF.of (by assumption) | refine kT ?_ (by assumption)))))
     by_cases hz:e.2 - ai e.2 m'=0
     ·have qV:(kg == 0)=true:=by rw [←lF,hz];rfl
      refine VS.bG rfl qV ?_
      (repeat first|refine wN ?_|refine wP rfl ?_|refine af rfl ?_|refine ag rfl ?_|refine wO rfl rfl ?_)
      obtain ⟨e1,e2,e3⟩:=fR (y:=y) (p:=e) (q:=fw) hm hz
      rw [e1,←List.singleton_append,←List.append_assoc] at eU
      rw [e2] at eL
      rw [e3] at eS
      refine VO.iz rfl rfl (fk Tryz.func76) rfl (by omega) uY uS (fun j hj=> ?_) (Nat.le_of_ble_eq_true rfl) (fun w9 k9 b9=>wV rfl ?_)
      ·rcases List.mem_cons.1 hj with rfl | hj
       ·intro h;cases h
       ·cases List.mem_singleton.1 hj
        intro h;cases h
      (repeat first|refine wN ?_|refine wP rfl ?_|refine af rfl ?_|refine ag rfl ?_|refine wO rfl rfl ?_)
      have hO9:cX (cG B) 5 w9 (n' - 1) (if c'=1 then aQ else aQ + 5) (c' - 1) (bI++[.int .i64 (e.1:Int),.bool s7,.slice p7 n7 c7,.bool t7,.slice y7 m7 d7]) fT ak fw:=⟨by rw [qO];rfl,nj iB,by rw [List.all_append,Jx];rfl,Mu.kp (aL B) (by (with_reducible (repeat (first | assumption | exact kU _ | exact kR _ | exact Kp.of (U:=UU) (by assumption) | exact aF.of (by assumption) | refine kT ?_ (by assumption))))),zv,by omega,by omega,nk sT⟩
      have gu:∀ (v8:AV) (wb:World),aF (KU UU) w9 wb→((n' - 1=0∧v8=.val (.pointer none))∨(n' - 1≠0∧v8=.kC 155 (if c'=1 then aQ else aQ + 5)))→ss B D M w rv y q m yM Bd mw nL us0 (2 * fw.length + (if 0 < m' - ai e.2 m' then 1 else 0)) [(0,.box 154 0),(1,.val (.int .i64 (y:Int))),(5,.box 5 0),(6,.box 6 0),(7,.box 7 0),(8,v8)]
        ((154,(Runner,[.row 155 (if c'=1 then aQ else aQ + 5) (n' - 1) (c' - 1),.val rv,.row 47 0 (yM + 1) cap']))::(155,(cO,((bI++([.int .i64 (e.1:Int),.bool s7,.slice p7 n7 c7,.bool t7,.slice y7 m7 d7]:List Value))++(fT.flatten++ak)).map AV.val))::(5,(26,([.bool s6,.slice p6 n6 c6,.bool t6,.slice y6 m6 d6]:List Value).map .val))::(6,(26,([.bool false,.slice none 0 0,.bool false,.slice none 0 0]:List Value).map .val))::(7,(26,([.bool s5,.slice p5 n5 c5,.bool t5,.slice y5 m5 d5]:List Value).map .val))::[(47,(ey,(mw++[[.int .i64 (e.1:Int),.int .i64 (y:Int),.bool s4,.slice p4 n4 c4,.bool t4,.slice y4 m4 d4]]:List (List Value)).flatten.map AV.val++eF))]) wb:=fun v8 wb kb Jz=>
       ⟨fw,_,_,_,_,fT,ak,m' - ai e.2 m',s' + ai e.2 m',[]++[(e.1,y,ai e.2 m')],v8,_,_,_,_,_,_,_,_,_,_,_,_,_,_,_,_,_,_,rfl,rfl,rfl,hO9.kp (aL B) (by (with_reducible (repeat (first | assumption | exact kU _ | exact kR _ | exact Kp.of (U:=UU) (by assumption) | exact aF.of (by assumption) | refine kT ?_ (by assumption))))),xV.k,xW.k,lJ.sub pJ,Jy.add pJ,CW,Ff,xU,fun p hp=>Al p (by simp [hp]),eU,eL,by rw [eS];grind,Jz,by simp at iE ⊢;split <;> omega,.inr ⟨_,_,_,_,rfl,rfl,yo.kp (by (with_reducible (repeat (first | assumption | exact kU _ | exact kR _ | exact Kp.of (U:=UU) (by assumption) | exact aF.of (by assumption) | refine kT ?_ (by assumption)))))⟩⟩
      have hlt:2 * fw.length + (if 0 < m' - ai e.2 m' then 1 else 0) < 2 * (e::fw).length + (if 0 < m' then 1 else 0):=by
       rw [if_pos hm,List.length_cons];split <;> omega
      by_cases sU:n' - 1=0
      ·refine VO.cY (x:=.row 155 (if c'=1 then aQ else aQ + 5) (n' - 1) (c' - 1)) (p:=fun _=>none) (c:=c' - 1) rfl (fun β=>.inr ⟨_,congrArg (fun n=>Value.slice (some ⟨β 155,(if c'=1 then aQ else aQ + 5),none⟩) n (c' - 1)) sU⟩) rfl (fk Tryz.func75) rfl (fun wb JA Hi=>wV rfl ?_)
       (repeat first|refine wN ?_|refine wP rfl ?_|refine af rfl ?_|refine ag rfl ?_|refine wO rfl rfl ?_)
       refine VS.back _ hlt ⟨_,_,?_,?_,?_,?_,gu _ wb (by (with_reducible (repeat (first | assumption | exact kU _ | exact kR _ | exact Kp.of (U:=UU) (by assumption) | exact aF.of (by assumption) | refine kT ?_ (by assumption))))) (.inl ⟨sU,rfl⟩)⟩
       ·(repeat first|exact trivial|refine ⟨rfl,?_⟩)
       ·exact ⟨rfl,congrArg (fun l=>some (cO,l)) (dG _ _ _ _),rfl,rfl,rfl,congrArg (fun l=>some (ey,l++eF)) (by simp),trivial⟩
       ·rfl
       ·exact ⟨.lit rfl,.vals _,.vals _,.vals _,.vals _,.append (.vals _) (.none dv),trivial⟩
      ·refine VO.cH rfl rfl (fk Tryz.func75) rfl sU (by intro h;cases h) (fun wb JA Hi=>wV rfl ?_)
       (repeat first|refine wN ?_|refine wP rfl ?_|refine af rfl ?_|refine ag rfl ?_|refine wO rfl rfl ?_)
       refine VS.back _ hlt ⟨_,_,?_,?_,?_,?_,gu _ wb (by (with_reducible (repeat (first | assumption | exact kU _ | exact kR _ | exact Kp.of (U:=UU) (by assumption) | exact aF.of (by assumption) | refine kT ?_ (by assumption))))) (.inr ⟨sU,rfl⟩)⟩
       ·(repeat first|exact trivial|refine ⟨rfl,?_⟩)
       ·exact ⟨rfl,congrArg (fun l=>some (cO,l)) (dG _ _ _ _),rfl,rfl,rfl,congrArg (fun l=>some (ey,l++eF)) (by simp),trivial⟩
       ·rfl
       ·exact ⟨.lit rfl,.vals _,.vals _,.vals _,.vals _,.append (.vals _) (.none dv),trivial⟩
     ·have qV:(kg == 0)=false:=by rw [←lF,beq_eq_false_iff_ne];exact vW hz
      refine VS.bK rfl qV ?_
      (repeat first|refine wN ?_|refine wP rfl ?_|refine af rfl ?_|refine ag rfl ?_|refine wO rfl rfl ?_)
      obtain ⟨e0,e1,e2,e3⟩:=fQ (y:=y) (p:=e) (q:=fw) hm hz
      refine VO.cH rfl rfl (fk Tryz.func75) rfl lU (by intro h;cases h) (fun wb JA Hi=>wV rfl ?_)
      (repeat first|refine wN ?_|refine wP rfl ?_|refine af rfl ?_|refine ag rfl ?_|refine wO rfl rfl ?_)
      refine VS.back (2 * (e::fw).length + 0) (by rw [if_pos hm];omega) ⟨_,_,?_,?_,?_,?_,⟨(e.1,e.2 - ai e.2 m')::fw,aQ,n',c',bI,[.int .i64 (e.1:Int),.bool s7,.slice p7 n7 c7,.bool t7,.slice y7 m7 d7]::fT,ak,m' - ai e.2 m',s' + ai e.2 m',[]++[(e.1,y,ai e.2 m')],.kC 155 aQ,_,_,_,_,_,_,_,_,_,_,_,_,_,_,_,_,_,_,by rw [if_neg e0];rfl,rfl,rfl,⟨qO,.inl iB,Jx,.cons ((aL B).kp hE7 (by (with_reducible (repeat (first | assumption | exact kU _ | exact kR _ | exact Kp.of (U:=UU) (by assumption) | exact aF.of (by assumption) | refine kT ?_ (by assumption)))))) (Mu.kp (aL B) (by (with_reducible (repeat (first | assumption | exact kU _ | exact kR _ | exact Kp.of (U:=UU) (by assumption) | exact aF.of (by assumption) | refine kT ?_ (by assumption)))))),zv,uY,uS,by simpa using sT⟩,xV.k,xW.k,lJ.sub pJ,Jy.add pJ,CW,Ff,xU,fun p hp=> ?_,?_,?_,?_,.inr ⟨lU,rfl⟩,?_,.inr ⟨_,_,_,_,rfl,rfl,yo.kp (by (with_reducible (repeat (first | assumption | exact kU _ | exact kR _ | exact Kp.of (U:=UU) (by assumption) | exact aF.of (by assumption) | refine kT ?_ (by assumption)))))⟩⟩⟩
      ·(repeat first|exact trivial|refine ⟨rfl,?_⟩)
      ·exact ⟨rfl,rfl,rfl,rfl,rfl,congrArg (fun l=>some (ey,l++eF)) (by simp),trivial⟩
      ·rfl
      ·exact ⟨.lit rfl,.vals _,.vals _,.vals _,.vals _,.append (.vals _) (.none dv),trivial⟩
      ·rcases List.mem_cons.1 hp with rfl | hp
       ·exact ⟨Mt,zB,Ms⟩
       ·exact Al p (by simp [hp])
      ·rw [eU,e1,gz y _ e0,List.append_nil]
      ·rw [eL,e2,fP _ e0]
      ·rw [eS,e3,gA _ e0];grind
      ·rw [if_neg e0];simp at iE ⊢;omega
    ·have kj:¬ sg > 0:=by rw [←kE];exact fun h=>hm (fe.1 h)
     refine VS.bK rfl (decide_eq_false kj) ?_
     have fU:=gz y (e::fw) hm
     have fL:=fP (e::fw) hm
     have fS:=gA (e::fw) hm
     (repeat first|refine wN ?_|refine wP rfl ?_|refine af rfl ?_|refine ag rfl ?_|refine wO rfl rfl ?_)
     refine VS.oJ (bj _ _) rfl (fun wz β kz oz en=> ?_)
     obtain ⟨o1,o2⟩:=ea (en.own 154 _ _ rfl) 0 g rfl rfl
     obtain ⟨o3,o4⟩:=ea (en.own 155 _ _ rfl) 1 b rfl rfl
     rw [ah] at o4
     replace o3:β 155=b:=o3
     rw [fU] at eU
     rw [fL] at eL
     rw [fS,show s' + 0=s' by grind] at eS
     obtain ⟨o5,o6⟩:=ea (en.own 156 _ _ rfl) 2 ub rfl rfl
     replace o5:β 156=ub:=o5
     rw [List.map_append,ah,ah] at o6
     refine ⟨_,rfl,?_,oz.1,oz.2 ub (by simp),aQ,n',c',bI,_,ak,.slice (some ⟨ub,0,none⟩) yM Bd,?_,o4,?_,ub,yM,Bd,mw,nL,.inr rfl,rfl,o6,?_⟩
     ·rw [eS];exact uJ.k
     ·rw [←o3,←o5];exact o2
     ·rw [eL];exact gL.kp (aL B) (by (with_reducible (repeat (first | assumption | exact kU _ | exact kR _ | exact Kp.of (U:=UU) (by assumption) | exact aF.of (by assumption) | refine kT ?_ (by assumption)))))
     ·rw [eU,List.nil_append,List.append_nil];exact Kb.kp (dk B) (by (with_reducible (repeat (first | assumption | exact kU _ | exact kR _ | exact Kp.of (U:=UU) (by assumption) | exact aF.of (by assumption) | refine kT ?_ (by assumption)))))
  ·rcases Jz with ⟨lU,rfl⟩ | ⟨lU,rfl⟩
   ·have Ef:q'=[]:=List.eq_nil_of_length_eq_zero (by rw [←gL.len];exact lU)
    subst Ef
    have fU:nW y [] m'=[]:=rfl
    have fL:ld [] m'=[]:=rfl
    have fS:rh [] m'=0:=rfl
    (repeat first|refine wN ?_|refine wP rfl ?_|refine af rfl ?_|refine ag rfl ?_|refine wO rfl rfl ?_)
    refine VS.oJ (bj _ _) rfl (fun wz β kz oz en=> ?_)
    obtain ⟨o1,o2⟩:=ea (en.own 154 _ _ rfl) 0 g rfl rfl
    obtain ⟨o3,o4⟩:=ea (en.own 155 _ _ rfl) 1 b rfl rfl
    rw [ah] at o4
    replace o3:β 155=b:=o3
    rw [fU] at eU
    rw [fL] at eL
    rw [fS,show s' + 0=s' by grind] at eS
    have o5:=(en.own 47 _ _ rfl).new
    have o6:=(en.own 47 _ _ rfl).cls
    rw [List.map_append,ah] at o6
    have n1':β 47≠g:=fun e=>absurd (en.apart 154 47 (by intro h;cases h) (by intro h;cases h) (o1.trans e.symm)) (by decide)
    have n2':β 47≠b:=fun e=>absurd (en.apart 155 47 (by intro h;cases h) (by intro h;cases h) (o3.trans e.symm)) (by decide)
    have o7:w.heap.size≤β 47∨β 47=ub:=by
     have:=eO (show cA 77 [g,b,ub] w 47 (β 47) from o5)
     simpa [n1',n2'] using this
    refine ⟨_,rfl,?_,oz.1,oz.2 ub (by simp),aQ,n',c',bI,gE,ak,.slice (some ⟨β 47,0,none⟩) un uc,?_,o4,?_,⟨β 47,un,uc,oW,qS.map (AV.leaf β),o7,rfl,o6,?_⟩⟩
    ·rw [eS];exact uJ.k
    ·rw [←o3];exact o2
    ·rw [eL];exact gL.kp (aL B) (by (with_reducible (repeat (first | assumption | exact kU _ | exact kR _ | exact Kp.of (U:=UU) (by assumption) | exact aF.of (by assumption) | refine kT ?_ (by assumption)))))
    ·rw [eU,List.append_nil];exact (tJ.kp (by (with_reducible (repeat (first | assumption | exact kU _ | exact kR _ | exact Kp.of (U:=UU) (by assumption) | exact aF.of (by assumption) | refine kT ?_ (by assumption)))))).o β
   ·obtain ⟨e,fw,rfl⟩:∃ e fw,q'=e::fw:=by
     cases q' with
     | nil=>exact absurd gL.len lU
     | cons e fw=>exact ⟨e,fw,rfl⟩
    obtain ⟨cs,fT,rfl,hE,qT⟩:∃ cs fT,gE=cs::fT∧cG B w' cs e∧cM (cG B) w' fw fT:=by
     have:=gL.el
     cases this with
     | cons h1 h2=>exact ⟨_,_,rfl,h1,h2⟩
    obtain ⟨s3,p3,n3,c3,t3,y3,m3,d3,rfl,Mr⟩:=hE
    have uY:=gL.le
    have qO:=gL.len
    have uS:=gL.cm
    have iB:bI.length=aQ:=gL.pl.resolve_right (by omega)
    obtain ⟨ky,yA,Bv⟩:=Al e (by simp)
    (repeat first|refine wN ?_|refine wP rfl ?_|refine af rfl ?_|refine ag rfl ?_|refine wO rfl rfl ?_)
    obtain ⟨sg,kE⟩:∃ sg,eG m' 0=sg:=⟨_,rfl⟩
    refine VO.call rfl rfl (fk Tryz.func13) (fun cB eu dt=>(dL _ m' kk cB (En.ki (hK m' lJ tI oX)) (by omega) sg kE).mono ?_)
    rintro e w1 ⟨rfl,aU⟩
    skip
    refine ⟨_,rfl,aU,fun fq _ bb1=>wV rfl ?_⟩
    (repeat first|refine wN ?_|refine wP rfl ?_|refine af rfl ?_|refine ag rfl ?_|refine wO rfl rfl ?_)
    by_cases hm:0 < m'
    ·have kj:sg > 0:=by rw [←kE];exact fe.2 hm
     rw [if_pos hm] at iE
     refine VS.bG rfl (decide_eq_true kj) ?_
     (repeat first|refine wN ?_|refine wP rfl ?_|refine af rfl ?_|refine ag rfl ?_|refine wO rfl rfl ?_)
     refine VO.de rfl (([.bool s3,.slice p3 n3 c3,.bool t3,.slice y3 m3 d3]:List Value).map .val) rfl (bg iB 1 _ ⟨[],rfl⟩) (wV rfl ?_)
     (repeat first|refine wN ?_|refine wP rfl ?_|refine af rfl ?_|refine ag rfl ?_|refine wO rfl rfl ?_)
     have uW:=cQ e.2 m'
     have FN:0≤ai e.2 m':=by rcases uW with ⟨h,_⟩ | ⟨h,_⟩ <;> rw [h] <;> assumption
     have pJ:Iz D (ai e.2 m'):=by rcases uW with ⟨h,_⟩ | ⟨h,_⟩ <;> rw [h] <;> assumption
     have zz:=dh e.2 m'
     have vN:=bR e.2 m'
     have lN:=hK _ pJ FN (Rat.le_trans vN oX)
     refine VO.gi rfl (fk Tryz.func71) (fun dR β gS eW ho=>((fO _ _ e.2 [m'] kk dR (Mr.rd.ki (hK e.2 ky yA Bv)) (eE (ho.own 31 (.base (List.mem_singleton.2 rfl)) _ _ rfl) [] (vs:=[[.bool s1,.slice p1 n1 c1,.bool t1,.slice y1 m1 d1]]) (by rfl) rfl (cD.cons (En.ki (hK m' lJ tI oX)) cD.nil) (Nat.le_of_ble_eq_true rfl) (by decide)) (by omega) (Nat.le_of_ble_eq_true rfl)).mono (fun o w2 h=>And.intro h eW.1.size)).mono ?_)
     rintro o w2 ⟨⟨r4,rfl,q4,z4,bn⟩,qU⟩
     rw [gV] at q4
     have xT:aK w2 w.heap.size r4 (ai e.2 m'):=q4.mono qU
     obtain ⟨s4,p4,n4,c4,t4,y4,m4,d4,rfl⟩:=xT.form
     refine ⟨_,rfl,bn,fun gw _ bb2=>wV rfl ?_⟩
     (repeat first|refine wN ?_|refine wP rfl ?_|refine af rfl ?_|refine ag rfl ?_|refine wO rfl rfl ?_)
     refine VO.de rfl (([.int .i64 (e.1:Int)]:List Value).map .val) rfl (bg iB 0 _ ⟨_,rfl⟩) (wV rfl ?_)
     (repeat first|refine wN ?_|refine wP rfl ?_|refine af rfl ?_|refine ag rfl ?_|refine wO rfl rfl ?_)
     obtain ⟨vL,vM⟩:=tJ.el.ok (dk B)
     have EM:=tJ.len
     refine VO.app (bj _ _) (t:=34) (e:=ey) (sz:=6) (n:=un) (c:=uc) (mm:=1) (known:=oW.flatten.map .val) (spare:=qS) (del:=some 47) (news:=([.int .i64 (e.1:Int),.int .i64 (y:Int),.bool s4,.slice p4 n4 c4,.bool t4,.slice y4 m4 d4]:List Value).map .val) (dst:=47) rfl rfl rfl rfl rfl rfl rfl rfl (Nat.le_of_ble_eq_true rfl) rfl (.inr ⟨47,rfl,rfl,rfl⟩) (.inr rfl) (by rw [List.length_map,vM,EM]) tJ.fl tJ.le tJ.cm ⟨ao _,tJ.sl,rfl⟩ ⟨aZ vL,tJ.so,rfl⟩ rfl (by simp only [List.length_append,List.length_cons] at EM iE jA ⊢;omega)
      (fun w1 β k1 b1 ho=>⟨_,_,rfl,.inr ⟨β 46,0,rfl,cK (rest:=[]) (ho.own 46 (.base (List.mem_append_right _ (List.mem_singleton.2 rfl))) _ _ rfl) rfl⟩⟩)
      (fun oO cap' eF ρ Hf Hg fD jh gU ed ni dv=>VO.fu 155 rfl (dJ (ao _) _ _) (wV rfl ?_))
     (repeat first|refine wN ?_|refine wP rfl ?_|refine af rfl ?_|refine ag rfl ?_|refine wO rfl rfl ?_)
     have yo:vd B oO (un + 1) cap' (oW++[[.int .i64 (e.1:Int),.int .i64 (y:Int),.bool s4,.slice p4 n4 c4,.bool t4,.slice y4 m4 d4]]:List (List Value)) eF (us0++(done++[(e.1,y,ai e.2 m')])):=⟨by simp [EM] <;> omega,by simpa [List.append_assoc] using ((tJ.el.kp (dk B) (by (with_reducible (repeat (first | assumption | exact kU _ | exact kR _ | exact Kp.of (U:=UU) (by assumption) | exact aF.of (by assumption) | refine kT ?_ (by assumption)))))).snoc (show nK B oO [.int .i64 (e.1:Int),.int .i64 (y:Int),.bool s4,.slice p4 n4 c4,.bool t4,.slice y4 m4 d4] (e.1,y,ai e.2 m') from ⟨s4,p4,n4,c4,t4,y4,m4,d4,rfl,(xT.mono hB).kp (by (with_reducible (repeat (first | assumption | exact kU _ | exact kR _ | exact Kp.of (U:=UU) (by assumption) | exact aF.of (by assumption) | refine kT ?_ (by assumption)))))⟩)),ni,dv,jh,gU,by simpa using ed⟩
     refine VO.call rfl rfl (fk Tryz.func16) (fun jK mD jy=>((eT _ _ s' (ai e.2 m') kk kk jK (uJ.rd.ki (hK s' Jy hs0 hsM)) (xT.rd.ki lN) (by omega) (by omega)).mono (fun o w2 h=>And.intro h jy.1.size)).mono ?_)
     rintro o w5 ⟨⟨r5,rfl,q5,fY⟩,pY⟩
     obtain ⟨s5,p5,n5,c5,t5,y5,m5,d5,rfl⟩:=q5.form
     refine ⟨_,rfl,fY,fun mX _ vQ=>wV rfl ?_⟩
     (repeat first|refine wN ?_|refine wP rfl ?_|refine af rfl ?_|refine ag rfl ?_|refine wO rfl rfl ?_)
     refine VO.call rfl rfl (fk Tryz.func72) (fun pW uC uZ=>(ck _ _ m' (ai e.2 m') kk kk pW (En.ki (hK m' lJ tI oX)) (xT.rd.ki lN) (by omega) (by omega)).mono ?_)
     rintro e w6 ⟨r6,rfl,q6,ny⟩
     obtain ⟨s6,p6,n6,c6,t6,y6,m6,d6,rfl⟩:=q6.form
     refine ⟨_,rfl,ny,fun tD _ Dl=>wV rfl ?_⟩
     (repeat first|refine wN ?_|refine wP rfl ?_|refine af rfl ?_|refine ag rfl ?_|refine wO rfl rfl ?_)
     refine VO.de rfl (([.bool s3,.slice p3 n3 c3,.bool t3,.slice y3 m3 d3]:List Value).map .val) rfl (bg iB 1 _ ⟨[],rfl⟩) (wV rfl ?_)
     (repeat first|refine wN ?_|refine wP rfl ?_|refine af rfl ?_|refine ag rfl ?_|refine wO rfl rfl ?_)
     refine VO.call rfl rfl (fk Tryz.func72) (fun yH Em xE=>((ck _ _ e.2 (ai e.2 m') kk kk yH (Mr.rd.ki (hK e.2 ky yA Bv)) (xT.rd.ki lN) (by omega) (by omega)).mono (fun o w2 h=>And.intro h xE.1.size)).mono ?_)
     rintro o w7 ⟨⟨r7,rfl,q7,uX⟩,FO⟩
     obtain ⟨s7,p7,n7,c7,t7,y7,m7,d7,rfl⟩:=q7.form
     refine ⟨_,rfl,uX,fun zK _ bb7=>wV rfl ?_⟩
     (repeat first|refine wN ?_|refine wP rfl ?_|refine af rfl ?_|refine ag rfl ?_|refine wO rfl rfl ?_)
     refine VO.cond rfl (by show aQ + 1 + 4≤_;rw [List.length_map,List.length_append,List.length_append,List.flatten_cons,List.length_append,iB];show aQ + 1 + 4≤aQ + (6 - 1 + _ + _);omega) (VO.fu 155 rfl (sn iB) (wV rfl ?_))
     (repeat first|refine wN ?_|refine wP rfl ?_|refine af rfl ?_|refine ag rfl ?_|refine wO rfl rfl ?_)
     refine VO.de rfl (([.bool s7,.slice p7 n7 c7,.bool t7,.slice y7 m7 d7]:List Value).map .val) rfl (bg iB 1 _ ⟨[],rfl⟩) (wV rfl ?_)
     (repeat first|refine wN ?_|refine wP rfl ?_|refine af rfl ?_|refine ag rfl ?_|refine wO rfl rfl ?_)
     have zB:0≤e.2 - ai e.2 m':=by grind
     have Ms:e.2 - ai e.2 m'≤M:=by grind
     have Mt:Iz D (e.2 - ai e.2 m'):=ky.sub pJ
     obtain ⟨kg,lF⟩:∃ kg,eG (e.2 - ai e.2 m') 0=kg:=⟨_,rfl⟩
     refine VO.call rfl rfl (fk Tryz.func13) (fun vc Fu yI=>(dL _ (e.2 - ai e.2 m') kk vc (q7.ki (hK _ Mt zB Ms)) (by omega) kg lF).mono ?_)
     rintro e w8 ⟨rfl,re⟩
     skip
     refine ⟨_,rfl,re,fun vT _ JZ=>wV rfl ?_⟩
     (repeat first|refine wN ?_|refine wP rfl ?_|refine af rfl ?_|refine ag rfl ?_|refine wO rfl rfl ?_)
     have hE7:cG B w8 [.int .i64 (e.1:Int),.bool s7,.slice p7 n7 c7,.bool t7,.slice y7 m7 d7] (e.1,e.2 - ai e.2 m'):=⟨s7,p7,n7,c7,t7,y7,m7,d7,rfl,(q7.mono (Nat.le_trans hB FO)).kp (by (with_reducible (repeat (first | assumption | exact kU _ | exact kR _ | exact Kp.of (U:=UU) (by assumption) | exact aF.of (by assumption) | refine kT ?_ (by assumption)))))⟩
     have zv:=gL.so
     have Jx:=gL.po
     have sT:=gL.fl
     have CW:0≤m' - ai e.2 m':=by grind
     have Ff:0≤s' + ai e.2 m':=by grind
     have xU:s' + ai e.2 m' + (m' - ai e.2 m')=m:=by grind
     have xV:=(q6.kr (w':=w8) (by (with_reducible (repeat (first | assumption | exact kU _ | exact kR _ | exact Kp.of (U:=UU) (by assumption) | exact aF.of (by assumption) | refine kT ?_ (by assumption))))))
     have xW:aK w8 w.heap.size _ (s' + ai e.2 m'):=(q5.mono pY).kp (by (with_reducible (repeat (first | assumption | exact kU _ | exact kR _ | exact Kp.of (U:=UU) (by assumption) | exact aF.of (by assumption) | refine kT ?_ (by assumption)))))
     have Mu:cM (cG B) w8 fw fT:=qT.kp (aL B) (by (with_reducible (repeat (first | assumption | exact kU _ | exact kR _ | exact Kp.of (U:=UU) (by assumption) | exact aF.of (by assumption) | refine kT ?_ (by assumption)))))
     by_cases hz:e.2 - ai e.2 m'=0
     ·have qV:(kg == 0)=true:=by rw [←lF,hz];rfl
      refine VS.bG rfl qV ?_
      (repeat first|refine wN ?_|refine wP rfl ?_|refine af rfl ?_|refine ag rfl ?_|refine wO rfl rfl ?_)
      obtain ⟨e1,e2,e3⟩:=fR (y:=y) (p:=e) (q:=fw) hm hz
      rw [e1,←List.singleton_append,←List.append_assoc] at eU
      rw [e2] at eL
      rw [e3] at eS
      refine VO.iz rfl rfl (fk Tryz.func76) rfl (by omega) uY uS (fun j hj=> ?_) (Nat.le_of_ble_eq_true rfl) (fun w9 k9 b9=>wV rfl ?_)
      ·rcases List.mem_cons.1 hj with rfl | hj
       ·intro h;cases h
       ·cases List.mem_singleton.1 hj
        intro h;cases h
      (repeat first|refine wN ?_|refine wP rfl ?_|refine af rfl ?_|refine ag rfl ?_|refine wO rfl rfl ?_)
      have hO9:cX (cG B) 5 w9 (n' - 1) (if c'=1 then aQ else aQ + 5) (c' - 1) (bI++[.int .i64 (e.1:Int),.bool s7,.slice p7 n7 c7,.bool t7,.slice y7 m7 d7]) fT ak fw:=⟨by rw [qO];rfl,nj iB,by rw [List.all_append,Jx];rfl,Mu.kp (aL B) (by (with_reducible (repeat (first | assumption | exact kU _ | exact kR _ | exact Kp.of (U:=UU) (by assumption) | exact aF.of (by assumption) | refine kT ?_ (by assumption))))),zv,by omega,by omega,nk sT⟩
      have gu:∀ (v8:AV) (wb:World),aF (KU UU) w9 wb→((n' - 1=0∧v8=.val (.pointer none))∨(n' - 1≠0∧v8=.kC 155 (if c'=1 then aQ else aQ + 5)))→ss B D M w rv y q m yM Bd mw nL us0 (2 * fw.length + (if 0 < m' - ai e.2 m' then 1 else 0)) [(0,.box 154 0),(1,.val (.int .i64 (y:Int))),(5,.box 5 0),(6,.box 6 0),(7,.box 7 0),(8,v8)]
        ((154,(Runner,[.row 155 (if c'=1 then aQ else aQ + 5) (n' - 1) (c' - 1),.val rv,.row 47 0 (un + 1) cap']))::(155,(cO,((bI++([.int .i64 (e.1:Int),.bool s7,.slice p7 n7 c7,.bool t7,.slice y7 m7 d7]:List Value))++(fT.flatten++ak)).map AV.val))::(5,(26,([.bool s6,.slice p6 n6 c6,.bool t6,.slice y6 m6 d6]:List Value).map .val))::(6,(26,([.bool false,.slice none 0 0,.bool false,.slice none 0 0]:List Value).map .val))::(7,(26,([.bool s5,.slice p5 n5 c5,.bool t5,.slice y5 m5 d5]:List Value).map .val))::[(47,(ey,(oW++[[.int .i64 (e.1:Int),.int .i64 (y:Int),.bool s4,.slice p4 n4 c4,.bool t4,.slice y4 m4 d4]]:List (List Value)).flatten.map AV.val++eF))]) wb:=fun v8 wb kb Jz=>
       ⟨fw,_,_,_,_,fT,ak,m' - ai e.2 m',s' + ai e.2 m',done++[(e.1,y,ai e.2 m')],v8,_,_,_,_,_,_,_,_,_,_,_,_,_,_,_,_,_,_,rfl,rfl,rfl,hO9.kp (aL B) (by (with_reducible (repeat (first | assumption | exact kU _ | exact kR _ | exact Kp.of (U:=UU) (by assumption) | exact aF.of (by assumption) | refine kT ?_ (by assumption))))),xV.k,xW.k,lJ.sub pJ,Jy.add pJ,CW,Ff,xU,fun p hp=>Al p (by simp [hp]),eU,eL,by rw [eS];grind,Jz,by simp at iE ⊢;split <;> omega,.inr ⟨_,_,_,_,rfl,rfl,yo.kp (by (with_reducible (repeat (first | assumption | exact kU _ | exact kR _ | exact Kp.of (U:=UU) (by assumption) | exact aF.of (by assumption) | refine kT ?_ (by assumption)))))⟩⟩
      have hlt:2 * fw.length + (if 0 < m' - ai e.2 m' then 1 else 0) < 2 * (e::fw).length + (if 0 < m' then 1 else 0):=by
       rw [if_pos hm,List.length_cons];split <;> omega
      by_cases sU:n' - 1=0
      ·refine VO.cY (x:=.row 155 (if c'=1 then aQ else aQ + 5) (n' - 1) (c' - 1)) (p:=fun _=>none) (c:=c' - 1) rfl (fun β=>.inr ⟨_,congrArg (fun n=>Value.slice (some ⟨β 155,(if c'=1 then aQ else aQ + 5),none⟩) n (c' - 1)) sU⟩) rfl (fk Tryz.func75) rfl (fun wb JA Hi=>wV rfl ?_)
       (repeat first|refine wN ?_|refine wP rfl ?_|refine af rfl ?_|refine ag rfl ?_|refine wO rfl rfl ?_)
       refine VS.back _ hlt ⟨_,_,?_,?_,?_,?_,gu _ wb (by (with_reducible (repeat (first | assumption | exact kU _ | exact kR _ | exact Kp.of (U:=UU) (by assumption) | exact aF.of (by assumption) | refine kT ?_ (by assumption))))) (.inl ⟨sU,rfl⟩)⟩
       ·(repeat first|exact trivial|refine ⟨rfl,?_⟩)
       ·exact ⟨rfl,congrArg (fun l=>some (cO,l)) (dG _ _ _ _),rfl,rfl,rfl,congrArg (fun l=>some (ey,l++eF)) (by simp),trivial⟩
       ·rfl
       ·exact ⟨.lit rfl,.vals _,.vals _,.vals _,.vals _,.append (.vals _) (.none dv),trivial⟩
      ·refine VO.cH rfl rfl (fk Tryz.func75) rfl sU (by intro h;cases h) (fun wb JA Hi=>wV rfl ?_)
       (repeat first|refine wN ?_|refine wP rfl ?_|refine af rfl ?_|refine ag rfl ?_|refine wO rfl rfl ?_)
       refine VS.back _ hlt ⟨_,_,?_,?_,?_,?_,gu _ wb (by (with_reducible (repeat (first | assumption | exact kU _ | exact kR _ | exact Kp.of (U:=UU) (by assumption) | exact aF.of (by assumption) | refine kT ?_ (by assumption))))) (.inr ⟨sU,rfl⟩)⟩
       ·(repeat first|exact trivial|refine ⟨rfl,?_⟩)
       ·exact ⟨rfl,congrArg (fun l=>some (cO,l)) (dG _ _ _ _),rfl,rfl,rfl,congrArg (fun l=>some (ey,l++eF)) (by simp),trivial⟩
       ·rfl
       ·exact ⟨.lit rfl,.vals _,.vals _,.vals _,.vals _,.append (.vals _) (.none dv),trivial⟩
     ·have qV:(kg == 0)=false:=by rw [←lF,beq_eq_false_iff_ne];exact vW hz
      refine VS.bK rfl qV ?_
      (repeat first|refine wN ?_|refine wP rfl ?_|refine af rfl ?_|refine ag rfl ?_|refine wO rfl rfl ?_)
      obtain ⟨e0,e1,e2,e3⟩:=fQ (y:=y) (p:=e) (q:=fw) hm hz
      refine VO.cH rfl rfl (fk Tryz.func75) rfl lU (by intro h;cases h) (fun wb JA Hi=>wV rfl ?_)
      (repeat first|refine wN ?_|refine wP rfl ?_|refine af rfl ?_|refine ag rfl ?_|refine wO rfl rfl ?_)
      refine VS.back (2 * (e::fw).length + 0) (by rw [if_pos hm];omega) ⟨_,_,?_,?_,?_,?_,⟨(e.1,e.2 - ai e.2 m')::fw,aQ,n',c',bI,[.int .i64 (e.1:Int),.bool s7,.slice p7 n7 c7,.bool t7,.slice y7 m7 d7]::fT,ak,m' - ai e.2 m',s' + ai e.2 m',done++[(e.1,y,ai e.2 m')],.kC 155 aQ,_,_,_,_,_,_,_,_,_,_,_,_,_,_,_,_,_,_,by rw [if_neg e0];rfl,rfl,rfl,⟨qO,.inl iB,Jx,.cons ((aL B).kp hE7 (by (with_reducible (repeat (first | assumption | exact kU _ | exact kR _ | exact Kp.of (U:=UU) (by assumption) | exact aF.of (by assumption) | refine kT ?_ (by assumption)))))) (Mu.kp (aL B) (by (with_reducible (repeat (first | assumption | exact kU _ | exact kR _ | exact Kp.of (U:=UU) (by assumption) | exact aF.of (by assumption) | refine kT ?_ (by assumption)))))),zv,uY,uS,by simpa using sT⟩,xV.k,xW.k,lJ.sub pJ,Jy.add pJ,CW,Ff,xU,fun p hp=> ?_,?_,?_,?_,.inr ⟨lU,rfl⟩,?_,.inr ⟨_,_,_,_,rfl,rfl,yo.kp (by (with_reducible (repeat (first | assumption | exact kU _ | exact kR _ | exact Kp.of (U:=UU) (by assumption) | exact aF.of (by assumption) | refine kT ?_ (by assumption)))))⟩⟩⟩
      ·(repeat first|exact trivial|refine ⟨rfl,?_⟩)
      ·exact ⟨rfl,rfl,rfl,rfl,rfl,congrArg (fun l=>some (ey,l++eF)) (by simp),trivial⟩
      ·rfl
      ·exact ⟨.lit rfl,.vals _,.vals _,.vals _,.vals _,.append (.vals _) (.none dv),trivial⟩
      ·rcases List.mem_cons.1 hp with rfl | hp
       ·exact ⟨Mt,zB,Ms⟩
       ·exact Al p (by simp [hp])
      ·rw [eU,e1,gz y _ e0,List.append_nil]
      ·rw [eL,e2,fP _ e0]
      ·rw [eS,e3,gA _ e0];grind
      ·rw [if_neg e0];simp at iE ⊢;omega
    ·have kj:¬ sg > 0:=by rw [←kE];exact fun h=>hm (fe.1 h)
     refine VS.bK rfl (decide_eq_false kj) ?_
     have fU:=gz y (e::fw) hm
     have fL:=fP (e::fw) hm
     have fS:=gA (e::fw) hm
     (repeat first|refine wN ?_|refine wP rfl ?_|refine af rfl ?_|refine ag rfl ?_|refine wO rfl rfl ?_)
     refine VS.oJ (bj _ _) rfl (fun wz β kz oz en=> ?_)
     obtain ⟨o1,o2⟩:=ea (en.own 154 _ _ rfl) 0 g rfl rfl
     obtain ⟨o3,o4⟩:=ea (en.own 155 _ _ rfl) 1 b rfl rfl
     rw [ah] at o4
     replace o3:β 155=b:=o3
     rw [fU] at eU
     rw [fL] at eL
     rw [fS,show s' + 0=s' by grind] at eS
     have o5:=(en.own 47 _ _ rfl).new
     have o6:=(en.own 47 _ _ rfl).cls
     rw [List.map_append,ah] at o6
     have n1':β 47≠g:=fun e=>absurd (en.apart 154 47 (by intro h;cases h) (by intro h;cases h) (o1.trans e.symm)) (by decide)
     have n2':β 47≠b:=fun e=>absurd (en.apart 155 47 (by intro h;cases h) (by intro h;cases h) (o3.trans e.symm)) (by decide)
     have o7:w.heap.size≤β 47∨β 47=ub:=by
      have:=eO (show cA 77 [g,b,ub] w 47 (β 47) from o5)
      simpa [n1',n2'] using this
     refine ⟨_,rfl,?_,oz.1,oz.2 ub (by simp),aQ,n',c',bI,_,ak,.slice (some ⟨β 47,0,none⟩) un uc,?_,o4,?_,⟨β 47,un,uc,oW,qS.map (AV.leaf β),o7,rfl,o6,?_⟩⟩
     ·rw [eS];exact uJ.k
     ·rw [←o3];exact o2
     ·rw [eL];exact gL.kp (aL B) (by (with_reducible (repeat (first | assumption | exact kU _ | exact kR _ | exact Kp.of (U:=UU) (by assumption) | exact aF.of (by assumption) | refine kT ?_ (by assumption)))))
     ·rw [eU,List.append_nil];exact (tJ.kp (by (with_reducible (repeat (first | assumption | exact kU _ | exact kR _ | exact Kp.of (U:=UU) (by assumption) | exact aF.of (by assumption) | refine kT ?_ (by assumption)))))).o β
end Go.Proofs.YtabalinjfgcfeaaGreat
set_option maxRecDepth 4000
namespace Go.Proofs.YtabalinjfgcfeaaGreat
open Go.RowKit
attribute [local irreducible] aA VS
theorem Mw {v off n c:Nat} {a y:AV} (h:aG a=true) (hy:aG y=true):[.row v off n c,a,y].all aG=true:=by
 rw [List.all_cons,List.all_cons,List.all_cons,h,hy];rfl
theorem xX {v off n c j:Nat} {a y:AV} (h:j∈ay [.row v off n c,a,y]):j=v∨j∈ay [a]∨j∈y.cL:=by
 obtain ⟨z,hz,hj⟩:=aP.1 h
 simp only [List.mem_cons,List.not_mem_nil,or_false] at hz
 rcases hz with rfl | rfl | rfl
 ·exact .inl (by simpa [AV.cL] using hj)
 ·exact .inr (.inl (aP.2 ⟨_,by simp,hj⟩))
 ·exact .inr (.inr hj)
theorem Bf {C:Cx} {β bC:Nat→Nat} {H:Hp} {ids:List Nat} {del:Option Nat} {ups:List (Nat×(TypeId×List AV))} {ad:List Nat} {w w':World} (hb:qJ ad w w') (had:∀ b∈ad,(∃ x∈ups,bC x.1=b)∨∃ i,del=some i∧β i=b) (lZ:∀ i,i∉ups.map (·.1)→bC i=β i) (gone:∀ i,del=some i→Reach H ids i∧H i≠none)
  (left:∀ i,del=some i→∃ t cs,aV w' (β i) t (List.toArray cs)∧C.K.fz t=false∧cs.all aR=true) (own:∀ x∈ups,lW C bC w' x.1 x.2.1 x.2.2)
  (IE:∀ x∈ups,(H x.1≠none∧del≠some x.1∧Reach H ids x.1∧bC x.1=β x.1)∨((H x.1=none∨del=some x.1)∧x.1 < 2 * C.N∧(w.heap.size≤bC x.1∨∃ i,del=some i∧bC x.1=β i)))
  (once:(ups.map (·.1)).Nodup) (tys:(ups.map (·.2.1)).Nodup) (closed:∀ x∈ups,∀ j∈ay x.2.2,j∈ups.map (·.1)∨(H j≠none∧del≠some j)):wZ C β bC H ids del ups w w':=by
 refine ⟨hb.os,hb.tape,hb.output,hb.size,fun k hk hx iE _=>hb.nH k hk fun hm=> ?_,lZ,gone,fun i hi=>.inl (.inr (left i hi)),own,IE,once,fun x hx y hy he=> ?_,closed⟩
 ·rcases had k hm with ⟨x,GH,e⟩ | ⟨i,hi,e⟩
  ·exact hx x GH e.symm
  ·exact iE i hi e.symm
 ·have ht:x.2.1=y.2.1:=bo (own x hx).cls (he▸(own y hy).cls)
  obtain ⟨i,hi⟩:=List.mem_iff_getElem?.1 hx
  obtain ⟨j,hj⟩:=List.mem_iff_getElem?.1 hy
  have e1:(ups.map (·.2.1))[i]? =some x.2.1:=by rw [List.getElem?_map,hi];rfl
  have e2:(ups.map (·.2.1))[j]? =some x.2.1:=by rw [List.getElem?_map,hj,ht];rfl
  have:=(List.getElem?_inj (by rw [List.length_map];exact (List.getElem?_eq_some_iff.1 hi).1) tys).1 (e1.trans e2.symm)
  subst this
  rw [hi] at hj
  cases hj;rfl
theorem JB (g y kk:Nat) (r u v:Value) (m:Rat) (w:World) (hg:aV w g Runner #[.slice none 0 0,r,u]) (hv:cP w v m):
  Calls Tryz.prog 73 #[.pointer (some ⟨g,0,none⟩),.int .i64 (y:Int),v] w fun o w'=>∃ x,o=.returned x∧aK w' w.heap.size x 0∧aj w w':=by
 obtain ⟨s0,p0,n0,c0,t0,y0,m0,d0,rfl⟩:=hv.form
 refine aw (C:=bP Tryz.prog w _) (args:=[_,_,_]) Tryz.func73 rfl Tryz.ntmps73 (Nat.le_of_ble_eq_true rfl) ?_
 (repeat first|refine wN ?_|refine wP rfl ?_|refine aa rfl ?_|refine ab rfl ?_|refine wO rfl rfl ?_)
 refine VO.call rfl rfl (fk Tryz.func44) (fun cB eu dt=>((bF 0 cB (by omega) (by omega)).mono (fun o w2 h=>And.intro h dt.size)).mono ?_)
 rintro o w1 ⟨⟨r9,rfl,q9,Gv⟩,FM⟩
 obtain ⟨s9,p9,n9,c9,t9,y9,m9,d9,rfl⟩:=q9.form
 refine ⟨_,rfl,Gv,fun Bz _ bb9=>wV rfl ?_⟩
 (repeat first|refine wN ?_|refine wP rfl ?_|refine aa rfl ?_|refine ab rfl ?_|refine wO rfl rfl ?_)
 have q9':aK w1 w.heap.size (.agg #[.bool s9,.slice p9 n9 c9,.bool t9,.slice y9 m9 d9]) 0:=q9.mono FM
 refine VO.call rfl rfl (fk Tryz.func75) (fun dR gS eW=>(uI g 0 none r u dR (hg.bk eW)).mono ?_)
 rintro e w2 ⟨rfl,bn⟩
 skip
 refine ⟨_,rfl,bn,fun gw _ bb2=>wV rfl ?_⟩
 (repeat first|refine wN ?_|refine wP rfl ?_|refine aa rfl ?_|refine ab rfl ?_|refine wO rfl rfl ?_)
 refine VS.loop (J:=fun m L M w'=>L=[(1,.val (.int .i64 (y:Int))),(5,.box 5 0),(6,.box 6 0),(7,.box 7 0),(8,.val (.pointer none))]∧M=[(5,(26,([.bool s0,.slice p0 n0 c0,.bool t0,.slice y0 m0 d0]:List Value).map .val)),(6,(26,([.bool false,.slice none 0 0,.bool false,.slice none 0 0]:List Value).map .val)),(7,(26,([.bool s9,.slice p9 n9 c9,.bool t9,.slice y9 m9 d9]:List Value).map .val))]∧aK w' w.heap.size (.agg #[.bool s9,.slice p9 n9 c9,.bool t9,.slice y9 m9 d9]) 0) 0 ⟨_,_,?_,?_,?_,?_,⟨rfl,rfl,q9'.k⟩⟩ ?_
 ·(repeat first|exact trivial|refine ⟨rfl,?_⟩)
 ·(repeat first|exact trivial|refine ⟨rfl,?_⟩)
 ·rfl
 ·(repeat first|exact trivial|refine ⟨ba.lit rfl,?_⟩|refine ⟨ba.vals _,?_⟩)
 rintro m' L M w3 ⟨rfl,rfl,hr3⟩
 (repeat first|refine wN ?_|refine wP rfl ?_|refine aa rfl ?_|refine ab rfl ?_|refine wO rfl rfl ?_)
 refine VS.ret (aJ _ _) rfl rfl (fun wz kz bz=> ?_)
 exact ⟨_,rfl,hr3.k,bz⟩
end Go.Proofs.YtabalinjfgcfeaaGreat
namespace Go.Proofs.YtabalinjfgcfeaaGreat
open Go.RowKit
section
variable {C:Cx} {F:Fr} {H:Hp} {w:World} {m:Option (List FuncId)} {full:Array Oper} {K:Fr→Hp→World→Prop} {o:Oper} {r:List Oper}
theorem VO.sw {B i y:Nat} {a u:AV} {val:Value} {mm:Rat} (kk:Nat) (hP:C.P=Tryz.prog) (e:stepOf C full F H o=.call (.fn 73 [.box i 0,.val (.int .i64 (y:Int)),.val val])) (hf:ou C.P 73) (h1:H i=some (Runner,[.val (.slice none 0 0),a,u])) (hv:∀ w1,aF C.K w w1→C.Old w1→cP w1 val mm) (hB:B≤C.w0.heap.size)
  (k:∀ w2 x,aF C.K w w2→C.Old w2→aK w2 B x 0→aA C m full r K (F.bh o.dst (.val x)) H w2):aA C m full (o::r) K F H w:=by
 refine VO.gi e hf fun w1 β a1 a2 a3=> ?_
 have o1:=a3.own i (.base (by simp [fC,AV.ids])) _ _ h1
 refine Calls.mono (show Calls C.P _ #[.pointer (some ⟨β i,0,none⟩),.int .i64 (y:Int),val] w1 _ from hP▸JB (β i) y kk _ _ val mm w1 o1.cls (hv w1 a1 a2)) ?_
 rintro e w2 ⟨x,rfl,hx,hb⟩
 exact ⟨_,rfl,hb,fun b1 b2 b3=>k w2 x b1 b3 (hx.mono (Nat.le_trans hB (C.ez _ a2)))⟩
theorem VO.DI {B D i v d2 off n c y:Nat} {M mm:Rat} {a:AV} {pre spare:List Value} {vs:List (List Value)} {q:List Vq} {val:Value} (kk:Nat) (hP:C.P=Tryz.prog) (hK:C.K=KU UU)
  (e:stepOf C full F H o=.call (.fn 73 [.box i 0,.val (.int .i64 (y:Int)),.val val])) (hf:ou C.P 73) (h1:H i=some (Runner,[.row v off n c,a,.val (.slice none 0 0)])) (h2:H v=some (cO,(pre++(vs.flatten++spare)).map .val)) (h3:H d2=none) (hd2:d2 < 2 * C.N) (hiv:i≠v) (haok:aG a=true) (Mx:∀ β:Nat→Nat,aR (a.leaf β)=true)
  (gv:∀ j∈ay [a],H j≠none) (hl:1≤lvl C.SU m o) (hO:∀ w1,aF C.K w w1→C.Old w1→cX (cG B) 5 w1 n off c pre vs spare q) (hv:∀ w1,aF C.K w w1→C.Old w1→cP w1 val mm) (hmI:Iz D mm) (xP:0≤mm) (hmM:mm≤M) (hq:∀ p∈q,Iz D p.2∧0≤p.2∧p.2≤M)
  (hKs:∀ x,Iz D x→0≤x→x≤M→fo x kk) (hk:kk≤100000) (jA:q.length≤1000) (hB:B≤C.w0.heap.size)
  (k1:∀ w2 x aQ n' c' bI gE ak,aF C.K w w2→C.Old w2→aK w2 B x (rh q mm)→nW y q mm=[]→cX (cG B) 5 w2 n' aQ c' bI gE ak (ld q mm)→
   aA C m full r K (F.bh o.dst (.val x)) ((H.put i (Runner,[.row v aQ n' c',a,.val (.slice none 0 0)])).put v (cO,(bI++(gE.flatten++ak)).map .val)) w2)
  (k2:∀ w2 x aQ n' c' bI gE ak un uc oW qS,aF C.K w w2→C.Old w2→aK w2 B x (rh q mm)→cX (cG B) 5 w2 n' aQ c' bI gE ak (ld q mm)→cX (nK B) 6 w2 un 0 uc [] oW qS (nW y q mm)→
   aA C m full r K (F.bh o.dst (.val x)) (((H.put i (Runner,[.row v aQ n' c',a,.row d2 0 un uc])).put v (cO,(bI++(gE.flatten++ak)).map .val)).put d2 (ey,(oW.flatten++qS).map .val)) w2):aA C m full (o::r) K F H w:=by
 show one C m full o (aA C m full r K) F H w
 unfold one
 rw [e]
 intro w1 β a1 a2 a3
 have ic:Reach H (eg.fn 73 [.box i 0,.val (.int .i64 (y:Int)),.val val]).ids i:=.base (by simp [eg.ids,fC,AV.ids])
 have ji:Reach H (eg.fn 73 [.box i 0,.val (.int .i64 (y:Int)),.val val]).ids v:=.step ic h1 (by simp [ay,AV.cL])
 have o1:=a3.own i ic _ _ h1
 have o2:=a3.own v ji _ _ h2
 have gU:aV w1 (β v) cO (pre++(vs.flatten++spare)).toArray:=by have:=o2.cls;rw [ah] at this;exact this
 have hBw:B≤w1.heap.size:=Nat.le_trans hB (C.ez _ a2)
 have hne:∀ j,H j≠none→j≠d2:=fun j hj e=>hj (e▸h3)
 have hid:i≠d2:=hne i (by rw [h1];simp)
 have Hh:v≠d2:=hne v (by rw [h2];simp)
 refine ⟨hf,Calls.mono (show Calls C.P _ #[.pointer (some ⟨β i,0,none⟩),.int .i64 (y:Int),val] w1 _ from hP▸Mq B (β i) (β v) off n c y D kk M mm pre vs spare q (a.leaf β) val w1 o1.cls gU (hO w1 a1 a2) (Mx β) (hv w1 a1 a2) hmI xP hmM hq hKs hk jA hBw) ?_⟩
 rintro e w2 ⟨x,rfl,hx,hb,aQ,n',c',bI,gE,ak,uv,Ka,yn,gL,⟨rfl,Ie⟩ | ⟨b',un,uc,oW,qS,hbn,rfl,hu',tJ⟩⟩
 ·refine ⟨β,.val x,none,[(i,(Runner,[.row v aQ n' c',a,.val (.slice none 0 0)])),(v,(cO,(bI++(gE.flatten++ak)).map .val))],rfl,fun i hi=>(by cases hi),.inl hl,.inr rfl,?_,fun p1 _ p3 _ _=>k1 w2 x aQ n' c' bI gE ak p1 p3 (hx.mono hBw) Ie gL⟩
  refine Bf hb (fun b yn=> ?_) (fun _ _=>rfl) (fun i hi=>(by cases hi)) (fun i hi=>(by cases hi)) (fun x hx=> ?_) (fun x hx=> ?_) (by simpa using hiv) (by show [Runner,cO].Nodup;decide) (fun x hx j hj=> ?_)
  ·simp only [List.mem_cons,List.not_mem_nil,or_false] at yn
   rcases yn with rfl | rfl
   ·exact .inl ⟨_,List.mem_cons_self,rfl⟩
   ·exact .inl ⟨_,List.mem_cons_of_mem _ List.mem_cons_self,rfl⟩
  ·simp only [List.mem_cons,List.not_mem_nil,or_false] at hx
   rcases hx with rfl | rfl
   ·exact ⟨o1.new,o1.ty,Ka,Mw haok rfl⟩
   ·exact ⟨o2.new,o2.ty,by rw [ah];exact yn,aZ (gL.all (aL B))⟩
  ·simp only [List.mem_cons,List.not_mem_nil,or_false] at hx
   rcases hx with rfl | rfl
   ·exact .inl ⟨by rw [h1];simp,by simp,ic,rfl⟩
   ·exact .inl ⟨by rw [h2];simp,by simp,ji,rfl⟩
  ·simp only [List.mem_cons,List.not_mem_nil,or_false] at hx
   rcases hx with rfl | rfl
   ·rcases xX hj with h | h | h
    ·exact .inl (by simp [h])
    ·exact .inr ⟨gv j h,by simp⟩
    ·cases h
   ·rw [ao] at hj;cases hj
 ·let bC:Nat→Nat:=fun j=>if j=d2 then b' else β j
  have e2:bC d2=b':=if_pos rfl
  have e1:∀ j,j≠d2→bC j=β j:=fun j hj=>if_neg hj
  have hag:a.leaf bC=a.leaf β:=AV.mP fun j hj=>e1 j (hne j (gv j (aP.2 ⟨a,by simp,hj⟩)))
  refine ⟨bC,.val x,none,[(i,(Runner,[.row v aQ n' c',a,.row d2 0 un uc])),(v,(cO,(bI++(gE.flatten++ak)).map .val)),(d2,(ey,(oW.flatten++qS).map .val))],rfl,fun i hi=>(by cases hi),.inl (by omega),.inr rfl,?_,fun p1 _ p3 ρ _=>k2 w2 x aQ n' c' bI gE ak un uc oW qS p1 p3 (hx.mono hBw) gL tJ⟩
  refine Bf hb (fun b yn=> ?_) (fun j hj=>e1 j (fun h=>hj (by simp [h]))) (fun i hi=>(by cases hi)) (fun i hi=>(by cases hi)) (fun x hx=> ?_) (fun x hx=> ?_) (by simp [hiv,hid,Hh]) (by show [Runner,cO,ey].Nodup;decide) (fun x hx j hj=> ?_)
  ·simp only [List.mem_cons,List.not_mem_nil,or_false] at yn
   rcases yn with rfl | rfl
   ·exact .inl ⟨_,List.mem_cons_self,e1 i hid⟩
   ·exact .inl ⟨_,List.mem_cons_of_mem _ List.mem_cons_self,e1 v Hh⟩
  ·simp only [List.mem_cons,List.not_mem_nil,or_false] at hx
   rcases hx with rfl | rfl | rfl
   ·refine ⟨by rw [e1 i hid];exact o1.new,o1.ty,?_,Mw haok rfl⟩
    rw [e1 i hid]
    show aV w2 (β i) Runner #[.slice (some ⟨bC v,aQ,none⟩) n' c',a.leaf bC,.slice (some ⟨bC d2,0,none⟩) un uc]
    rw [e1 v Hh,e2,hag]
    exact Ka
   ·exact ⟨by rw [e1 v Hh];exact o2.new,o2.ty,by rw [e1 v Hh,ah];exact yn,aZ (gL.all (aL B))⟩
   ·refine ⟨?_,by rw [hK];rfl,by rw [e2,ah];exact hu',aZ (by have:=tJ.all (dk B);exact this)⟩
    rw [e2]
    exact C.rH _ _ (by omega) (by have:=C.ez _ a2;omega)
  ·simp only [List.mem_cons,List.not_mem_nil,or_false] at hx
   rcases hx with rfl | rfl | rfl
   ·exact .inl ⟨by rw [h1];simp,by simp,ic,e1 i hid⟩
   ·exact .inl ⟨by rw [h2];simp,by simp,ji,e1 v Hh⟩
   ·exact .inr ⟨.inl h3,hd2,.inl (by rw [e2];exact hbn)⟩
  ·simp only [List.mem_cons,List.not_mem_nil,or_false] at hx
   rcases hx with rfl | rfl | rfl
   ·rcases xX hj with h | h | h
    ·exact .inl (by simp [h])
    ·exact .inr ⟨gv j h,by simp⟩
    ·exact .inl (by have:j=d2:=by simpa [AV.cL] using h
                    simp [this])
   ·rw [ao] at hj;cases hj
   ·rw [ao] at hj;cases hj
theorem VO.DJ {B D i v d2 off n c y:Nat} {M mm:Rat} {a:AV} {pre spare:List Value} {vs:List (List Value)} {q:List Vq} {val:Value} {u yM Bd:Nat} {mw:List (List Value)} {nL:List Value} {us0:List Uq} (kk:Nat) (hP:C.P=Tryz.prog) (hK:C.K=KU UU)
  (e:stepOf C full F H o=.call (.fn 73 [.box i 0,.val (.int .i64 (y:Int)),.val val])) (hf:ou C.P 73) (h1:H i=some (Runner,[.row v off n c,a,.row u 0 yM Bd])) (h2:H v=some (cO,(pre++(vs.flatten++spare)).map .val)) (h4:H u=some (ey,(mw.flatten++nL).map .val)) (Kb:∀ w1,aF C.K w w1→C.Old w1→cX (nK B) 6 w1 yM 0 Bd [] mw nL us0) (Be:us0.length≤1000) (hiu:i≠u) (hvu:v≠u) (h3:H d2=none) (hd2:d2 < 2 * C.N) (hiv:i≠v) (haok:aG a=true) (Mx:∀ β:Nat→Nat,aR (a.leaf β)=true)
  (gv:∀ j∈ay [a],H j≠none∧j≠u) (hl:lvl C.SU m o=2) (hO:∀ w1,aF C.K w w1→C.Old w1→cX (cG B) 5 w1 n off c pre vs spare q) (hv:∀ w1,aF C.K w w1→C.Old w1→cP w1 val mm) (hmI:Iz D mm) (xP:0≤mm) (hmM:mm≤M) (hq:∀ p∈q,Iz D p.2∧0≤p.2∧p.2≤M)
  (hKs:∀ x,Iz D x→0≤x→x≤M→fo x kk) (hk:kk≤100000) (jA:q.length≤1000) (hB:B≤C.w0.heap.size)
  (k2:∀ w2 x aQ n' c' bI gE ak un uc oW qS ρ,aF C.K w w2→C.Old w2→aK w2 B x (rh q mm)→cX (cG B) 5 w2 n' aQ c' bI gE ak (ld q mm)→cX (nK B) 6 w2 un 0 uc [] oW qS (us0++nW y q mm)→
   aA C m full r K ((F.forget (some u) ρ).bh o.dst (.val x)) ((((H.forget (some u) ρ).put i (Runner,[.row v aQ n' c',a,.row d2 0 un uc])).put v (cO,(bI++(gE.flatten++ak)).map .val)).put d2 (ey,(oW.flatten++qS).map .val)) w2):aA C m full (o::r) K F H w:=by
 show one C m full o (aA C m full r K) F H w
 unfold one
 rw [e]
 intro w1 β a1 a2 a3
 have ic:Reach H (eg.fn 73 [.box i 0,.val (.int .i64 (y:Int)),.val val]).ids i:=.base (by simp [eg.ids,fC,AV.ids])
 have ji:Reach H (eg.fn 73 [.box i 0,.val (.int .i64 (y:Int)),.val val]).ids v:=.step ic h1 (by simp [ay,AV.cL])
 have o1:=a3.own i ic _ _ h1
 have o2:=a3.own v ji _ _ h2
 have gU:aV w1 (β v) cO (pre++(vs.flatten++spare)).toArray:=by have:=o2.cls;rw [ah] at this;exact this
 have hBw:B≤w1.heap.size:=Nat.le_trans hB (C.ez _ a2)
 have hne:∀ j,H j≠none→j≠d2:=fun j hj e=>hj (e▸h3)
 have hid:i≠d2:=hne i (by rw [h1];simp)
 have Hh:v≠d2:=hne v (by rw [h2];simp)
 have hr4:Reach H (eg.fn 73 [.box i 0,.val (.int .i64 (y:Int)),.val val]).ids u:=.step ic h1 (by simp [ay,AV.cL])
 have o4:=a3.own u hr4 _ _ h4
 have uT:aV w1 (β u) ey (mw.flatten++nL).toArray:=by have:=o4.cls;rw [ah] at this;exact this
 have hud:u≠d2:=hne u (by rw [h4];simp)
 refine ⟨hf,Calls.mono (show Calls C.P _ #[.pointer (some ⟨β i,0,none⟩),.int .i64 (y:Int),val] w1 _ from hP▸Mv B (β i) (β v) off n c y D kk M mm pre vs spare q (a.leaf β) val (β u) yM Bd mw nL us0 w1 o1.cls uT (Kb w1 a1 a2) Be gU (hO w1 a1 a2) (Mx β) (hv w1 a1 a2) hmI xP hmM hq hKs hk jA hBw) ?_⟩
 rintro e w2 ⟨x,rfl,hx,hb,⟨tl,cl,l1,l2,l3⟩,aQ,n',c',bI,gE,ak,uv,Ka,yn,gL,b',un,uc,oW,qS,hbn,rfl,hu',tJ⟩
 ·let bC:Nat→Nat:=fun j=>if j=d2 then b' else β j
  have e2:bC d2=b':=if_pos rfl
  have e1:∀ j,j≠d2→bC j=β j:=fun j hj=>if_neg hj
  have hag:a.leaf bC=a.leaf β:=AV.mP fun j hj=>e1 j (hne j ((gv j (aP.2 ⟨a,by simp,hj⟩)).1))
  refine ⟨bC,.val x,some u,[(i,(Runner,[.row v aQ n' c',a,.row d2 0 un uc])),(v,(cO,(bI++(gE.flatten++ak)).map .val)),(d2,(ey,(oW.flatten++qS).map .val))],rfl,fun i hi=>(by cases hi),.inl (by omega),.inl (by omega),?_,fun p1 _ p3 ρ _=>k2 w2 x aQ n' c' bI gE ak un uc oW qS ρ p1 p3 (hx.mono hBw) gL tJ⟩
  refine Bf hb (fun b yn=> ?_) (fun j hj=>e1 j (fun h=>hj (by simp [h]))) (fun j hj=>by cases hj;exact ⟨hr4,by rw [h4];simp⟩) (fun j hj=>by cases hj;exact ⟨tl,cl,l1,by rw [hK];exact l2,l3⟩) (fun x hx=> ?_) (fun x hx=> ?_) (by simp [hiv,hid,Hh]) (by show [Runner,cO,ey].Nodup;decide) (fun x hx j hj=> ?_)
  ·simp only [List.mem_cons,List.not_mem_nil,or_false] at yn
   rcases yn with rfl | rfl | rfl
   ·exact .inl ⟨_,List.mem_cons_self,e1 i hid⟩
   ·exact .inl ⟨_,List.mem_cons_of_mem _ List.mem_cons_self,e1 v Hh⟩
   ·exact .inr ⟨u,rfl,rfl⟩
  ·simp only [List.mem_cons,List.not_mem_nil,or_false] at hx
   rcases hx with rfl | rfl | rfl
   ·refine ⟨by rw [e1 i hid];exact o1.new,o1.ty,?_,Mw haok rfl⟩
    rw [e1 i hid]
    show aV w2 (β i) Runner #[.slice (some ⟨bC v,aQ,none⟩) n' c',a.leaf bC,.slice (some ⟨bC d2,0,none⟩) un uc]
    rw [e1 v Hh,e2,hag]
    exact Ka
   ·exact ⟨by rw [e1 v Hh];exact o2.new,o2.ty,by rw [e1 v Hh,ah];exact yn,aZ (gL.all (aL B))⟩
   ·refine ⟨?_,by rw [hK];rfl,by rw [e2,ah];exact hu',aZ (by have:=tJ.all (dk B);exact this)⟩
    rw [e2]
    rcases hbn with h | h
    ·exact C.rH _ _ (by omega) (by have:=C.ez _ a2;omega)
    ·rw [h];exact C.Cl u d2 _ o4.new (by omega)
  ·simp only [List.mem_cons,List.not_mem_nil,or_false] at hx
   rcases hx with rfl | rfl | rfl
   ·exact .inl ⟨by rw [h1];simp,by simpa using fun h=>hiu h.symm,ic,e1 i hid⟩
   ·exact .inl ⟨by rw [h2];simp,by simpa using fun h=>hvu h.symm,ji,e1 v Hh⟩
   ·exact .inr ⟨.inl h3,hd2,hbn.imp (fun h=>by rw [e2];exact h) (fun h=>⟨u,rfl,by rw [e2];exact h⟩)⟩
  ·simp only [List.mem_cons,List.not_mem_nil,or_false] at hx
   rcases hx with rfl | rfl | rfl
   ·rcases xX hj with h | h | h
    ·exact .inl (by simp [h])
    ·exact .inr ⟨(gv j h).1,by simpa using fun h2=>(gv j h).2 h2.symm⟩
    ·exact .inl (by have:j=d2:=by simpa [AV.cL] using h
                    simp [this])
   ·rw [ao] at hj;cases hj
   ·rw [ao] at hj;cases hj
end
end Go.Proofs.YtabalinjfgcfeaaGreat
set_option maxRecDepth 4000
namespace Go.Proofs.YtabalinjfgcfeaaGreat
open Go.RowKit
attribute [local irreducible] aA VS
theorem tK {D:Nat}:∀ {q:List Vq} {m:Rat},(∀ p∈q,Iz D p.2∧0≤p.2)→Iz D m→0≤m→Iz D (rh q m)∧0≤rh q m∧rh q m≤m
 | [],m,_,_,hm=>⟨Iz.zero,Rat.le_refl,hm⟩
 | p::q,m,h,hI,hm=>by
   obtain ⟨p1,p2⟩:=h p (by simp)
   have hq:∀ x∈q,Iz D x.2∧0≤x.2:=fun x hx=>h x (by simp [hx])
   have uW:=cQ p.2 m
   have lU:0≤ai p.2 m:=by rcases uW with ⟨e,_⟩ | ⟨e,_⟩ <;> rw [e] <;> assumption
   have pJ:Iz D (ai p.2 m):=by rcases uW with ⟨e,_⟩ | ⟨e,_⟩ <;> rw [e] <;> assumption
   have vN:=bR p.2 m
   by_cases h0:0 < m
   ·by_cases hz:p.2 - ai p.2 m=0
    ·obtain ⟨_,_,e3⟩:=fR (y:=0) (p:=p) (q:=q) h0 hz
     obtain ⟨i1,i2,i3⟩:=tK (m:=m - ai p.2 m) hq (hI.sub pJ) (by grind)
     rw [e3]
     exact ⟨pJ.add i1,by grind,by grind⟩
    ·obtain ⟨_,_,_,e3⟩:=fQ (y:=0) (p:=p) (q:=q) h0 hz
     rw [e3]
     exact ⟨pJ,lU,vN⟩
   ·rw [gA _ h0]
    exact ⟨Iz.zero,Rat.le_refl,hm⟩
theorem My {D:Nat} {M:Rat}:∀ {q:List Vq} {m:Rat},(∀ p∈q,Iz D p.2∧0≤p.2∧p.2≤M)→Iz D m→0≤m→∀ p∈ld q m,Iz D p.2∧0≤p.2∧p.2≤M∧∃ p'∈q,p'.1=p.1
 | [],m,_,_,_,p,hp=>by cases hp
 | x::q,m,h,hI,hm,p,hp=>by
   obtain ⟨p1,p2,p3⟩:=h x (by simp)
   have hq:∀ x∈q,Iz D x.2∧0≤x.2∧x.2≤M:=fun x hx=>h x (by simp [hx])
   have uW:=cQ x.2 m
   have lU:0≤ai x.2 m:=by rcases uW with ⟨e,_⟩ | ⟨e,_⟩ <;> rw [e] <;> assumption
   have pJ:Iz D (ai x.2 m):=by rcases uW with ⟨e,_⟩ | ⟨e,_⟩ <;> rw [e] <;> assumption
   have vN:=bR x.2 m
   have zz:=dh x.2 m
   by_cases h0:0 < m
   ·by_cases hz:x.2 - ai x.2 m=0
    ·obtain ⟨_,e2,_⟩:=fR (y:=0) (p:=x) (q:=q) h0 hz
     rw [e2] at hp
     obtain ⟨i1,i2,i3,p',i4,i5⟩:=My (m:=m - ai x.2 m) hq (hI.sub pJ) (by grind) p hp
     exact ⟨i1,i2,i3,p',by simp [i4],i5⟩
    ·obtain ⟨_,_,e2,_⟩:=fQ (y:=0) (p:=x) (q:=q) h0 hz
     rw [e2] at hp
     rcases List.mem_cons.1 hp with rfl | hp
     ·exact ⟨p1.sub pJ,by show 0≤x.2 - ai x.2 m;grind,by show x.2 - ai x.2 m≤M;grind,x,by simp,rfl⟩
     ·obtain ⟨a,b,c⟩:=hq p hp
      exact ⟨a,b,c,p,by simp [hp],rfl⟩
   ·rw [fP _ h0] at hp
    obtain ⟨a,b,c⟩:=h p hp
    exact ⟨a,b,c,p,hp,rfl⟩
theorem xY (y:Nat):∀ (q:List Vq) (m:Rat),(nW y q m).length + (ld q m).length≤q.length + 1∧(ld q m).length≤q.length
 | [],_=>⟨Nat.zero_le _,Nat.le_refl _⟩
 | p::q,m=>by
   by_cases h0:0 < m
   ·by_cases hz:p.2 - ai p.2 m=0
    ·obtain ⟨e1,e2,_⟩:=fR (y:=y) (p:=p) (q:=q) h0 hz
     have:=xY y q (m - ai p.2 m)
     rw [e1,e2,List.length_cons,List.length_cons];omega
    ·obtain ⟨_,e1,e2,_⟩:=fQ (y:=y) (p:=p) (q:=q) h0 hz
     rw [e1,e2];simp;omega
   ·rw [gz y _ h0,fP _ h0];simp
structure xZ (D:Nat) (M:Rat) (s:DC):Prop where
 el:∀ p∈s.q,Iz D p.2∧0≤p.2∧p.2≤M + M∧p.1 < s.rows.length
 len:s.uses.length + s.q.length≤2 * s.rows.length
theorem exp_len (keep n:Nat) (s:DC):(se keep n s).rows.length=s.rows.length∧(se keep n s).uses=s.uses∧(se keep n s).q.length≤s.q.length∧∀ p∈(se keep n s).q,p∈s.q:=by
 unfold se
 split
 ·rename_i p q hq
  split
  ·exact ⟨List.length_modify ..,rfl,by rw [hq];simp,fun x hx=>by rw [hq];exact List.mem_cons_of_mem _ hx⟩
  ·exact ⟨rfl,rfl,Nat.le_refl _,fun x hx=>hx⟩
 ·exact ⟨rfl,rfl,Nat.le_refl _,fun x hx=>hx⟩
theorem sx {D:Nat} {M L x:Rat} (hL:Iz D L) (hL0:0≤L) (Eo:L≤M) (hx:Iz D x) (gB: -M≤x) (Ep:x≤M):
  Iz D (ai x L)∧-M≤ai x L∧ai x L≤M∧Iz D (x - ai x L)∧0≤x - ai x L∧x - ai x L≤M + M∧Iz D (L - ai x L)∧0≤L - ai x L∧L - ai x L≤M + M:=by
 rcases cQ x L with ⟨e,h⟩ | ⟨e,h⟩ <;> rw [e]
 ·exact ⟨hx,gB,Ep,hx.sub hx,by grind,by grind,hL.sub hx,by grind,by grind⟩
 ·exact ⟨hL,by grind,Eo,hx.sub hL,by grind,by grind,hL.sub hL,by grind,by grind⟩
theorem Hj {D:Nat} {M S F:Rat} {keep:Nat} {s:DC} {e:Rat×Rat} (h:xZ D M s) (hL:Iz D (aD S F e.2)) (Eo:aD S F e.2≤M) (hx:Iz D e.1) (gB: -M≤e.1) (Ep:e.1≤M):xZ D M (di S F keep s.rows.length s e)∧(di S F keep s.rows.length s e).rows.length=s.rows.length + 1:=by
 obtain ⟨g1,g2,g3,g4,g5,g6,g7,g8,g9⟩:=sx hL (pH S F e.2) Eo hx gB Ep
 unfold di
 obtain ⟨e1,e2,e3,e4⟩:=exp_len keep s.rows.length ⟨kG s.rows.length (dz S F s.q e).bW (ld s.q (aD S F e.2 - ai e.1 (aD S F e.2))),s.rows++[dz S F s.q e],s.uses++nW s.rows.length s.q (aD S F e.2 - ai e.1 (aD S F e.2))⟩
 obtain ⟨u1,u2⟩:=xY s.rows.length s.q (aD S F e.2 - ai e.1 (aD S F e.2))
 have hl:(s.rows++[dz S F s.q e]).length=s.rows.length + 1:=by rw [List.length_append];rfl
 have hput:(kG s.rows.length (dz S F s.q e).bW (ld s.q (aD S F e.2 - ai e.1 (aD S F e.2)))).length≤(ld s.q (aD S F e.2 - ai e.1 (aD S F e.2))).length + 1:=by
  unfold kG;split
  ·rw [List.length_append];exact Nat.le_refl _
  ·omega
 refine ⟨⟨fun p hp=> ?_,?_⟩,by rw [e1];exact hl⟩
 ·rw [e1,hl]
  have hp':=e4 p hp
  have key:p∈ld s.q (aD S F e.2 - ai e.1 (aD S F e.2))∨p=(s.rows.length,e.1 - ai e.1 (aD S F e.2)):=by
   unfold kG at hp'
   dsimp only at hp'
   split at hp'
   ·rcases List.mem_append.1 hp' with h | h
    ·exact .inl h
    ·exact .inr (List.mem_singleton.1 h)
   ·exact .inl hp'
  rcases key with hk | rfl
  ·obtain ⟨a,b,c,p',d1,d2⟩:=My (fun p hp=>⟨(h.el p hp).1,(h.el p hp).2.1,(h.el p hp).2.2.1⟩) g7 g8 p hk
   have:=(h.el p' d1).2.2.2
   exact ⟨a,b,c,by omega⟩
  ·exact ⟨g4,g5,g6,Nat.lt_succ_self _⟩
 ·rw [e1,e2,hl]
  dsimp only at e3 ⊢
  rw [List.length_append]
  have:=h.len
  omega
def dA (B:Nat) (w:World) (cs:List Value) (r:aM):Prop:=
 ∃ a b c d e f g,cs=a++(b++(c++(d++(e++(f++g)))))∧R4 B w a r.eb∧R4 B w b r.allowed∧R4 B w c r.bW∧R4 B w d r.used∧R4 B w e r.bL∧R4 B w f r.bl∧R4 B w g r.closing
theorem R4.len {B:Nat} {w:World} {cs:List Value} {q:Rat} (h:R4 B w cs q):cs.length=4:=by obtain ⟨s,p,n,c,t,r,m,d,rfl,_⟩:=h;rfl
theorem R4.ok {B:Nat} {w:World} {cs:List Value} {q:Rat} (h:R4 B w cs q):cs.all aR=true:=by obtain ⟨s,p,n,c,t,r,m,d,rfl,_⟩:=h;rfl
theorem aB (B:Nat):mZ (dA B) 28 where
 kp:=fun h k=>by
  obtain ⟨a,b,c,d,e,f,g,h0,h1,h2,h3,h4,h5,h6,h7⟩:=h
  exact ⟨a,b,c,d,e,f,g,h0,h1.kp k,h2.kp k,h3.kp k,h4.kp k,h5.kp k,h6.kp k,h7.kp k⟩
 len:=fun h=>by
  obtain ⟨a,b,c,d,e,f,g,rfl,h1,h2,h3,h4,h5,h6,h7⟩:=h
  simp [h1.len,h2.len,h3.len,h4.len,h5.len,h6.len,h7.len]
 ok:=fun h=>by
  obtain ⟨a,b,c,d,e,f,g,rfl,h1,h2,h3,h4,h5,h6,h7⟩:=h
  simp only [List.all_append,h1.ok,h2.ok,h3.ok,h4.ok,h5.ok,h6.ok,h7.ok,Bool.and_self]
structure nM {α:Type} (E:World→List Value→α→Prop) (sz:Nat) (w:World) (n c:Nat) (vs:List (List Value)) (sp:List AV) (es:List α):Prop where
 len:n=es.length
 el:cM E w es vs
 so:sp.all aG=true
 sl:ay sp=[]
 le:n≤c
 cm:c≤9223372036854775807
 fl:(vs.flatten.map AV.val++sp).length=c * sz
theorem nM.kp {α:Type} {E:World→List Value→α→Prop} {sz n c:Nat} (hE:mZ E sz) {w w':World} {vs:List (List Value)} {sp:List AV} {es:List α} (h:nM E sz w n c vs sp es) (k:Kp UU w w'):nM E sz w' n c vs sp es:=⟨h.len,h.el.kp hE k,h.so,h.sl,h.le,h.cm,h.fl⟩
theorem nM.o {α:Type} {E:World→List Value→α→Prop} {sz n c:Nat} {w:World} {vs:List (List Value)} {sp:List AV} {es:List α} (h:nM E sz w n c vs sp es) (β:Nat→Nat):cX E sz w n 0 c [] vs (sp.map (AV.leaf β)) es:=
 ⟨h.len,.inl rfl,rfl,h.el,cJ h.so,h.le,h.cm,by have:=h.fl;rw [List.length_append,List.length_map] at this;rw [List.length_append,List.length_map];exact this⟩
theorem cX.a {α:Type} {E:World→List Value→α→Prop} {sz n c:Nat} {w:World} {vs:List (List Value)} {sp:List Value} {es:List α} (h:cX E sz w n 0 c [] vs sp es):nM E sz w n c vs (sp.map .val) es:=
 ⟨h.len,h.el,aZ h.so,ao _,h.le,h.cm,by rw [←List.map_append,List.length_map];exact h.fl⟩
theorem cW {vs:List (List Value)} {sz:Nat} (h:∀ x∈vs,x.length=sz):vs.flatten.length=vs.length * sz:=by
 induction vs with
 | nil=>simp
 | cons x vs ih=>rw [List.flatten_cons,List.length_append,h x (by simp),ih (fun y hy=>h y (by simp [hy])),List.length_cons,Nat.add_mul];omega
theorem JC {vs:List (List Value)} {sz i o:Nat} {x new:List Value} {sp:List AV} (h:∀ x∈vs,x.length=sz) (hi:vs[i]? =some x) (ho:o + new.length≤sz):
  (vs.flatten.map AV.val++sp).take (i * sz + o)++(new.map AV.val++(vs.flatten.map AV.val++sp).drop (i * sz + o + new.length))=(vs.set i (x.take o++(new++x.drop (o + new.length)))).flatten.map AV.val++sp:=by
 obtain ⟨hlt,hx⟩:=List.getElem?_eq_some_iff.1 hi
 have yK:vs=vs.take i++x::vs.drop (i + 1):=by rw [←hx,←List.drop_eq_getElem_cons hlt,List.take_append_drop]
 have ew:x.length=sz:=h x (List.mem_of_getElem? hi)
 have hal:(vs.take i).flatten.length=i * sz:=by
  rw [cW (fun y hy=>h y (List.mem_of_mem_take hy)),List.length_take,Nat.min_eq_left (by omega)]
 have hset:vs.set i (x.take o++(new++x.drop (o + new.length)))=vs.take i++(x.take o++(new++x.drop (o + new.length)))::vs.drop (i + 1):=by rw [List.set_eq_take_append_cons_drop,if_pos hlt]
 rw [hset]
 conv=>lhs;rw [yK]
 generalize (vs.take i)=A at *
 generalize (vs.drop (i + 1))=C at *
 have e1:((A++x::C).flatten.map AV.val++sp)=(A.flatten.map AV.val)++((x.map AV.val)++(C.flatten.map AV.val++sp)):=by simp
 have hA:(A.flatten.map AV.val).length=i * sz:=by rw [List.length_map];exact hal
 rw [e1,←hA,Nat.add_assoc,List.take_length_add_append,List.drop_length_add_append,List.take_append_of_le_length (by rw [List.length_map];omega),List.drop_append_of_le_length (by rw [List.length_map];omega)]
 simp
theorem cM.set {α:Type} {E:World→List Value→α→Prop} {w:World}:∀ {es:List α} {vs:List (List Value)} {i:Nat} {a:α} {cs:List Value},cM E w es vs→E w cs a→cM E w (es.set i a) (vs.set i cs)
 | _,_,i,_,_,.nil,_=>.nil
 | _,_,0,_,_,.cons _ h2,h=>.cons h h2
 | _,_,i + 1,_,_,.cons h1 h2,h=>.cons h1 (cM.set h2 h)
theorem gM {l:List aM} {i:Nat} {r:aM} {f:aM→aM} (h:l[i]? =some r):l.modify i f=l.set i (f r):=by
 apply List.ext_getElem?
 intro j
 by_cases e:i=j
 ·subst e
  rw [uH rfl,List.getElem?_set,if_pos rfl,if_pos (List.getElem?_eq_some_iff.1 h).1,h];rfl
 ·rw [qm e,List.getElem?_set,if_neg e]
def SlE {α:Type} (E:World→List Value→α→Prop) (sz:Nat) (t:TypeId) (w:World) (b:Nat) (v:Value) (es:List α):Prop:=
 ∃ off n c pre vs spare,v=.slice (some ⟨b,off,none⟩) n c∧aV w b t (pre++(vs.flatten++spare)).toArray∧cX E sz w n off c pre vs spare es
def SlZ {α:Type} (E:World→List Value→α→Prop) (sz:Nat) (t:TypeId) (w:World) (b:Nat) (v:Value) (es:List α):Prop:=
 ∃ n c vs spare,v=.slice (some ⟨b,0,none⟩) n c∧aV w b t (vs.flatten++spare).toArray∧cX E sz w n 0 c [] vs spare es
def nA (B:Nat) (w:World) (g:Nat) (ad:List Nat) (s:DC):Prop:=(∀ b∈ad,B≤b)∧∃ v r u,aV w g Runner #[v,r,u]∧
 ((ad=[g]∧v=.slice none 0 0∧r=.slice none 0 0∧u=.slice none 0 0∧s.q=[]∧s.rows=[]∧s.uses=[])∨
  (∃ rb,ad=[g,rb]∧v=.slice none 0 0∧u=.slice none 0 0∧s.q=[]∧s.uses=[]∧SlZ (dA B) 28 dM w rb r s.rows)∨
  (∃ vb rb,ad=[g,vb,rb]∧u=.slice none 0 0∧s.uses=[]∧SlE (cG B) 5 cO w vb v s.q∧SlZ (dA B) 28 dM w rb r s.rows)∨
  (∃ vb rb ub,ad=[g,vb,rb,ub]∧SlE (cG B) 5 cO w vb v s.q∧SlZ (dA B) 28 dM w rb r s.rows∧SlZ (nK B) 6 ey w ub u s.uses))
def FP (w:World) (v:Value) (S F:Rat) (keep:Int) (ks:Nat):Prop:=∃ s p n c t y m d s' p' n' c' t' y' m' d',v=.agg #[.bool s,.slice p n c,.bool t,.slice y m d,.bool s',.slice p' n' c',.bool t',.slice y' m' d',.int .i64 keep]∧
 bO w (.agg #[.bool s,.slice p n c,.bool t,.slice y m d]) S ks∧bO w (.agg #[.bool s',.slice p' n' c',.bool t',.slice y' m' d']) F ks
def YrV (w:World) (v:Value) (e:Rat×Rat) (ks:Nat):Prop:=∃ s p n c t y m d s' p' n' c' t' y' m' d',v=.agg #[.bool s,.slice p n c,.bool t,.slice y m d,.bool s',.slice p' n' c',.bool t',.slice y' m' d']∧
 bO w (.agg #[.bool s,.slice p n c,.bool t,.slice y m d]) e.1 ks∧bO w (.agg #[.bool s',.slice p' n' c',.bool t',.slice y' m' d']) e.2 ks
theorem bO.up {w:World} {v:Value} {q:Rat} {j k:Nat} (h:bO w v q j) (hk:j≤k):bO w v q k:=by
 obtain ⟨s,xs,t,ys,h1,h2,h3,h4⟩:=h
 exact ⟨s,xs,t,ys,h1,h2,Nat.le_trans h3 hk,Nat.le_trans h4 hk⟩
set_option maxRecDepth 4000 in
theorem np (v u:Value) (S F:Rat) (keep:Int) (e:Rat×Rat) (ks:Nat) (w:World) (hv:FP w v S F keep ks) (hu:YrV w u e ks) (Ay:1≤ks) (hk:ks≤100000):
  Calls Tryz.prog 70 #[v,u] w fun o w'=>∃ x,o=.returned x∧aK w' w.heap.size x (aD S F e.2)∧aj w w':=by
 obtain ⟨sS,pS,nS,cS,tS,yS,mS,dS,sF,pF,nF,cF,tF,yF,mF,dF,rfl,hS,hF⟩:=hv
 obtain ⟨sN,pN,nN,cN,tN,yN,mN,dN,sE,pE,nE,cE,tE,yE,mE,dE,rfl,hN,hE⟩:=hu
 refine aw (C:=bP Tryz.prog w _) (args:=[_,_]) Tryz.func70 rfl Tryz.ntmps70 (Nat.le_of_ble_eq_true rfl) ?_
 (repeat first|refine wN ?_|refine wP rfl ?_|refine aa rfl ?_|refine ab rfl ?_|refine wO rfl rfl ?_)
 refine VO.call rfl rfl (fk Tryz.func105) (fun cB eu dt=>(FD _ _ S e.2 ks ks cB (hS.k) (hE.k) (by omega) (by omega)).mono ?_)
 rintro e w1 ⟨r1,rfl,q1,aU⟩
 obtain ⟨s1,p1,n1,c1,t1,y1,m1,d1,rfl⟩:=q1.form
 refine ⟨_,rfl,aU,fun fq _ bb1=>wV rfl ?_⟩
 (repeat first|refine wN ?_|refine wP rfl ?_|refine aa rfl ?_|refine ab rfl ?_|refine wO rfl rfl ?_)
 have z1:=(hS.sz Ay).mul (hE.sz Ay)
 refine VO.call rfl rfl (fk Tryz.func44) (fun dR gS eW=>(bF 0 dR (by omega) (by omega)).mono ?_)
 rintro e w2 ⟨r2,rfl,q2,bn⟩
 obtain ⟨s2,p2,n2,c2,t2,y2,m2,d2,rfl⟩:=q2.form
 refine ⟨_,rfl,bn,fun gw _ bb2=>wV rfl ?_⟩
 (repeat first|refine wN ?_|refine wP rfl ?_|refine aa rfl ?_|refine ab rfl ?_|refine wO rfl rfl ?_)
 refine VO.gi rfl (fk Tryz.func104) (fun gY β iD jd ho=>((FF _ _ F [S * e.2,0] (ks + ks) gY ((hF.k).up (by omega)) (eE (ho.own 13 (.base (List.mem_singleton.2 rfl)) _ _ rfl) [] (vs:=[[.bool s1,.slice p1 n1 c1,.bool t1,.slice y1 m1 d1],[.bool s2,.slice p2 n2 c2,.bool t2,.slice y2 m2 d2]]) (by rfl) rfl (cD.cons (q1.ki z1) (cD.cons (q2.ki (fo.zero.mono (show 1≤ks + ks by omega))) cD.nil)) (Nat.le_of_ble_eq_true rfl) (by decide)) (by omega) (Nat.le_of_ble_eq_true rfl)).mono (fun o w2 h=>And.intro h jd.size)).mono ?_)
 rintro o w3 ⟨⟨r3,rfl,q3,z3,cI⟩,yO⟩
 obtain ⟨s3,p3,n3,c3,t3,y3,m3,d3,rfl⟩:=q3.form
 refine ⟨_,rfl,cI,fun kS _ bb3=>wV rfl ?_⟩
 (repeat first|refine wN ?_|refine wP rfl ?_|refine aa rfl ?_|refine ab rfl ?_|refine wO rfl rfl ?_)
 refine VS.ret (aJ _ _) rfl rfl (fun wz kz bz=> ?_)
 exact ⟨_,rfl,(q3.mono yO).k,bz⟩
end Go.Proofs.YtabalinjfgcfeaaGreat
set_option maxRecDepth 4000
namespace Go.Proofs.YtabalinjfgcfeaaGreat
open Go.RowKit
attribute [local irreducible] aA VS
theorem ff {B N i g:Nat} {ad:List Nat} {w:World} (hB:B≤w.heap.size) (had:∀ b∈ad,B≤b) (h:cA N ad w i g):B≤g:=by
 rcases eO h with h | h
 ·omega
 ·exact had g h
theorem km {vs:List (List Value)} {sz i o:Nat} {x new:List Value} {sp:List AV} (h:∀ x∈vs,x.length=sz) (hi:vs[i]? =some x) (ho:o + new.length≤sz):
  (vs.flatten.map AV.val++sp).take (0 + ((i:Nat):Int).toNat * sz + o)++(new.map AV.val++(vs.flatten.map AV.val++sp).drop (0 + ((i:Nat):Int).toNat * sz + o + new.length))=(vs.set i (x.take o++(new++x.drop (o + new.length)))).flatten.map AV.val++sp:=by
 rw [Int.toNat_natCast,Nat.zero_add]
 exact JC h hi ho
theorem oY {B:Nat} {w:World} {cs new:List Value} {r:aM} {x:Rat} (h:dA B w cs r) (hx:R4 B w new x):dA B w (cs.take 20++(new++cs.drop (20 + new.length))) { r with bl:=x }:=by
 obtain ⟨a,b,c,d,e,f,g,rfl,h1,h2,h3,h4,h5,h6,h7⟩:=h
 refine ⟨a,b,c,d,e,new,g,?_,h1,h2,h3,h4,h5,hx,h7⟩
 have l1:=h1.len
 have l2:=h2.len
 have l3:=h3.len
 have l4:=h4.len
 have l5:=h5.len
 have l6:=h6.len
 rw [hx.len]
 have e1:a++(b++(c++(d++(e++(f++g)))))=(a++b++c++d++e)++(f++g):=by simp
 have e2:(a++b++c++d++e).length=20:=by simp [l1,l2,l3,l4,l5]
 have e3:a++(b++(c++(d++(e++(f++g)))))=(a++b++c++d++e++f)++g:=by simp
 have e4:(a++b++c++d++e++f).length=24:=by simp [l1,l2,l3,l4,l5,l6]
 have t1:(a++(b++(c++(d++(e++(f++g)))))).take 20=a++b++c++d++e:=by rw [e1,←e2,List.take_left'];rfl
 have t2:(a++(b++(c++(d++(e++(f++g)))))).drop 24=g:=by rw [e3,←e4,List.drop_left'];rfl
 rw [t1,t2]
 simp
theorem sA {cs new:List Value} (h:cs.length=28) (hn:new.length=4):(cs.take 20++(new++cs.drop (20 + new.length))).length=28:=by
 rw [List.length_append,List.length_append,List.length_take,List.length_drop,h,hn];rfl
theorem ko {vs:List (List Value)} {sz i:Nat} {x:List Value} (h:∀ y∈vs,y.length=sz) (hx:x.length=sz):∀ y∈vs.set i x,y.length=sz:=fun y hy=>by
 rcases List.mem_or_eq_of_mem_set hy with e | e
 ·exact h y e
 ·rw [e];exact hx
set_option maxRecDepth 4000 in
set_option maxHeartbeats 16000000 in
theorem iYear_A {B g keep D kk ks:Nat} {M S F:Rat} {e:Rat×Rat} {q:List Vq} {rows:List aM} {uses:List Uq} {v u:Value} {w:World} (hg:aV w g Runner #[.slice none 0 0,.slice none 0 0,.slice none 0 0])
  (ve:FP w v S F keep ks) (Kc:YrV w u e ks) (sB:1≤ks) (yP:ks≤kk) (zG:kk≤100000) (zN:Iz D (aD S F e.2)) (Eo:aD S F e.2≤M) (Kd:Iz D e.1) (gB: -M≤e.1) (Ep:e.1≤M) (hK:∀ x,Iz D x→-(M + M)≤x→x≤M + M→fo x kk)
  (vX:xZ D M ⟨[],[],[]⟩) (uK:([]:List aM).length≤64) (uL:keep≤40) (hB:B≤w.heap.size) (dT:∀ b∈[g],B≤b):
  Calls Tryz.prog 39 #[.pointer (some ⟨g,0,none⟩),v,.int .i64 (([]:List aM).length:Int),u] w fun o w'=>o=.returned (iC [])∧qJ [g] w w'∧∃ Mz,nA B w' g Mz (di S F keep ([]:List aM).length ⟨[],[],[]⟩ e):=by
 have hL0:=pH S F e.2
 have hM0:0≤M:=by grind
 obtain ⟨g1,g2,g3,g4,g5,g6,g7,g8,g9⟩:=sx zN hL0 Eo Kd gB Ep
 have zO:B≤g:=dT g (by simp)
 have hlen:=vX.len
 obtain ⟨sS,pS,nS,cS,tS,yS,mS,dS,sF,pF,nF,cF,tF,yF,mF,dF,rfl,hS,hF⟩:=ve
 obtain ⟨sN,pN,nN,cN,tN,yN,mN,dN,sE,pE,nE,cE,tE,yE,mE,dE,rfl,hN,hE⟩:=Kc
 have pX:iI (KU UU) 99 [g] [(Runner,[.val (.slice none 0 0),.val (.slice none 0 0),.val (.slice none 0 0)])] w:=by
  refine ⟨rfl,by simp,fun j g' c' hj hc=> ?_,fun c' hc=> ?_,fun c' hc k hk=> ?_⟩
  ·match j,hj,hc with
   | 0,hj,hc=>cases hj;cases hc;exact hg
   | j + 1,hj,_=>simp at hj
  ·simp only [List.mem_cons,List.not_mem_nil,or_false] at hc
   subst hc
   exact ⟨rfl,rfl⟩
  ·simp only [List.mem_cons,List.not_mem_nil,or_false] at hc
   subst hc
   cases hk
 refine dZ Tryz.prog w _ (KU UU) (fun t=>Nat.beq t 22) table (fun _ _=>trivial) (ad:=[g]) (us:=[_,_,_]) Tryz.func39 rfl Tryz.ntmps39 (Nat.le_of_ble_eq_true rfl) pX (Nat.le_of_ble_eq_true rfl) ?_
 (repeat first|refine wN ?_|refine wP rfl ?_|refine af rfl ?_|refine ag rfl ?_|refine wO rfl rfl ?_)
 refine VO.call rfl rfl (fk Tryz.func70) (fun cB eu dt=>((np _ _ S F keep e ks cB ⟨_,_,_,_,_,_,_,_,_,_,_,_,_,_,_,_,rfl,hS.k,hF.k⟩ ⟨_,_,_,_,_,_,_,_,_,_,_,_,_,_,_,_,rfl,hN.k,hE.k⟩ sB (by omega)).mono (fun o w2 h=>And.intro h dt.1.size)).mono ?_)
 rintro o w1 ⟨⟨r1,rfl,q1,aU⟩,FQ⟩
 obtain ⟨s1,p1,n1,c1,t1,y1,m1,d1,rfl⟩:=q1.form
 refine ⟨_,rfl,aU,fun fq _ bb1=>wV rfl ?_⟩
 replace q1:=q1.mono (Nat.le_trans hB FQ)
 (repeat first|refine wN ?_|refine wP rfl ?_|refine af rfl ?_|refine ag rfl ?_|refine wO rfl rfl ?_)
 refine VO.call rfl rfl (fk Tryz.func44) (fun dR gS eW=>((bF 0 dR (by omega) (by omega)).mono (fun o w2 h=>And.intro h eW.1.size)).mono ?_)
 rintro o w2 ⟨⟨r2,rfl,q2,bn⟩,qU⟩
 obtain ⟨s2,p2,n2,c2,t2,y2,m2,d2,rfl⟩:=q2.form
 refine ⟨_,rfl,bn,fun gw _ bb2=>wV rfl ?_⟩
 replace q2:=q2.mono (Nat.le_trans hB qU)
 (repeat first|refine wN ?_|refine wP rfl ?_|refine af rfl ?_|refine ag rfl ?_|refine wO rfl rfl ?_)
 refine VO.call rfl rfl (fk Tryz.func44) (fun gY iD jd=>((bF 0 gY (by omega) (by omega)).mono (fun o w2 h=>And.intro h jd.1.size)).mono ?_)
 rintro o w3 ⟨⟨r3,rfl,q3,cI⟩,yO⟩
 obtain ⟨s3,p3,n3,c3,t3,y3,m3,d3,rfl⟩:=q3.form
 refine ⟨_,rfl,cI,fun kS _ bb3=>wV rfl ?_⟩
 replace q3:=q3.mono (Nat.le_trans hB yO)
 (repeat first|refine wN ?_|refine wP rfl ?_|refine af rfl ?_|refine ag rfl ?_|refine wO rfl rfl ?_)
 refine VO.gi rfl (fk Tryz.func71) (fun mW β pV nI ho=>((fO _ _ e.1 [aD S F e.2] kk mW ((hN.k).up (by omega)) (eE (ho.own 20 (.base (List.mem_singleton.2 rfl)) _ _ rfl) [] (vs:=[[.bool s1,.slice p1 n1 c1,.bool t1,.slice y1 m1 d1]]) (by rfl) rfl (cD.cons (q1.ki (hK _ zN (by grind) (by grind))) cD.nil) (Nat.le_of_ble_eq_true rfl) (by decide)) (by omega) (Nat.le_of_ble_eq_true rfl)).mono (fun o w2 h=>And.intro h nI.1.size)).mono ?_)
 rintro o w4 ⟨⟨r4,rfl,q4,z4,gI⟩,DK⟩
 rw [gV] at q4
 obtain ⟨s4,p4,n4,c4,t4,y4,m4,d4,rfl⟩:=q4.form
 refine ⟨_,rfl,gI,fun oL _ AM=>wV rfl ?_⟩
 replace q4:=q4.mono (Nat.le_trans hB DK)
 (repeat first|refine wN ?_|refine wP rfl ?_|refine af rfl ?_|refine ag rfl ?_|refine wO rfl rfl ?_)
 refine VO.call rfl rfl (fk Tryz.func72) (fun jK mD jy=>((ck _ _ e.1 (ai e.1 (aD S F e.2)) kk kk jK ((hN.k).up (by omega)) (q4.ki (hK _ g1 (by grind) (by grind))) (by omega) (by omega)).mono (fun o w2 h=>And.intro h jy.1.size)).mono ?_)
 rintro o w5 ⟨⟨r5,rfl,q5,fY⟩,pY⟩
 obtain ⟨s5,p5,n5,c5,t5,y5,m5,d5,rfl⟩:=q5.form
 refine ⟨_,rfl,fY,fun mX _ vQ=>wV rfl ?_⟩
 replace q5:=q5.mono (Nat.le_trans hB pY)
 (repeat first|refine wN ?_|refine wP rfl ?_|refine af rfl ?_|refine ag rfl ?_|refine wO rfl rfl ?_)
 refine VO.call rfl rfl (fk Tryz.func72) (fun pW uC uZ=>((ck _ _ (aD S F e.2) (ai e.1 (aD S F e.2)) kk kk pW (q1.ki (hK _ zN (by grind) (by grind))) (q4.ki (hK _ g1 (by grind) (by grind))) (by omega) (by omega)).mono (fun o w2 h=>And.intro h uZ.1.size)).mono ?_)
 rintro o w6 ⟨⟨r6,rfl,q6,ny⟩,FR⟩
 obtain ⟨s6,p6,n6,c6,t6,y6,m6,d6,rfl⟩:=q6.form
 refine ⟨_,rfl,ny,fun tD _ Dl=>wV rfl ?_⟩
 replace q6:=q6.mono (Nat.le_trans hB FR)
 (repeat first|refine wN ?_|refine wP rfl ?_|refine af rfl ?_|refine ag rfl ?_|refine wO rfl rfl ?_)
 have my:di S F keep ([]:List aM).length ⟨[],[],[]⟩ e=se keep ([]:List aM).length ⟨kG ([]:List aM).length (e.1 - ai e.1 (aD S F e.2)) (ld [] (aD S F e.2 - ai e.1 (aD S F e.2))),[]++[dz S F [] e],[]++nW ([]:List aM).length [] (aD S F e.2 - ai e.1 (aD S F e.2))⟩:=rfl
 refine VO.sw (B:=B) (mm:=aD S F e.2 - ai e.1 (aD S F e.2)) kk rfl rfl (fk Tryz.func73) rfl (fun sX FU Hk=>q6.kr) hB (fun w7 r7 k7 b7 q7=> ?_)
 obtain ⟨s7,p7,n7,c7,t7,y7,m7,d7,rfl⟩:=q7.form
 refine wV rfl ?_
 (repeat first|refine wN ?_|refine wP rfl ?_|refine af rfl ?_|refine ag rfl ?_|refine wO rfl rfl ?_)
 have vf:([]:List Uq)++nW ([]:List aM).length [] (aD S F e.2 - ai e.1 (aD S F e.2))=[]:=rfl
 obtain ⟨u1,u2,u3⟩:=tK (q:=[]) (m:=aD S F e.2 - ai e.1 (aD S F e.2)) (fun p hp=>(by cases hp)) g7 g8
 refine VO.call rfl rfl (fk Tryz.func16) (fun vc Fu yI=>((eT _ _ (ai e.1 (aD S F e.2)) ((0:Rat)) kk kk vc (q4.ki (hK _ g1 (by grind) (by grind))) (q7.ki (hK _ u1 (by grind) (by grind))) (by omega) (by omega)).mono (fun o w2 h=>And.intro h yI.1.size)).mono ?_)
 rintro o w8 ⟨⟨r8,rfl,q8,re⟩,yQ⟩
 obtain ⟨s8,p8,n8,c8,t8,y8,m8,d8,rfl⟩:=q8.form
 refine ⟨_,rfl,re,fun vT _ JZ=>wV rfl ?_⟩
 replace q8:=q8.mono (Nat.le_trans hB yQ)
 (repeat first|refine wN ?_|refine wP rfl ?_|refine af rfl ?_|refine ag rfl ?_|refine wO rfl rfl ?_)
 have Me:((0:Int):Rat)=0:=rfl
 have Bg:dA B w8 [.bool s1,.slice p1 n1 c1,.bool t1,.slice y1 m1 d1,.bool s4,.slice p4 n4 c4,.bool t4,.slice y4 m4 d4,.bool s5,.slice p5 n5 c5,.bool t5,.slice y5 m5 d5,.bool s7,.slice p7 n7 c7,.bool t7,.slice y7 m7 d7,.bool s8,.slice p8 n8 c8,.bool t8,.slice y8 m8 d8,.bool s2,.slice p2 n2 c2,.bool t2,.slice y2 m2 d2,.bool s3,.slice p3 n3 c3,.bool t3,.slice y3 m3 d3] (dz S F [] e):=⟨[.bool s1,.slice p1 n1 c1,.bool t1,.slice y1 m1 d1],[.bool s4,.slice p4 n4 c4,.bool t4,.slice y4 m4 d4],[.bool s5,.slice p5 n5 c5,.bool t5,.slice y5 m5 d5],[.bool s7,.slice p7 n7 c7,.bool t7,.slice y7 m7 d7],[.bool s8,.slice p8 n8 c8,.bool t8,.slice y8 m8 d8],[.bool s2,.slice p2 n2 c2,.bool t2,.slice y2 m2 d2],[.bool s3,.slice p3 n3 c3,.bool t3,.slice y3 m3 d3],rfl,⟨_,_,_,_,_,_,_,_,rfl,q1.k⟩,⟨_,_,_,_,_,_,_,_,rfl,q4.k⟩,⟨_,_,_,_,_,_,_,_,rfl,q5.k⟩,⟨_,_,_,_,_,_,_,_,rfl,q7.k⟩,⟨_,_,_,_,_,_,_,_,rfl,q8.k⟩,⟨_,_,_,_,_,_,_,_,rfl,q2.k⟩,⟨_,_,_,_,_,_,_,_,rfl,q3.k⟩⟩
 refine VO.app (bj _ _) (t:=33) (e:=dM) (sz:=28) (n:=0) (c:=0) (mm:=1) (known:=[]) (spare:=[]) (del:=none) (news:=([.bool s1,.slice p1 n1 c1,.bool t1,.slice y1 m1 d1,.bool s4,.slice p4 n4 c4,.bool t4,.slice y4 m4 d4,.bool s5,.slice p5 n5 c5,.bool t5,.slice y5 m5 d5,.bool s7,.slice p7 n7 c7,.bool t7,.slice y7 m7 d7,.bool s8,.slice p8 n8 c8,.bool t8,.slice y8 m8 d8,.bool s2,.slice p2 n2 c2,.bool t2,.slice y2 m2 d2,.bool s3,.slice p3 n3 c3,.bool t3,.slice y3 m3 d3]:List Value).map .val) (dst:=52) rfl rfl rfl rfl rfl rfl rfl rfl (Nat.le_of_ble_eq_true rfl) rfl (.inl ⟨rfl,rfl,rfl,rfl,rfl,rfl,by omega⟩) (.inl rfl) rfl rfl (Nat.le_refl _) (by omega) ⟨rfl,rfl,rfl⟩ ⟨rfl,rfl,rfl⟩ rfl (by omega)
  (fun w1 β k1 b1 ho=>⟨_,_,rfl,.inr ⟨β 51,0,rfl,cK (rest:=[]) (ho.own 51 (.base (List.mem_append_right _ (List.mem_singleton.2 rfl))) _ _ rfl) rfl⟩⟩)
  (fun oO lK vg ρ Hf Hg fD jh gU ed Bh iA=>wV rfl ?_)
 (repeat (first | refine wN ?_ | refine wP rfl ?_ | refine af rfl ?_ | refine wO rfl rfl ?_))
 obtain ⟨nX,sC⟩:∃ nX,nX=0 + 1:=⟨_,rfl⟩
 obtain ⟨qn,sD⟩:∃ qn,qn=([[.bool s1,.slice p1 n1 c1,.bool t1,.slice y1 m1 d1,.bool s4,.slice p4 n4 c4,.bool t4,.slice y4 m4 d4,.bool s5,.slice p5 n5 c5,.bool t5,.slice y5 m5 d5,.bool s7,.slice p7 n7 c7,.bool t7,.slice y7 m7 d7,.bool s8,.slice p8 n8 c8,.bool t8,.slice y8 m8 d8,.bool s2,.slice p2 n2 c2,.bool t2,.slice y2 m2 d2,.bool s3,.slice p3 n3 c3,.bool t3,.slice y3 m3 d3]]:List (List Value)):=⟨_,rfl⟩
 have ft:nM (dA B) 28 oO nX lK qn vg ([]++[dz S F [] e]):=by rw [sC,sD];exact ⟨rfl,.cons ((aB B).kp Bg (by (with_reducible (repeat (first | assumption | exact kU _ | exact kR _ | exact Kp.of (U:=UU) (by assumption) | exact aF.of (by assumption) | refine kT ?_ (by assumption)))))) .nil,Bh,iA,jh,gU,by simpa using ed⟩
 refine VS.narrow [(0,.box 198 0),(2,.val (.int .i64 (([]:List aM).length:Int))),(5,.box 5 0),(8,.box 8 0)] [(198,(Runner,[.val (.slice none 0 0),.row 52 0 nX lK,.val (.slice none 0 0)])),(52,(dM,qn.flatten.map AV.val++vg)),(5,(28,([.bool sS,.slice pS nS cS,.bool tS,.slice yS mS dS,.bool sF,.slice pF nF cF,.bool tF,.slice yF mF dF,.int .i64 (keep:Int)]:List Value).map AV.val)),(8,(dM,([.bool s1,.slice p1 n1 c1,.bool t1,.slice y1 m1 d1,.bool s4,.slice p4 n4 c4,.bool t4,.slice y4 m4 d4,.bool s5,.slice p5 n5 c5,.bool t5,.slice y5 m5 d5,.bool s7,.slice p7 n7 c7,.bool t7,.slice y7 m7 d7,.bool s8,.slice p8 n8 c8,.bool t8,.slice y8 m8 d8,.bool s2,.slice p2 n2 c2,.bool t2,.slice y2 m2 d2,.bool s3,.slice p3 n3 c3,.bool t3,.slice y3 m3 d3]:List Value).map AV.val))] ⟨rfl,rfl,rfl,rfl,trivial⟩ ⟨by rw [sC];rfl,by rw [sD];rfl,rfl,rfl,trivial⟩ rfl ⟨.lit rfl,.append (.vals _) (.none iA),.vals _,.vals _,trivial⟩ ?_
 refine VS.draw (bj _ _) (jS _ _) [74] (by kernel_rfl) (VO.run 80 rfl ?_)
 refine VO.DG (B:=B) (d2:=62) (d:=e.1 - ai e.1 (aD S F e.2)) kk rfl rfl rfl (fk Tryz.func74) rfl rfl (by show 62 < 2 * 99;omega) (fun j hj=> ?_) (Nat.le_of_ble_eq_true rfl) (fun sX FU Hk=>q5.kr) (hK _ g4 (by grind) (by grind)) zG hB (fun BA k19 b19 Gj=>wV rfl ?_) (fun BA nT Hl Hm k19 b19 Gj fG=>wV rfl ?_)
 ·have:j=52:=by simpa [ay,AV.cL] using hj
  subst this;intro h;cases h
 ·have vB:kG ([]:List aM).length (e.1 - ai e.1 (aD S F e.2)) (ld [] (aD S F e.2 - ai e.1 (aD S F e.2)))=[]:=if_neg Gj
  (repeat first|refine wN ?_|refine wP rfl ?_|refine af rfl ?_|refine ag rfl ?_|refine wO rfl rfl ?_)
  refine VO.cY (x:=.val (.slice none 0 0)) (p:=fun _=>none) (c:=0) rfl (fun β=>.inr ⟨none,rfl⟩) rfl (fk Tryz.func75) rfl (fun Er MA MB=>wV rfl ?_)
  (repeat first|refine wN ?_|refine wP rfl ?_|refine af rfl ?_|refine ag rfl ?_|refine wO rfl rfl ?_)
  have pZ:di S F keep ([]:List aM).length ⟨[],[],[]⟩ e=⟨[],[]++[dz S F [] e],[]⟩:=by rw [my,vB,vf];rfl
  (repeat first|refine wN ?_|refine wP rfl ?_|refine af rfl ?_|refine ag rfl ?_|refine wO rfl rfl ?_)
  refine VS.kF (bj _ _) rfl (fun wz β kz oz en=> ?_)
  obtain ⟨o1,o2⟩:=ea (en.own 198 _ _ rfl) 0 g rfl rfl
  have oR:=(en.own 52 _ _ rfl).cls
  rw [List.map_append,ah] at oR
  have nR:=ff hB dT (show cA 99 [g] w 52 (β 52) from (en.own 52 _ _ rfl).new)
  rw [pZ]
  refine ⟨rfl,oz.1,[g,β 52],⟨fun b hb=> ?_,_,_,_,o2,?_⟩⟩
  ·simp only [List.mem_cons,List.not_mem_nil,or_false] at hb
   rcases hb with rfl | rfl
   ·exact zO
   ·exact nR
  ·exact .inr (.inl ⟨β 52,rfl,rfl,rfl,rfl,rfl,⟨_,_,_,_,rfl,oR,(ft.kp (aB B) (by (with_reducible (repeat (first | assumption | exact kU _ | exact kR _ | exact Kp.of (U:=UU) (by assumption) | exact aF.of (by assumption) | refine kT ?_ (by assumption)))))).o β⟩⟩)
 ·obtain ⟨q2,sG⟩:∃ q2:List Vq,q2=[(([]:List aM).length,e.1 - ai e.1 (aD S F e.2))]:=⟨_,rfl⟩
  rw [←sG] at fG
  have vB:kG ([]:List aM).length (e.1 - ai e.1 (aD S F e.2)) (ld [] (aD S F e.2 - ai e.1 (aD S F e.2)))=q2:=by rw [sG];exact if_pos Gj
  obtain ⟨nz,MC⟩:∃ nz,nz=1:=⟨_,rfl⟩
  obtain ⟨fx,DL⟩:∃ fx,fx=0:=⟨_,rfl⟩
  obtain ⟨kH,DM⟩:∃ kH:List Value,kH=[]:=⟨_,rfl⟩
  have fG:cX (cG B) 5 BA nz fx nT kH Hl Hm q2:=by rw [MC,DL,DM];exact fG
  refine VO.nil ?_
  refine VS.narrow [(0,.box 198 0),(2,.val (.int .i64 (([]:List aM).length:Int))),(5,.box 5 0),(8,.box 8 0)] [(198,(Runner,[.row 62 fx nz nT,.row 52 0 nX lK,.val (.slice none 0 0)])),(52,(dM,qn.flatten.map AV.val++vg)),(5,(28,([.bool sS,.slice pS nS cS,.bool tS,.slice yS mS dS,.bool sF,.slice pF nF cF,.bool tF,.slice yF mF dF,.int .i64 (keep:Int)]:List Value).map AV.val)),(8,(dM,([.bool s1,.slice p1 n1 c1,.bool t1,.slice y1 m1 d1,.bool s4,.slice p4 n4 c4,.bool t4,.slice y4 m4 d4,.bool s5,.slice p5 n5 c5,.bool t5,.slice y5 m5 d5,.bool s7,.slice p7 n7 c7,.bool t7,.slice y7 m7 d7,.bool s8,.slice p8 n8 c8,.bool t8,.slice y8 m8 d8,.bool s2,.slice p2 n2 c2,.bool t2,.slice y2 m2 d2,.bool s3,.slice p3 n3 c3,.bool t3,.slice y3 m3 d3]:List Value).map AV.val)),(62,(cO,(kH++(Hl.flatten++Hm)).map AV.val))] ⟨rfl,rfl,rfl,rfl,trivial⟩ ⟨by rw [DL,MC];rfl,rfl,rfl,rfl,by rw [DM];rfl,trivial⟩ rfl ⟨.lit rfl,.append (.vals _) (.none iA),.vals _,.vals _,.vals _,trivial⟩ ?_
  (repeat first|refine wN ?_|refine wP rfl ?_|refine af rfl ?_|refine ag rfl ?_|refine wO rfl rfl ?_)
  by_cases lN:nz=0
  ·refine VO.cY (x:=.row 62 fx nz nT) (p:=fun _=>none) (c:=nT) rfl (fun β=>.inr ⟨_,congrArg (fun n=>Value.slice (some ⟨β 62,fx,none⟩) n nT) lN⟩) rfl (fk Tryz.func75) rfl (fun Er MA MB=>wV rfl ?_)
   (repeat first|refine wN ?_|refine wP rfl ?_|refine af rfl ?_|refine ag rfl ?_|refine wO rfl rfl ?_)
   have Bi:q2=[]:=List.eq_nil_of_length_eq_zero (by rw [←fG.len];exact lN)
   have pZ:di S F keep ([]:List aM).length ⟨[],[],[]⟩ e=⟨q2,[]++[dz S F [] e],[]⟩:=by rw [my,vB,vf,Bi];rfl
   (repeat first|refine wN ?_|refine wP rfl ?_|refine af rfl ?_|refine ag rfl ?_|refine wO rfl rfl ?_)
   refine VS.kF (bj _ _) rfl (fun wz β kz oz en=> ?_)
   obtain ⟨o1,o2⟩:=ea (en.own 198 _ _ rfl) 0 g rfl rfl
   have oR:=(en.own 52 _ _ rfl).cls
   rw [List.map_append,ah] at oR
   have nR:=ff hB dT (show cA 99 [g] w 52 (β 52) from (en.own 52 _ _ rfl).new)
   have oV:=(en.own 62 _ _ rfl).cls
   rw [ah] at oV
   have nV:=ff hB dT (show cA 99 [g] w 62 (β 62) from (en.own 62 _ _ rfl).new)
   rw [pZ]
   refine ⟨rfl,oz.1,[g,β 62,β 52],⟨fun b hb=> ?_,_,_,_,o2,?_⟩⟩
   ·simp only [List.mem_cons,List.not_mem_nil,or_false] at hb
    rcases hb with rfl | rfl | rfl
    ·exact zO
    ·exact nV
    ·exact nR
   ·exact .inr (.inr (.inl ⟨β 62,β 52,rfl,rfl,rfl,⟨_,_,_,_,_,_,rfl,oV,fG.kp (aL B) (by (with_reducible (repeat (first | assumption | exact kU _ | exact kR _ | exact Kp.of (U:=UU) (by assumption) | exact aF.of (by assumption) | refine kT ?_ (by assumption)))))⟩,⟨_,_,_,_,rfl,oR,(ft.kp (aB B) (by (with_reducible (repeat (first | assumption | exact kU _ | exact kR _ | exact Kp.of (U:=UU) (by assumption) | exact aF.of (by assumption) | refine kT ?_ (by assumption)))))).o β⟩⟩))
  obtain ⟨pp,qt,Bw⟩:∃ pp qt,q2=pp::qt:=by
   cases q2 with
   | nil=>exact absurd fG.len lN
   | cons pp qt=>exact ⟨pp,qt,rfl⟩
  subst Bw
  obtain ⟨Bj,vY,rfl,hE4,sH⟩:∃ Bj vY,Hl=Bj::vY∧cG B BA Bj pp∧cM (cG B) BA qt vY:=by
   have:=fG.el
   cases this with
   | cons h1 h2=>exact ⟨_,_,rfl,h1,h2⟩
  obtain ⟨s9,p9,n9,c9,t9,y9,m9,d9,rfl,JD⟩:=hE4
  have Bk:=fG.le
  have Bl:=fG.len
  have Bm:=fG.cm
  have jN:kH.length=fx:=fG.pl.resolve_right (by omega)
  refine VO.cH rfl rfl (fk Tryz.func75) rfl lN (by intro h;cases h) (fun Er MA MB=>wV rfl ?_)
  (repeat first|refine wN ?_|refine wP rfl ?_|refine af rfl ?_|refine ag rfl ?_|refine wO rfl rfl ?_)
  refine VO.de rfl (([.int .i64 (pp.1:Int)]:List Value).map .val) rfl (bg jN 0 _ ⟨_,rfl⟩) (wV rfl ?_)
  (repeat first|refine wN ?_|refine wP rfl ?_|refine af rfl ?_|refine ag rfl ?_|refine wO rfl rfl ?_)
  have Hn:IntKind.i64.wrap ((([]:List aM).length:Int) - (keep:Int))=(([]:List aM).length:Int) - (keep:Int):=IntWalk.i64_in _ (by omega)
  by_cases hx:pp.1 + keep=([]:List aM).length
  ·refine VS.bG rfl (by rw [Hn,beq_iff_eq];omega) ?_
   (repeat first|refine wN ?_|refine wP rfl ?_|refine af rfl ?_|refine ag rfl ?_|refine wO rfl rfl ?_)
   refine VO.de rfl (([.int .i64 (pp.1:Int)]:List Value).map .val) rfl (bg jN 0 _ ⟨_,rfl⟩) (wV rfl ?_)
   (repeat first|refine wN ?_|refine wP rfl ?_|refine af rfl ?_|refine ag rfl ?_|refine wO rfl rfl ?_)
   refine VO.de rfl (([.bool s9,.slice p9 n9 c9,.bool t9,.slice y9 m9 d9]:List Value).map .val) rfl (bg jN 1 _ ⟨[],rfl⟩) (wV rfl ?_)
   (repeat first|refine wN ?_|refine wP rfl ?_|refine af rfl ?_|refine ag rfl ?_|refine wO rfl rfl ?_)
   have fh:=ft.len
   have zw:pp.1 < nX:=by rw [fh,List.length_append,List.length_singleton];omega
   refine VO.cond rfl ⟨by omega,by omega⟩ (wV rfl ?_)
   obtain ⟨rq,zP⟩:∃ rq,([]++[dz S F [] e])[pp.1]? =some rq:=⟨_,List.getElem?_eq_getElem (by rw [←fh];exact zw)⟩
   obtain ⟨zQ,tL,zR⟩:=ft.el.at pp.1 rq zP
   have gG:=ft.fl
   have JE:=ft.le
   refine VO.cond rfl (by show 0 + ((pp.1:Int)).toNat * 28 + 20 + 4≤_;rw [gG,Int.toNat_natCast];omega) (VO.fu 52 rfl (km (new:=[.bool s9,.slice p9 n9 c9,.bool t9,.slice y9 m9 d9]) (o:=20) (ft.el.lens (aB B)) tL (Nat.le_of_ble_eq_true rfl)) (wV rfl ?_))
   (repeat first|refine wN ?_|refine wP rfl ?_|refine af rfl ?_|refine ag rfl ?_|refine wO rfl rfl ?_)
   have hR3:nM (dA B) 28 Er nX lK (qn.set pp.1 (zQ.take 20++([.bool s9,.slice p9 n9 c9,.bool t9,.slice y9 m9 d9]++zQ.drop (20 + ([.bool s9,.slice p9 n9 c9,.bool t9,.slice y9 m9 d9]:List Value).length)))) vg (([]++[dz S F [] e]).modify pp.1 (fun r=>{ r with bl:=pp.2 })):=
    ⟨by rw [List.length_modify];exact fh,by rw [gM zP];exact (ft.el.kp (aB B) (by (with_reducible (repeat (first | assumption | exact kU _ | exact kR _ | exact Kp.of (U:=UU) (by assumption) | exact aF.of (by assumption) | refine kT ?_ (by assumption)))))).set (oY ((aB B).kp zR (by (with_reducible (repeat (first | assumption | exact kU _ | exact kR _ | exact Kp.of (U:=UU) (by assumption) | exact aF.of (by assumption) | refine kT ?_ (by assumption)))))) ⟨_,_,_,_,_,_,_,_,rfl,JD.kp (by (with_reducible (repeat (first | assumption | exact kU _ | exact kR _ | exact Kp.of (U:=UU) (by assumption) | exact aF.of (by assumption) | refine kT ?_ (by assumption)))))⟩),ft.so,ft.sl,ft.le,ft.cm,by
     rw [List.length_append,List.length_map,cW (ko (ft.el.lens (aB B)) (sA ((aB B).len zR) rfl)),List.length_set]
     rw [List.length_append,List.length_map,cW (ft.el.lens (aB B))] at gG
     exact gG⟩
   refine VO.iz rfl rfl (fk Tryz.func76) rfl (by omega) Bk Bm (fun j hj=> ?_) (Nat.le_of_ble_eq_true rfl) (fun w21 k21 b21=>wV rfl ?_)
   ·simp only [ay,AV.cL,List.flatMap_cons,List.flatMap_nil,List.mem_append,List.mem_cons,List.not_mem_nil,or_false,List.append_nil] at hj
    rcases hj with rfl | rfl <;> (intro h;cases h)
   (repeat first|refine wN ?_|refine wP rfl ?_|refine af rfl ?_|refine ag rfl ?_|refine wO rfl rfl ?_)
   have hV4:cX (cG B) 5 w21 (nz - 1) (if nT=1 then fx else fx + 5) (nT - 1) (kH++[.int .i64 (pp.1:Int),.bool s9,.slice p9 n9 c9,.bool t9,.slice y9 m9 d9]) vY Hm qt:=⟨by rw [Bl];rfl,nj jN,by rw [List.all_append,fG.po];rfl,sH.kp (aL B) (by (with_reducible (repeat (first | assumption | exact kU _ | exact kR _ | exact Kp.of (U:=UU) (by assumption) | exact aF.of (by assumption) | refine kT ?_ (by assumption))))),fG.so,by omega,by omega,nk fG.fl⟩
   have pZ:di S F keep ([]:List aM).length ⟨[],[],[]⟩ e=⟨qt,([]++[dz S F [] e]).modify pp.1 (fun r=>{ r with bl:=pp.2 }),[]⟩:=by
    rw [my,vB,vf]
    exact if_pos hx
   (repeat first|refine wN ?_|refine wP rfl ?_|refine af rfl ?_|refine ag rfl ?_|refine wO rfl rfl ?_)
   refine VS.kF (bj _ _) rfl (fun wz β kz oz en=> ?_)
   obtain ⟨o1,o2⟩:=ea (en.own 198 _ _ rfl) 0 g rfl rfl
   have oR:=(en.own 52 _ _ rfl).cls
   rw [List.map_append,ah] at oR
   have nR:=ff hB dT (show cA 99 [g] w 52 (β 52) from (en.own 52 _ _ rfl).new)
   have oV:=(en.own 62 _ _ rfl).cls
   rw [dG,ah] at oV
   have nV:=ff hB dT (show cA 99 [g] w 62 (β 62) from (en.own 62 _ _ rfl).new)
   rw [pZ]
   refine ⟨rfl,oz.1,[g,β 62,β 52],⟨fun b hb=> ?_,_,_,_,o2,?_⟩⟩
   ·simp only [List.mem_cons,List.not_mem_nil,or_false] at hb
    rcases hb with rfl | rfl | rfl
    ·exact zO
    ·exact nV
    ·exact nR
   ·exact .inr (.inr (.inl ⟨β 62,β 52,rfl,rfl,rfl,⟨_,_,_,_,_,_,rfl,oV,hV4.kp (aL B) (by (with_reducible (repeat (first | assumption | exact kU _ | exact kR _ | exact Kp.of (U:=UU) (by assumption) | exact aF.of (by assumption) | refine kT ?_ (by assumption)))))⟩,⟨_,_,_,_,rfl,oR,(hR3.kp (aB B) (by (with_reducible (repeat (first | assumption | exact kU _ | exact kR _ | exact Kp.of (U:=UU) (by assumption) | exact aF.of (by assumption) | refine kT ?_ (by assumption)))))).o β⟩⟩))
  ·refine VS.bK rfl (by rw [Hn,beq_eq_false_iff_ne];omega) ?_
   have pZ:di S F keep ([]:List aM).length ⟨[],[],[]⟩ e=⟨pp::qt,[]++[dz S F [] e],[]⟩:=by
    rw [my,vB,vf]
    exact if_neg hx
   (repeat first|refine wN ?_|refine wP rfl ?_|refine af rfl ?_|refine ag rfl ?_|refine wO rfl rfl ?_)
   refine VS.kF (bj _ _) rfl (fun wz β kz oz en=> ?_)
   obtain ⟨o1,o2⟩:=ea (en.own 198 _ _ rfl) 0 g rfl rfl
   have oR:=(en.own 52 _ _ rfl).cls
   rw [List.map_append,ah] at oR
   have nR:=ff hB dT (show cA 99 [g] w 52 (β 52) from (en.own 52 _ _ rfl).new)
   have oV:=(en.own 62 _ _ rfl).cls
   rw [ah] at oV
   have nV:=ff hB dT (show cA 99 [g] w 62 (β 62) from (en.own 62 _ _ rfl).new)
   rw [pZ]
   refine ⟨rfl,oz.1,[g,β 62,β 52],⟨fun b hb=> ?_,_,_,_,o2,?_⟩⟩
   ·simp only [List.mem_cons,List.not_mem_nil,or_false] at hb
    rcases hb with rfl | rfl | rfl
    ·exact zO
    ·exact nV
    ·exact nR
   ·exact .inr (.inr (.inl ⟨β 62,β 52,rfl,rfl,rfl,⟨_,_,_,_,_,_,rfl,oV,fG.kp (aL B) (by (with_reducible (repeat (first | assumption | exact kU _ | exact kR _ | exact Kp.of (U:=UU) (by assumption) | exact aF.of (by assumption) | refine kT ?_ (by assumption)))))⟩,⟨_,_,_,_,rfl,oR,(ft.kp (aB B) (by (with_reducible (repeat (first | assumption | exact kU _ | exact kR _ | exact Kp.of (U:=UU) (by assumption) | exact aF.of (by assumption) | refine kT ?_ (by assumption)))))).o β⟩⟩))
end Go.Proofs.YtabalinjfgcfeaaGreat
set_option maxRecDepth 4000
namespace Go.Proofs.YtabalinjfgcfeaaGreat
open Go.RowKit
attribute [local irreducible] aA VS
set_option maxRecDepth 4000 in
set_option maxHeartbeats 16000000 in
theorem iYear_B {B g keep D kk ks:Nat} {M S F:Rat} {e:Rat×Rat} {rb nr cr:Nat} {sY:List (List Value)} {uM:List Value} {q:List Vq} {rows:List aM} {uses:List Uq} {v u:Value} {w:World} (hg:aV w g Runner #[.slice none 0 0,.slice (some ⟨rb,0,none⟩) nr cr,.slice none 0 0]) (zS:aV w rb dM (sY.flatten++uM).toArray) (hR:cX (dA B) 28 w nr 0 cr [] sY uM rows)
  (ve:FP w v S F keep ks) (Kc:YrV w u e ks) (sB:1≤ks) (yP:ks≤kk) (zG:kk≤100000) (zN:Iz D (aD S F e.2)) (Eo:aD S F e.2≤M) (Kd:Iz D e.1) (gB: -M≤e.1) (Ep:e.1≤M) (hK:∀ x,Iz D x→-(M + M)≤x→x≤M + M→fo x kk)
  (vX:xZ D M ⟨[],rows,[]⟩) (uK:(rows:List aM).length≤64) (uL:keep≤40) (hB:B≤w.heap.size) (dT:∀ b∈[g,rb],B≤b):
  Calls Tryz.prog 39 #[.pointer (some ⟨g,0,none⟩),v,.int .i64 ((rows:List aM).length:Int),u] w fun o w'=>o=.returned (iC [])∧qJ [g,rb] w w'∧∃ Mz,nA B w' g Mz (di S F keep (rows:List aM).length ⟨[],rows,[]⟩ e):=by
 have hL0:=pH S F e.2
 have hM0:0≤M:=by grind
 obtain ⟨g1,g2,g3,g4,g5,g6,g7,g8,g9⟩:=sx zN hL0 Eo Kd gB Ep
 have zO:B≤g:=dT g (by simp)
 have hlen:=vX.len
 obtain ⟨sS,pS,nS,cS,tS,yS,mS,dS,sF,pF,nF,cF,tF,yF,mF,dF,rfl,hS,hF⟩:=ve
 obtain ⟨sN,pN,nN,cN,tN,yN,mN,dN,sE,pE,nE,cE,tE,yE,mE,dE,rfl,hN,hE⟩:=Kc
 have pX:iI (KU UU) 99 [g,rb] [(Runner,[.val (.slice none 0 0),.row 199 0 nr cr,.val (.slice none 0 0)]),(dM,(sY.flatten++uM).map .val)] w:=by
  have JF:g≠rb:=fun e=>by subst e;exact absurd (bo hg zS) (by decide)
  refine ⟨rfl,by simp [JF],fun j g' c' hj hc=> ?_,fun c' hc=> ?_,fun c' hc k hk=> ?_⟩
  ·match j,hj,hc with
   | 0,hj,hc=>cases hj;cases hc;exact hg
   | 1,hj,hc=>cases hj;cases hc;rw [ah];exact zS
   | j + 2,hj,_=>simp at hj
  ·simp only [List.mem_cons,List.not_mem_nil,or_false] at hc
   rcases hc with rfl | rfl
   ·exact ⟨rfl,rfl⟩
   ·exact ⟨rfl,aZ (hR.all (aB B))⟩
  ·simp only [List.mem_cons,List.not_mem_nil,or_false] at hc
   rcases hc with rfl | rfl
   ·have:k=199:=by simpa [ay,AV.cL] using hk
    subst this;exact ⟨by omega,by show 199 < 2 * 99 + 2;omega⟩
   ·rw [ao] at hk;cases hk
 refine dZ Tryz.prog w _ (KU UU) (fun t=>Nat.beq t 22) table (fun _ _=>trivial) (ad:=[g,rb]) (us:=[_,_,_]) Tryz.func39 rfl Tryz.ntmps39 (Nat.le_of_ble_eq_true rfl) pX (Nat.le_of_ble_eq_true rfl) ?_
 (repeat first|refine wN ?_|refine wP rfl ?_|refine af rfl ?_|refine ag rfl ?_|refine wO rfl rfl ?_)
 refine VO.call rfl rfl (fk Tryz.func70) (fun cB eu dt=>((np _ _ S F keep e ks cB ⟨_,_,_,_,_,_,_,_,_,_,_,_,_,_,_,_,rfl,hS.k,hF.k⟩ ⟨_,_,_,_,_,_,_,_,_,_,_,_,_,_,_,_,rfl,hN.k,hE.k⟩ sB (by omega)).mono (fun o w2 h=>And.intro h dt.1.size)).mono ?_)
 rintro o w1 ⟨⟨r1,rfl,q1,aU⟩,FQ⟩
 obtain ⟨s1,p1,n1,c1,t1,y1,m1,d1,rfl⟩:=q1.form
 refine ⟨_,rfl,aU,fun fq _ bb1=>wV rfl ?_⟩
 replace q1:=q1.mono (Nat.le_trans hB FQ)
 (repeat first|refine wN ?_|refine wP rfl ?_|refine af rfl ?_|refine ag rfl ?_|refine wO rfl rfl ?_)
 refine VO.call rfl rfl (fk Tryz.func44) (fun dR gS eW=>((bF 0 dR (by omega) (by omega)).mono (fun o w2 h=>And.intro h eW.1.size)).mono ?_)
 rintro o w2 ⟨⟨r2,rfl,q2,bn⟩,qU⟩
 obtain ⟨s2,p2,n2,c2,t2,y2,m2,d2,rfl⟩:=q2.form
 refine ⟨_,rfl,bn,fun gw _ bb2=>wV rfl ?_⟩
 replace q2:=q2.mono (Nat.le_trans hB qU)
 (repeat first|refine wN ?_|refine wP rfl ?_|refine af rfl ?_|refine ag rfl ?_|refine wO rfl rfl ?_)
 refine VO.call rfl rfl (fk Tryz.func44) (fun gY iD jd=>((bF 0 gY (by omega) (by omega)).mono (fun o w2 h=>And.intro h jd.1.size)).mono ?_)
 rintro o w3 ⟨⟨r3,rfl,q3,cI⟩,yO⟩
 obtain ⟨s3,p3,n3,c3,t3,y3,m3,d3,rfl⟩:=q3.form
 refine ⟨_,rfl,cI,fun kS _ bb3=>wV rfl ?_⟩
 replace q3:=q3.mono (Nat.le_trans hB yO)
 (repeat first|refine wN ?_|refine wP rfl ?_|refine af rfl ?_|refine ag rfl ?_|refine wO rfl rfl ?_)
 refine VO.gi rfl (fk Tryz.func71) (fun mW β pV nI ho=>((fO _ _ e.1 [aD S F e.2] kk mW ((hN.k).up (by omega)) (eE (ho.own 20 (.base (List.mem_singleton.2 rfl)) _ _ rfl) [] (vs:=[[.bool s1,.slice p1 n1 c1,.bool t1,.slice y1 m1 d1]]) (by rfl) rfl (cD.cons (q1.ki (hK _ zN (by grind) (by grind))) cD.nil) (Nat.le_of_ble_eq_true rfl) (by decide)) (by omega) (Nat.le_of_ble_eq_true rfl)).mono (fun o w2 h=>And.intro h nI.1.size)).mono ?_)
 rintro o w4 ⟨⟨r4,rfl,q4,z4,gI⟩,DK⟩
 rw [gV] at q4
 obtain ⟨s4,p4,n4,c4,t4,y4,m4,d4,rfl⟩:=q4.form
 refine ⟨_,rfl,gI,fun oL _ AM=>wV rfl ?_⟩
 replace q4:=q4.mono (Nat.le_trans hB DK)
 (repeat first|refine wN ?_|refine wP rfl ?_|refine af rfl ?_|refine ag rfl ?_|refine wO rfl rfl ?_)
 refine VO.call rfl rfl (fk Tryz.func72) (fun jK mD jy=>((ck _ _ e.1 (ai e.1 (aD S F e.2)) kk kk jK ((hN.k).up (by omega)) (q4.ki (hK _ g1 (by grind) (by grind))) (by omega) (by omega)).mono (fun o w2 h=>And.intro h jy.1.size)).mono ?_)
 rintro o w5 ⟨⟨r5,rfl,q5,fY⟩,pY⟩
 obtain ⟨s5,p5,n5,c5,t5,y5,m5,d5,rfl⟩:=q5.form
 refine ⟨_,rfl,fY,fun mX _ vQ=>wV rfl ?_⟩
 replace q5:=q5.mono (Nat.le_trans hB pY)
 (repeat first|refine wN ?_|refine wP rfl ?_|refine af rfl ?_|refine ag rfl ?_|refine wO rfl rfl ?_)
 refine VO.call rfl rfl (fk Tryz.func72) (fun pW uC uZ=>((ck _ _ (aD S F e.2) (ai e.1 (aD S F e.2)) kk kk pW (q1.ki (hK _ zN (by grind) (by grind))) (q4.ki (hK _ g1 (by grind) (by grind))) (by omega) (by omega)).mono (fun o w2 h=>And.intro h uZ.1.size)).mono ?_)
 rintro o w6 ⟨⟨r6,rfl,q6,ny⟩,FR⟩
 obtain ⟨s6,p6,n6,c6,t6,y6,m6,d6,rfl⟩:=q6.form
 refine ⟨_,rfl,ny,fun tD _ Dl=>wV rfl ?_⟩
 replace q6:=q6.mono (Nat.le_trans hB FR)
 (repeat first|refine wN ?_|refine wP rfl ?_|refine af rfl ?_|refine ag rfl ?_|refine wO rfl rfl ?_)
 have my:di S F keep (rows:List aM).length ⟨[],rows,[]⟩ e=se keep (rows:List aM).length ⟨kG (rows:List aM).length (e.1 - ai e.1 (aD S F e.2)) (ld [] (aD S F e.2 - ai e.1 (aD S F e.2))),rows++[dz S F [] e],[]++nW (rows:List aM).length [] (aD S F e.2 - ai e.1 (aD S F e.2))⟩:=rfl
 refine VO.sw (B:=B) (mm:=aD S F e.2 - ai e.1 (aD S F e.2)) kk rfl rfl (fk Tryz.func73) rfl (fun sX FU Hk=>q6.kr) hB (fun w7 r7 k7 b7 q7=> ?_)
 obtain ⟨s7,p7,n7,c7,t7,y7,m7,d7,rfl⟩:=q7.form
 refine wV rfl ?_
 (repeat first|refine wN ?_|refine wP rfl ?_|refine af rfl ?_|refine ag rfl ?_|refine wO rfl rfl ?_)
 have vf:([]:List Uq)++nW (rows:List aM).length [] (aD S F e.2 - ai e.1 (aD S F e.2))=[]:=rfl
 obtain ⟨u1,u2,u3⟩:=tK (q:=[]) (m:=aD S F e.2 - ai e.1 (aD S F e.2)) (fun p hp=>(by cases hp)) g7 g8
 refine VO.call rfl rfl (fk Tryz.func16) (fun vc Fu yI=>((eT _ _ (ai e.1 (aD S F e.2)) ((0:Rat)) kk kk vc (q4.ki (hK _ g1 (by grind) (by grind))) (q7.ki (hK _ u1 (by grind) (by grind))) (by omega) (by omega)).mono (fun o w2 h=>And.intro h yI.1.size)).mono ?_)
 rintro o w8 ⟨⟨r8,rfl,q8,re⟩,yQ⟩
 obtain ⟨s8,p8,n8,c8,t8,y8,m8,d8,rfl⟩:=q8.form
 refine ⟨_,rfl,re,fun vT _ JZ=>wV rfl ?_⟩
 replace q8:=q8.mono (Nat.le_trans hB yQ)
 (repeat first|refine wN ?_|refine wP rfl ?_|refine af rfl ?_|refine ag rfl ?_|refine wO rfl rfl ?_)
 have Me:((0:Int):Rat)=0:=rfl
 have Bg:dA B w8 [.bool s1,.slice p1 n1 c1,.bool t1,.slice y1 m1 d1,.bool s4,.slice p4 n4 c4,.bool t4,.slice y4 m4 d4,.bool s5,.slice p5 n5 c5,.bool t5,.slice y5 m5 d5,.bool s7,.slice p7 n7 c7,.bool t7,.slice y7 m7 d7,.bool s8,.slice p8 n8 c8,.bool t8,.slice y8 m8 d8,.bool s2,.slice p2 n2 c2,.bool t2,.slice y2 m2 d2,.bool s3,.slice p3 n3 c3,.bool t3,.slice y3 m3 d3] (dz S F [] e):=⟨[.bool s1,.slice p1 n1 c1,.bool t1,.slice y1 m1 d1],[.bool s4,.slice p4 n4 c4,.bool t4,.slice y4 m4 d4],[.bool s5,.slice p5 n5 c5,.bool t5,.slice y5 m5 d5],[.bool s7,.slice p7 n7 c7,.bool t7,.slice y7 m7 d7],[.bool s8,.slice p8 n8 c8,.bool t8,.slice y8 m8 d8],[.bool s2,.slice p2 n2 c2,.bool t2,.slice y2 m2 d2],[.bool s3,.slice p3 n3 c3,.bool t3,.slice y3 m3 d3],rfl,⟨_,_,_,_,_,_,_,_,rfl,q1.k⟩,⟨_,_,_,_,_,_,_,_,rfl,q4.k⟩,⟨_,_,_,_,_,_,_,_,rfl,q5.k⟩,⟨_,_,_,_,_,_,_,_,rfl,q7.k⟩,⟨_,_,_,_,_,_,_,_,rfl,q8.k⟩,⟨_,_,_,_,_,_,_,_,rfl,q2.k⟩,⟨_,_,_,_,_,_,_,_,rfl,q3.k⟩⟩
 obtain ⟨ic,ji⟩:=hR.el.ok (aB B)
 have sV:=hR.len
 refine VO.app (bj _ _) (t:=33) (e:=dM) (sz:=28) (n:=nr) (c:=cr) (mm:=1) (known:=sY.flatten.map .val) (spare:=uM.map .val) (del:=some 199) (news:=([.bool s1,.slice p1 n1 c1,.bool t1,.slice y1 m1 d1,.bool s4,.slice p4 n4 c4,.bool t4,.slice y4 m4 d4,.bool s5,.slice p5 n5 c5,.bool t5,.slice y5 m5 d5,.bool s7,.slice p7 n7 c7,.bool t7,.slice y7 m7 d7,.bool s8,.slice p8 n8 c8,.bool t8,.slice y8 m8 d8,.bool s2,.slice p2 n2 c2,.bool t2,.slice y2 m2 d2,.bool s3,.slice p3 n3 c3,.bool t3,.slice y3 m3 d3]:List Value).map .val) (dst:=52) rfl rfl rfl rfl rfl rfl rfl rfl (Nat.le_of_ble_eq_true rfl) rfl (.inr ⟨199,rfl,congrArg (fun l=>some (dM,l)) (List.map_append ..),rfl⟩) (.inl rfl) (by rw [List.length_map,ji,sV]) (by rw [←List.map_append,List.length_map];exact hR.fl) hR.le hR.cm ⟨ao _,ao _,rfl⟩ ⟨aZ ic,aZ hR.so,rfl⟩ rfl (by omega)
  (fun w1 β k1 b1 ho=>⟨_,_,rfl,.inr ⟨β 51,0,rfl,cK (rest:=[]) (ho.own 51 (.base (List.mem_append_right _ (List.mem_singleton.2 rfl))) _ _ rfl) rfl⟩⟩)
  (fun oO lK vg ρ Hf Hg fD jh gU ed Bh iA=>wV rfl ?_)
 (repeat (first | refine wN ?_ | refine wP rfl ?_ | refine af rfl ?_ | refine wO rfl rfl ?_))
 obtain ⟨nX,sC⟩:∃ nX,nX=nr + 1:=⟨_,rfl⟩
 obtain ⟨qn,sD⟩:∃ qn,qn=(sY++[[.bool s1,.slice p1 n1 c1,.bool t1,.slice y1 m1 d1,.bool s4,.slice p4 n4 c4,.bool t4,.slice y4 m4 d4,.bool s5,.slice p5 n5 c5,.bool t5,.slice y5 m5 d5,.bool s7,.slice p7 n7 c7,.bool t7,.slice y7 m7 d7,.bool s8,.slice p8 n8 c8,.bool t8,.slice y8 m8 d8,.bool s2,.slice p2 n2 c2,.bool t2,.slice y2 m2 d2,.bool s3,.slice p3 n3 c3,.bool t3,.slice y3 m3 d3]]:List (List Value)):=⟨_,rfl⟩
 have ft:nM (dA B) 28 oO nX lK qn vg (rows++[dz S F [] e]):=by rw [sC,sD];exact ⟨by rw [sV,List.length_append];rfl,(hR.el.kp (aB B) (by (with_reducible (repeat (first | assumption | exact kU _ | exact kR _ | exact Kp.of (U:=UU) (by assumption) | exact aF.of (by assumption) | refine kT ?_ (by assumption)))))).snoc ((aB B).kp Bg (by (with_reducible (repeat (first | assumption | exact kU _ | exact kR _ | exact Kp.of (U:=UU) (by assumption) | exact aF.of (by assumption) | refine kT ?_ (by assumption)))))),Bh,iA,jh,gU,by simpa using ed⟩
 refine VS.narrow [(0,.box 198 0),(2,.val (.int .i64 ((rows:List aM).length:Int))),(5,.box 5 0),(8,.box 8 0)] [(198,(Runner,[.val (.slice none 0 0),.row 52 0 nX lK,.val (.slice none 0 0)])),(52,(dM,qn.flatten.map AV.val++vg)),(5,(28,([.bool sS,.slice pS nS cS,.bool tS,.slice yS mS dS,.bool sF,.slice pF nF cF,.bool tF,.slice yF mF dF,.int .i64 (keep:Int)]:List Value).map AV.val)),(8,(dM,([.bool s1,.slice p1 n1 c1,.bool t1,.slice y1 m1 d1,.bool s4,.slice p4 n4 c4,.bool t4,.slice y4 m4 d4,.bool s5,.slice p5 n5 c5,.bool t5,.slice y5 m5 d5,.bool s7,.slice p7 n7 c7,.bool t7,.slice y7 m7 d7,.bool s8,.slice p8 n8 c8,.bool t8,.slice y8 m8 d8,.bool s2,.slice p2 n2 c2,.bool t2,.slice y2 m2 d2,.bool s3,.slice p3 n3 c3,.bool t3,.slice y3 m3 d3]:List Value).map AV.val))] ⟨rfl,rfl,rfl,rfl,trivial⟩ ⟨by rw [sC];rfl,by rw [sD];exact congrArg (fun l=>some (dM,l++vg)) (by simp),rfl,rfl,trivial⟩ rfl ⟨.lit rfl,.append (.vals _) (.none iA),.vals _,.vals _,trivial⟩ ?_
 refine VS.draw (bj _ _) (jS _ _) [74] (by kernel_rfl) (VO.run 80 rfl ?_)
 refine VO.DG (B:=B) (d2:=62) (d:=e.1 - ai e.1 (aD S F e.2)) kk rfl rfl rfl (fk Tryz.func74) rfl rfl (by show 62 < 2 * 99;omega) (fun j hj=> ?_) (Nat.le_of_ble_eq_true rfl) (fun sX FU Hk=>q5.kr) (hK _ g4 (by grind) (by grind)) zG hB (fun BA k19 b19 Gj=>wV rfl ?_) (fun BA nT Hl Hm k19 b19 Gj fG=>wV rfl ?_)
 ·have:j=52:=by simpa [ay,AV.cL] using hj
  subst this;intro h;cases h
 ·have vB:kG (rows:List aM).length (e.1 - ai e.1 (aD S F e.2)) (ld [] (aD S F e.2 - ai e.1 (aD S F e.2)))=[]:=if_neg Gj
  (repeat first|refine wN ?_|refine wP rfl ?_|refine af rfl ?_|refine ag rfl ?_|refine wO rfl rfl ?_)
  refine VO.cY (x:=.val (.slice none 0 0)) (p:=fun _=>none) (c:=0) rfl (fun β=>.inr ⟨none,rfl⟩) rfl (fk Tryz.func75) rfl (fun Er MA MB=>wV rfl ?_)
  (repeat first|refine wN ?_|refine wP rfl ?_|refine af rfl ?_|refine ag rfl ?_|refine wO rfl rfl ?_)
  have pZ:di S F keep (rows:List aM).length ⟨[],rows,[]⟩ e=⟨[],rows++[dz S F [] e],[]⟩:=by rw [my,vB,vf];rfl
  (repeat first|refine wN ?_|refine wP rfl ?_|refine af rfl ?_|refine ag rfl ?_|refine wO rfl rfl ?_)
  refine VS.kF (bj _ _) rfl (fun wz β kz oz en=> ?_)
  obtain ⟨o1,o2⟩:=ea (en.own 198 _ _ rfl) 0 g rfl rfl
  have oR:=(en.own 52 _ _ rfl).cls
  rw [List.map_append,ah] at oR
  have nR:=ff hB dT (show cA 99 [g,rb] w 52 (β 52) from (en.own 52 _ _ rfl).new)
  rw [pZ]
  refine ⟨rfl,oz.1,[g,β 52],⟨fun b hb=> ?_,_,_,_,o2,?_⟩⟩
  ·simp only [List.mem_cons,List.not_mem_nil,or_false] at hb
   rcases hb with rfl | rfl
   ·exact zO
   ·exact nR
  ·exact .inr (.inl ⟨β 52,rfl,rfl,rfl,rfl,rfl,⟨_,_,_,_,rfl,oR,(ft.kp (aB B) (by (with_reducible (repeat (first | assumption | exact kU _ | exact kR _ | exact Kp.of (U:=UU) (by assumption) | exact aF.of (by assumption) | refine kT ?_ (by assumption)))))).o β⟩⟩)
 ·obtain ⟨q2,sG⟩:∃ q2:List Vq,q2=[((rows:List aM).length,e.1 - ai e.1 (aD S F e.2))]:=⟨_,rfl⟩
  rw [←sG] at fG
  have vB:kG (rows:List aM).length (e.1 - ai e.1 (aD S F e.2)) (ld [] (aD S F e.2 - ai e.1 (aD S F e.2)))=q2:=by rw [sG];exact if_pos Gj
  obtain ⟨nz,MC⟩:∃ nz,nz=1:=⟨_,rfl⟩
  obtain ⟨fx,DL⟩:∃ fx,fx=0:=⟨_,rfl⟩
  obtain ⟨kH,DM⟩:∃ kH:List Value,kH=[]:=⟨_,rfl⟩
  have fG:cX (cG B) 5 BA nz fx nT kH Hl Hm q2:=by rw [MC,DL,DM];exact fG
  refine VO.nil ?_
  refine VS.narrow [(0,.box 198 0),(2,.val (.int .i64 ((rows:List aM).length:Int))),(5,.box 5 0),(8,.box 8 0)] [(198,(Runner,[.row 62 fx nz nT,.row 52 0 nX lK,.val (.slice none 0 0)])),(52,(dM,qn.flatten.map AV.val++vg)),(5,(28,([.bool sS,.slice pS nS cS,.bool tS,.slice yS mS dS,.bool sF,.slice pF nF cF,.bool tF,.slice yF mF dF,.int .i64 (keep:Int)]:List Value).map AV.val)),(8,(dM,([.bool s1,.slice p1 n1 c1,.bool t1,.slice y1 m1 d1,.bool s4,.slice p4 n4 c4,.bool t4,.slice y4 m4 d4,.bool s5,.slice p5 n5 c5,.bool t5,.slice y5 m5 d5,.bool s7,.slice p7 n7 c7,.bool t7,.slice y7 m7 d7,.bool s8,.slice p8 n8 c8,.bool t8,.slice y8 m8 d8,.bool s2,.slice p2 n2 c2,.bool t2,.slice y2 m2 d2,.bool s3,.slice p3 n3 c3,.bool t3,.slice y3 m3 d3]:List Value).map AV.val)),(62,(cO,(kH++(Hl.flatten++Hm)).map AV.val))] ⟨rfl,rfl,rfl,rfl,trivial⟩ ⟨by rw [DL,MC];rfl,rfl,rfl,rfl,by rw [DM];rfl,trivial⟩ rfl ⟨.lit rfl,.append (.vals _) (.none iA),.vals _,.vals _,.vals _,trivial⟩ ?_
  (repeat first|refine wN ?_|refine wP rfl ?_|refine af rfl ?_|refine ag rfl ?_|refine wO rfl rfl ?_)
  by_cases lN:nz=0
  ·refine VO.cY (x:=.row 62 fx nz nT) (p:=fun _=>none) (c:=nT) rfl (fun β=>.inr ⟨_,congrArg (fun n=>Value.slice (some ⟨β 62,fx,none⟩) n nT) lN⟩) rfl (fk Tryz.func75) rfl (fun Er MA MB=>wV rfl ?_)
   (repeat first|refine wN ?_|refine wP rfl ?_|refine af rfl ?_|refine ag rfl ?_|refine wO rfl rfl ?_)
   have Bi:q2=[]:=List.eq_nil_of_length_eq_zero (by rw [←fG.len];exact lN)
   have pZ:di S F keep (rows:List aM).length ⟨[],rows,[]⟩ e=⟨q2,rows++[dz S F [] e],[]⟩:=by rw [my,vB,vf,Bi];rfl
   (repeat first|refine wN ?_|refine wP rfl ?_|refine af rfl ?_|refine ag rfl ?_|refine wO rfl rfl ?_)
   refine VS.kF (bj _ _) rfl (fun wz β kz oz en=> ?_)
   obtain ⟨o1,o2⟩:=ea (en.own 198 _ _ rfl) 0 g rfl rfl
   have oR:=(en.own 52 _ _ rfl).cls
   rw [List.map_append,ah] at oR
   have nR:=ff hB dT (show cA 99 [g,rb] w 52 (β 52) from (en.own 52 _ _ rfl).new)
   have oV:=(en.own 62 _ _ rfl).cls
   rw [ah] at oV
   have nV:=ff hB dT (show cA 99 [g,rb] w 62 (β 62) from (en.own 62 _ _ rfl).new)
   rw [pZ]
   refine ⟨rfl,oz.1,[g,β 62,β 52],⟨fun b hb=> ?_,_,_,_,o2,?_⟩⟩
   ·simp only [List.mem_cons,List.not_mem_nil,or_false] at hb
    rcases hb with rfl | rfl | rfl
    ·exact zO
    ·exact nV
    ·exact nR
   ·exact .inr (.inr (.inl ⟨β 62,β 52,rfl,rfl,rfl,⟨_,_,_,_,_,_,rfl,oV,fG.kp (aL B) (by (with_reducible (repeat (first | assumption | exact kU _ | exact kR _ | exact Kp.of (U:=UU) (by assumption) | exact aF.of (by assumption) | refine kT ?_ (by assumption)))))⟩,⟨_,_,_,_,rfl,oR,(ft.kp (aB B) (by (with_reducible (repeat (first | assumption | exact kU _ | exact kR _ | exact Kp.of (U:=UU) (by assumption) | exact aF.of (by assumption) | refine kT ?_ (by assumption)))))).o β⟩⟩))
  obtain ⟨pp,qt,Bw⟩:∃ pp qt,q2=pp::qt:=by
   cases q2 with
   | nil=>exact absurd fG.len lN
   | cons pp qt=>exact ⟨pp,qt,rfl⟩
  subst Bw
  obtain ⟨Bj,vY,rfl,hE4,sH⟩:∃ Bj vY,Hl=Bj::vY∧cG B BA Bj pp∧cM (cG B) BA qt vY:=by
   have:=fG.el
   cases this with
   | cons h1 h2=>exact ⟨_,_,rfl,h1,h2⟩
  obtain ⟨s9,p9,n9,c9,t9,y9,m9,d9,rfl,JD⟩:=hE4
  have Bk:=fG.le
  have Bl:=fG.len
  have Bm:=fG.cm
  have jN:kH.length=fx:=fG.pl.resolve_right (by omega)
  refine VO.cH rfl rfl (fk Tryz.func75) rfl lN (by intro h;cases h) (fun Er MA MB=>wV rfl ?_)
  (repeat first|refine wN ?_|refine wP rfl ?_|refine af rfl ?_|refine ag rfl ?_|refine wO rfl rfl ?_)
  refine VO.de rfl (([.int .i64 (pp.1:Int)]:List Value).map .val) rfl (bg jN 0 _ ⟨_,rfl⟩) (wV rfl ?_)
  (repeat first|refine wN ?_|refine wP rfl ?_|refine af rfl ?_|refine ag rfl ?_|refine wO rfl rfl ?_)
  have Hn:IntKind.i64.wrap (((rows:List aM).length:Int) - (keep:Int))=((rows:List aM).length:Int) - (keep:Int):=IntWalk.i64_in _ (by omega)
  by_cases hx:pp.1 + keep=(rows:List aM).length
  ·refine VS.bG rfl (by rw [Hn,beq_iff_eq];omega) ?_
   (repeat first|refine wN ?_|refine wP rfl ?_|refine af rfl ?_|refine ag rfl ?_|refine wO rfl rfl ?_)
   refine VO.de rfl (([.int .i64 (pp.1:Int)]:List Value).map .val) rfl (bg jN 0 _ ⟨_,rfl⟩) (wV rfl ?_)
   (repeat first|refine wN ?_|refine wP rfl ?_|refine af rfl ?_|refine ag rfl ?_|refine wO rfl rfl ?_)
   refine VO.de rfl (([.bool s9,.slice p9 n9 c9,.bool t9,.slice y9 m9 d9]:List Value).map .val) rfl (bg jN 1 _ ⟨[],rfl⟩) (wV rfl ?_)
   (repeat first|refine wN ?_|refine wP rfl ?_|refine af rfl ?_|refine ag rfl ?_|refine wO rfl rfl ?_)
   have fh:=ft.len
   have zw:pp.1 < nX:=by rw [fh,List.length_append,List.length_singleton];omega
   refine VO.cond rfl ⟨by omega,by omega⟩ (wV rfl ?_)
   obtain ⟨rq,zP⟩:∃ rq,(rows++[dz S F [] e])[pp.1]? =some rq:=⟨_,List.getElem?_eq_getElem (by rw [←fh];exact zw)⟩
   obtain ⟨zQ,tL,zR⟩:=ft.el.at pp.1 rq zP
   have gG:=ft.fl
   have JE:=ft.le
   refine VO.cond rfl (by show 0 + ((pp.1:Int)).toNat * 28 + 20 + 4≤_;rw [gG,Int.toNat_natCast];omega) (VO.fu 52 rfl (km (new:=[.bool s9,.slice p9 n9 c9,.bool t9,.slice y9 m9 d9]) (o:=20) (ft.el.lens (aB B)) tL (Nat.le_of_ble_eq_true rfl)) (wV rfl ?_))
   (repeat first|refine wN ?_|refine wP rfl ?_|refine af rfl ?_|refine ag rfl ?_|refine wO rfl rfl ?_)
   have hR3:nM (dA B) 28 Er nX lK (qn.set pp.1 (zQ.take 20++([.bool s9,.slice p9 n9 c9,.bool t9,.slice y9 m9 d9]++zQ.drop (20 + ([.bool s9,.slice p9 n9 c9,.bool t9,.slice y9 m9 d9]:List Value).length)))) vg ((rows++[dz S F [] e]).modify pp.1 (fun r=>{ r with bl:=pp.2 })):=
    ⟨by rw [List.length_modify];exact fh,by rw [gM zP];exact (ft.el.kp (aB B) (by (with_reducible (repeat (first | assumption | exact kU _ | exact kR _ | exact Kp.of (U:=UU) (by assumption) | exact aF.of (by assumption) | refine kT ?_ (by assumption)))))).set (oY ((aB B).kp zR (by (with_reducible (repeat (first | assumption | exact kU _ | exact kR _ | exact Kp.of (U:=UU) (by assumption) | exact aF.of (by assumption) | refine kT ?_ (by assumption)))))) ⟨_,_,_,_,_,_,_,_,rfl,JD.kp (by (with_reducible (repeat (first | assumption | exact kU _ | exact kR _ | exact Kp.of (U:=UU) (by assumption) | exact aF.of (by assumption) | refine kT ?_ (by assumption)))))⟩),ft.so,ft.sl,ft.le,ft.cm,by
     rw [List.length_append,List.length_map,cW (ko (ft.el.lens (aB B)) (sA ((aB B).len zR) rfl)),List.length_set]
     rw [List.length_append,List.length_map,cW (ft.el.lens (aB B))] at gG
     exact gG⟩
   refine VO.iz rfl rfl (fk Tryz.func76) rfl (by omega) Bk Bm (fun j hj=> ?_) (Nat.le_of_ble_eq_true rfl) (fun w21 k21 b21=>wV rfl ?_)
   ·simp only [ay,AV.cL,List.flatMap_cons,List.flatMap_nil,List.mem_append,List.mem_cons,List.not_mem_nil,or_false,List.append_nil] at hj
    rcases hj with rfl | rfl <;> (intro h;cases h)
   (repeat first|refine wN ?_|refine wP rfl ?_|refine af rfl ?_|refine ag rfl ?_|refine wO rfl rfl ?_)
   have hV4:cX (cG B) 5 w21 (nz - 1) (if nT=1 then fx else fx + 5) (nT - 1) (kH++[.int .i64 (pp.1:Int),.bool s9,.slice p9 n9 c9,.bool t9,.slice y9 m9 d9]) vY Hm qt:=⟨by rw [Bl];rfl,nj jN,by rw [List.all_append,fG.po];rfl,sH.kp (aL B) (by (with_reducible (repeat (first | assumption | exact kU _ | exact kR _ | exact Kp.of (U:=UU) (by assumption) | exact aF.of (by assumption) | refine kT ?_ (by assumption))))),fG.so,by omega,by omega,nk fG.fl⟩
   have pZ:di S F keep (rows:List aM).length ⟨[],rows,[]⟩ e=⟨qt,(rows++[dz S F [] e]).modify pp.1 (fun r=>{ r with bl:=pp.2 }),[]⟩:=by
    rw [my,vB,vf]
    exact if_pos hx
   (repeat first|refine wN ?_|refine wP rfl ?_|refine af rfl ?_|refine ag rfl ?_|refine wO rfl rfl ?_)
   refine VS.kF (bj _ _) rfl (fun wz β kz oz en=> ?_)
   obtain ⟨o1,o2⟩:=ea (en.own 198 _ _ rfl) 0 g rfl rfl
   have oR:=(en.own 52 _ _ rfl).cls
   rw [List.map_append,ah] at oR
   have nR:=ff hB dT (show cA 99 [g,rb] w 52 (β 52) from (en.own 52 _ _ rfl).new)
   have oV:=(en.own 62 _ _ rfl).cls
   rw [dG,ah] at oV
   have nV:=ff hB dT (show cA 99 [g,rb] w 62 (β 62) from (en.own 62 _ _ rfl).new)
   rw [pZ]
   refine ⟨rfl,oz.1,[g,β 62,β 52],⟨fun b hb=> ?_,_,_,_,o2,?_⟩⟩
   ·simp only [List.mem_cons,List.not_mem_nil,or_false] at hb
    rcases hb with rfl | rfl | rfl
    ·exact zO
    ·exact nV
    ·exact nR
   ·exact .inr (.inr (.inl ⟨β 62,β 52,rfl,rfl,rfl,⟨_,_,_,_,_,_,rfl,oV,hV4.kp (aL B) (by (with_reducible (repeat (first | assumption | exact kU _ | exact kR _ | exact Kp.of (U:=UU) (by assumption) | exact aF.of (by assumption) | refine kT ?_ (by assumption)))))⟩,⟨_,_,_,_,rfl,oR,(hR3.kp (aB B) (by (with_reducible (repeat (first | assumption | exact kU _ | exact kR _ | exact Kp.of (U:=UU) (by assumption) | exact aF.of (by assumption) | refine kT ?_ (by assumption)))))).o β⟩⟩))
  ·refine VS.bK rfl (by rw [Hn,beq_eq_false_iff_ne];omega) ?_
   have pZ:di S F keep (rows:List aM).length ⟨[],rows,[]⟩ e=⟨pp::qt,rows++[dz S F [] e],[]⟩:=by
    rw [my,vB,vf]
    exact if_neg hx
   (repeat first|refine wN ?_|refine wP rfl ?_|refine af rfl ?_|refine ag rfl ?_|refine wO rfl rfl ?_)
   refine VS.kF (bj _ _) rfl (fun wz β kz oz en=> ?_)
   obtain ⟨o1,o2⟩:=ea (en.own 198 _ _ rfl) 0 g rfl rfl
   have oR:=(en.own 52 _ _ rfl).cls
   rw [List.map_append,ah] at oR
   have nR:=ff hB dT (show cA 99 [g,rb] w 52 (β 52) from (en.own 52 _ _ rfl).new)
   have oV:=(en.own 62 _ _ rfl).cls
   rw [ah] at oV
   have nV:=ff hB dT (show cA 99 [g,rb] w 62 (β 62) from (en.own 62 _ _ rfl).new)
   rw [pZ]
   refine ⟨rfl,oz.1,[g,β 62,β 52],⟨fun b hb=> ?_,_,_,_,o2,?_⟩⟩
   ·simp only [List.mem_cons,List.not_mem_nil,or_false] at hb
    rcases hb with rfl | rfl | rfl
    ·exact zO
    ·exact nV
    ·exact nR
   ·exact .inr (.inr (.inl ⟨β 62,β 52,rfl,rfl,rfl,⟨_,_,_,_,_,_,rfl,oV,fG.kp (aL B) (by (with_reducible (repeat (first | assumption | exact kU _ | exact kR _ | exact Kp.of (U:=UU) (by assumption) | exact aF.of (by assumption) | refine kT ?_ (by assumption)))))⟩,⟨_,_,_,_,rfl,oR,(ft.kp (aB B) (by (with_reducible (repeat (first | assumption | exact kU _ | exact kR _ | exact Kp.of (U:=UU) (by assumption) | exact aF.of (by assumption) | refine kT ?_ (by assumption)))))).o β⟩⟩))
end Go.Proofs.YtabalinjfgcfeaaGreat
set_option maxRecDepth 4000
namespace Go.Proofs.YtabalinjfgcfeaaGreat
open Go.RowKit
attribute [local irreducible] aA VS
set_option maxRecDepth 4000 in
set_option maxHeartbeats 16000000 in
theorem iYear_C {B g keep D kk ks:Nat} {M S F:Rat} {e:Rat×Rat} {vb off nq cq:Nat} {pre MD:List Value} {ME:List (List Value)} {rb nr cr:Nat} {sY:List (List Value)} {uM:List Value} {q:List Vq} {rows:List aM} {uses:List Uq} {v u:Value} {w:World} (hg:aV w g Runner #[.slice (some ⟨vb,off,none⟩) nq cq,.slice (some ⟨rb,0,none⟩) nr cr,.slice none 0 0]) (BB:aV w vb cO (pre++(ME.flatten++MD)).toArray) (hV:cX (cG B) 5 w nq off cq pre ME MD q) (zS:aV w rb dM (sY.flatten++uM).toArray) (hR:cX (dA B) 28 w nr 0 cr [] sY uM rows)
  (ve:FP w v S F keep ks) (Kc:YrV w u e ks) (sB:1≤ks) (yP:ks≤kk) (zG:kk≤100000) (zN:Iz D (aD S F e.2)) (Eo:aD S F e.2≤M) (Kd:Iz D e.1) (gB: -M≤e.1) (Ep:e.1≤M) (hK:∀ x,Iz D x→-(M + M)≤x→x≤M + M→fo x kk)
  (vX:xZ D M ⟨q,rows,[]⟩) (uK:(rows:List aM).length≤64) (uL:keep≤40) (hB:B≤w.heap.size) (dT:∀ b∈[g,vb,rb],B≤b):
  Calls Tryz.prog 39 #[.pointer (some ⟨g,0,none⟩),v,.int .i64 ((rows:List aM).length:Int),u] w fun o w'=>o=.returned (iC [])∧qJ [g,vb,rb] w w'∧∃ Mz,nA B w' g Mz (di S F keep (rows:List aM).length ⟨q,rows,[]⟩ e):=by
 have hL0:=pH S F e.2
 have hM0:0≤M:=by grind
 obtain ⟨g1,g2,g3,g4,g5,g6,g7,g8,g9⟩:=sx zN hL0 Eo Kd gB Ep
 have zO:B≤g:=dT g (by simp)
 have hlen:=vX.len
 obtain ⟨sS,pS,nS,cS,tS,yS,mS,dS,sF,pF,nF,cF,tF,yF,mF,dF,rfl,hS,hF⟩:=ve
 obtain ⟨sN,pN,nN,cN,tN,yN,mN,dN,sE,pE,nE,cE,tE,yE,mE,dE,rfl,hN,hE⟩:=Kc
 have jA:q.length≤1000:=by dsimp only at hlen;omega
 have pX:iI (KU UU) 99 [g,vb,rb] [(Runner,[.row 199 off nq cq,.row 200 0 nr cr,.val (.slice none 0 0)]),(cO,(pre++(ME.flatten++MD)).map .val),(dM,(sY.flatten++uM).map .val)] w:=by
  have JF:g≠vb:=fun e=>by subst e;exact absurd (bo hg BB) (by decide)
  have h02:g≠rb:=fun e=>by subst e;exact absurd (bo hg zS) (by decide)
  have zF:vb≠rb:=fun e=>by subst e;exact absurd (bo BB zS) (by decide)
  refine ⟨rfl,by simp [JF,h02,zF],fun j g' c' hj hc=> ?_,fun c' hc=> ?_,fun c' hc k hk=> ?_⟩
  ·match j,hj,hc with
   | 0,hj,hc=>cases hj;cases hc;exact hg
   | 1,hj,hc=>cases hj;cases hc;rw [ah];exact BB
   | 2,hj,hc=>cases hj;cases hc;rw [ah];exact zS
   | j + 3,hj,_=>simp at hj
  ·simp only [List.mem_cons,List.not_mem_nil,or_false] at hc
   rcases hc with rfl | rfl | rfl
   ·exact ⟨rfl,rfl⟩
   ·exact ⟨rfl,aZ (hV.all (aL B))⟩
   ·exact ⟨rfl,aZ (hR.all (aB B))⟩
  ·simp only [List.mem_cons,List.not_mem_nil,or_false] at hc
   rcases hc with rfl | rfl | rfl
   ·have:k=199∨k=200:=by simpa [ay,AV.cL] using hk
    rcases this with rfl | rfl
    ·exact ⟨by omega,by show 199 < 2 * 99 + 3;omega⟩
    ·exact ⟨by omega,by show 200 < 2 * 99 + 3;omega⟩
   ·rw [ao] at hk;cases hk
   ·rw [ao] at hk;cases hk
 refine dZ Tryz.prog w _ (KU UU) (fun t=>Nat.beq t 22) table (fun _ _=>trivial) (ad:=[g,vb,rb]) (us:=[_,_,_]) Tryz.func39 rfl Tryz.ntmps39 (Nat.le_of_ble_eq_true rfl) pX (Nat.le_of_ble_eq_true rfl) ?_
 (repeat first|refine wN ?_|refine wP rfl ?_|refine af rfl ?_|refine ag rfl ?_|refine wO rfl rfl ?_)
 refine VO.call rfl rfl (fk Tryz.func70) (fun cB eu dt=>((np _ _ S F keep e ks cB ⟨_,_,_,_,_,_,_,_,_,_,_,_,_,_,_,_,rfl,hS.k,hF.k⟩ ⟨_,_,_,_,_,_,_,_,_,_,_,_,_,_,_,_,rfl,hN.k,hE.k⟩ sB (by omega)).mono (fun o w2 h=>And.intro h dt.1.size)).mono ?_)
 rintro o w1 ⟨⟨r1,rfl,q1,aU⟩,FQ⟩
 obtain ⟨s1,p1,n1,c1,t1,y1,m1,d1,rfl⟩:=q1.form
 refine ⟨_,rfl,aU,fun fq _ bb1=>wV rfl ?_⟩
 replace q1:=q1.mono (Nat.le_trans hB FQ)
 (repeat first|refine wN ?_|refine wP rfl ?_|refine af rfl ?_|refine ag rfl ?_|refine wO rfl rfl ?_)
 refine VO.call rfl rfl (fk Tryz.func44) (fun dR gS eW=>((bF 0 dR (by omega) (by omega)).mono (fun o w2 h=>And.intro h eW.1.size)).mono ?_)
 rintro o w2 ⟨⟨r2,rfl,q2,bn⟩,qU⟩
 obtain ⟨s2,p2,n2,c2,t2,y2,m2,d2,rfl⟩:=q2.form
 refine ⟨_,rfl,bn,fun gw _ bb2=>wV rfl ?_⟩
 replace q2:=q2.mono (Nat.le_trans hB qU)
 (repeat first|refine wN ?_|refine wP rfl ?_|refine af rfl ?_|refine ag rfl ?_|refine wO rfl rfl ?_)
 refine VO.call rfl rfl (fk Tryz.func44) (fun gY iD jd=>((bF 0 gY (by omega) (by omega)).mono (fun o w2 h=>And.intro h jd.1.size)).mono ?_)
 rintro o w3 ⟨⟨r3,rfl,q3,cI⟩,yO⟩
 obtain ⟨s3,p3,n3,c3,t3,y3,m3,d3,rfl⟩:=q3.form
 refine ⟨_,rfl,cI,fun kS _ bb3=>wV rfl ?_⟩
 replace q3:=q3.mono (Nat.le_trans hB yO)
 (repeat first|refine wN ?_|refine wP rfl ?_|refine af rfl ?_|refine ag rfl ?_|refine wO rfl rfl ?_)
 refine VO.gi rfl (fk Tryz.func71) (fun mW β pV nI ho=>((fO _ _ e.1 [aD S F e.2] kk mW ((hN.k).up (by omega)) (eE (ho.own 20 (.base (List.mem_singleton.2 rfl)) _ _ rfl) [] (vs:=[[.bool s1,.slice p1 n1 c1,.bool t1,.slice y1 m1 d1]]) (by rfl) rfl (cD.cons (q1.ki (hK _ zN (by grind) (by grind))) cD.nil) (Nat.le_of_ble_eq_true rfl) (by decide)) (by omega) (Nat.le_of_ble_eq_true rfl)).mono (fun o w2 h=>And.intro h nI.1.size)).mono ?_)
 rintro o w4 ⟨⟨r4,rfl,q4,z4,gI⟩,DK⟩
 rw [gV] at q4
 obtain ⟨s4,p4,n4,c4,t4,y4,m4,d4,rfl⟩:=q4.form
 refine ⟨_,rfl,gI,fun oL _ AM=>wV rfl ?_⟩
 replace q4:=q4.mono (Nat.le_trans hB DK)
 (repeat first|refine wN ?_|refine wP rfl ?_|refine af rfl ?_|refine ag rfl ?_|refine wO rfl rfl ?_)
 refine VO.call rfl rfl (fk Tryz.func72) (fun jK mD jy=>((ck _ _ e.1 (ai e.1 (aD S F e.2)) kk kk jK ((hN.k).up (by omega)) (q4.ki (hK _ g1 (by grind) (by grind))) (by omega) (by omega)).mono (fun o w2 h=>And.intro h jy.1.size)).mono ?_)
 rintro o w5 ⟨⟨r5,rfl,q5,fY⟩,pY⟩
 obtain ⟨s5,p5,n5,c5,t5,y5,m5,d5,rfl⟩:=q5.form
 refine ⟨_,rfl,fY,fun mX _ vQ=>wV rfl ?_⟩
 replace q5:=q5.mono (Nat.le_trans hB pY)
 (repeat first|refine wN ?_|refine wP rfl ?_|refine af rfl ?_|refine ag rfl ?_|refine wO rfl rfl ?_)
 refine VO.call rfl rfl (fk Tryz.func72) (fun pW uC uZ=>((ck _ _ (aD S F e.2) (ai e.1 (aD S F e.2)) kk kk pW (q1.ki (hK _ zN (by grind) (by grind))) (q4.ki (hK _ g1 (by grind) (by grind))) (by omega) (by omega)).mono (fun o w2 h=>And.intro h uZ.1.size)).mono ?_)
 rintro o w6 ⟨⟨r6,rfl,q6,ny⟩,FR⟩
 obtain ⟨s6,p6,n6,c6,t6,y6,m6,d6,rfl⟩:=q6.form
 refine ⟨_,rfl,ny,fun tD _ Dl=>wV rfl ?_⟩
 replace q6:=q6.mono (Nat.le_trans hB FR)
 (repeat first|refine wN ?_|refine wP rfl ?_|refine af rfl ?_|refine ag rfl ?_|refine wO rfl rfl ?_)
 have my:di S F keep (rows:List aM).length ⟨q,rows,[]⟩ e=se keep (rows:List aM).length ⟨kG (rows:List aM).length (e.1 - ai e.1 (aD S F e.2)) (ld q (aD S F e.2 - ai e.1 (aD S F e.2))),rows++[dz S F q e],[]++nW (rows:List aM).length q (aD S F e.2 - ai e.1 (aD S F e.2))⟩:=rfl
 refine VO.DI (B:=B) (D:=D) (v:=199) (d2:=36) (M:=M + M) (mm:=aD S F e.2 - ai e.1 (aD S F e.2)) (q:=q) kk rfl rfl rfl (fk Tryz.func73) rfl rfl rfl (by show 36 < 2 * 99;omega) (by decide) rfl (fun _=>rfl) (fun j hj=> ?_) (Nat.le_of_ble_eq_true rfl) (fun sX FU Hk=>hV.kp (aL B) (by (with_reducible (repeat (first | assumption | exact kU _ | exact kR _ | exact Kp.of (U:=UU) (by assumption) | exact aF.of (by assumption) | refine kT ?_ (by assumption)))))) (fun sX FU Hk=>q6.kr) g7 g8 g9 (fun p hp=>⟨(vX.el p hp).1,(vX.el p hp).2.1,(vX.el p hp).2.2.1⟩) (fun x h1 h2 h3=>hK x h1 (by grind) h3) zG jA hB (fun w7 r7 MF nq1 cq1 MG MH MI k7 b7 q7 hun hV1=> ?_) (fun w7 r7 MF nq1 cq1 MG MH MI un uc vsu1 spu1 k7 b7 q7 hV1 hU1=> ?_)
 ·have:j=200:=by simpa [ay,AV.cL] using hj
  subst this;intro h;cases h
 ·obtain ⟨s7,p7,n7,c7,t7,y7,m7,d7,rfl⟩:=q7.form
  refine wV rfl ?_
  (repeat first|refine wN ?_|refine wP rfl ?_|refine af rfl ?_|refine ag rfl ?_|refine wO rfl rfl ?_)
  have vf:([]:List Uq)++nW rows.length q (aD S F e.2 - ai e.1 (aD S F e.2))=[]:=hun
  obtain ⟨u1,u2,u3⟩:=tK (q:=q) (m:=aD S F e.2 - ai e.1 (aD S F e.2)) (fun p hp=>⟨(vX.el p hp).1,(vX.el p hp).2.1⟩) g7 g8
  refine VO.call rfl rfl (fk Tryz.func16) (fun vc Fu yI=>((eT _ _ (ai e.1 (aD S F e.2)) (rh q (aD S F e.2 - ai e.1 (aD S F e.2))) kk kk vc (q4.ki (hK _ g1 (by grind) (by grind))) (q7.ki (hK _ u1 (by grind) (by grind))) (by omega) (by omega)).mono (fun o w2 h=>And.intro h yI.1.size)).mono ?_)
  rintro o w8 ⟨⟨r8,rfl,q8,re⟩,yQ⟩
  obtain ⟨s8,p8,n8,c8,t8,y8,m8,d8,rfl⟩:=q8.form
  refine ⟨_,rfl,re,fun vT _ JZ=>wV rfl ?_⟩
  replace q8:=q8.mono (Nat.le_trans hB yQ)
  (repeat first|refine wN ?_|refine wP rfl ?_|refine af rfl ?_|refine ag rfl ?_|refine wO rfl rfl ?_)
  have Me:((0:Int):Rat)=0:=rfl
  have Bg:dA B w8 [.bool s1,.slice p1 n1 c1,.bool t1,.slice y1 m1 d1,.bool s4,.slice p4 n4 c4,.bool t4,.slice y4 m4 d4,.bool s5,.slice p5 n5 c5,.bool t5,.slice y5 m5 d5,.bool s7,.slice p7 n7 c7,.bool t7,.slice y7 m7 d7,.bool s8,.slice p8 n8 c8,.bool t8,.slice y8 m8 d8,.bool s2,.slice p2 n2 c2,.bool t2,.slice y2 m2 d2,.bool s3,.slice p3 n3 c3,.bool t3,.slice y3 m3 d3] (dz S F q e):=⟨[.bool s1,.slice p1 n1 c1,.bool t1,.slice y1 m1 d1],[.bool s4,.slice p4 n4 c4,.bool t4,.slice y4 m4 d4],[.bool s5,.slice p5 n5 c5,.bool t5,.slice y5 m5 d5],[.bool s7,.slice p7 n7 c7,.bool t7,.slice y7 m7 d7],[.bool s8,.slice p8 n8 c8,.bool t8,.slice y8 m8 d8],[.bool s2,.slice p2 n2 c2,.bool t2,.slice y2 m2 d2],[.bool s3,.slice p3 n3 c3,.bool t3,.slice y3 m3 d3],rfl,⟨_,_,_,_,_,_,_,_,rfl,q1.k⟩,⟨_,_,_,_,_,_,_,_,rfl,q4.k⟩,⟨_,_,_,_,_,_,_,_,rfl,q5.k⟩,⟨_,_,_,_,_,_,_,_,rfl,q7.k⟩,⟨_,_,_,_,_,_,_,_,rfl,q8.k⟩,⟨_,_,_,_,_,_,_,_,rfl,q2.k⟩,⟨_,_,_,_,_,_,_,_,rfl,q3.k⟩⟩
  obtain ⟨ic,ji⟩:=hR.el.ok (aB B)
  have sV:=hR.len
  refine VO.app (bj _ _) (t:=33) (e:=dM) (sz:=28) (n:=nr) (c:=cr) (mm:=1) (known:=sY.flatten.map .val) (spare:=uM.map .val) (del:=some 200) (news:=([.bool s1,.slice p1 n1 c1,.bool t1,.slice y1 m1 d1,.bool s4,.slice p4 n4 c4,.bool t4,.slice y4 m4 d4,.bool s5,.slice p5 n5 c5,.bool t5,.slice y5 m5 d5,.bool s7,.slice p7 n7 c7,.bool t7,.slice y7 m7 d7,.bool s8,.slice p8 n8 c8,.bool t8,.slice y8 m8 d8,.bool s2,.slice p2 n2 c2,.bool t2,.slice y2 m2 d2,.bool s3,.slice p3 n3 c3,.bool t3,.slice y3 m3 d3]:List Value).map .val) (dst:=52) rfl rfl rfl rfl rfl rfl rfl rfl (Nat.le_of_ble_eq_true rfl) rfl (.inr ⟨200,rfl,congrArg (fun l=>some (dM,l)) (List.map_append ..),rfl⟩) (.inl rfl) (by rw [List.length_map,ji,sV]) (by rw [←List.map_append,List.length_map];exact hR.fl) hR.le hR.cm ⟨ao _,ao _,rfl⟩ ⟨aZ ic,aZ hR.so,rfl⟩ rfl (by omega)
   (fun w1 β k1 b1 ho=>⟨_,_,rfl,.inr ⟨β 51,0,rfl,cK (rest:=[]) (ho.own 51 (.base (List.mem_append_right _ (List.mem_singleton.2 rfl))) _ _ rfl) rfl⟩⟩)
   (fun oO lK vg ρ Hf Hg fD jh gU ed Bh iA=>VO.fu 199 rfl (dJ (ao _) _ _) (wV rfl ?_))
  (repeat (first | refine wN ?_ | refine wP rfl ?_ | refine af rfl ?_ | refine wO rfl rfl ?_))
  obtain ⟨nX,sC⟩:∃ nX,nX=nr + 1:=⟨_,rfl⟩
  obtain ⟨qn,sD⟩:∃ qn,qn=(sY++[[.bool s1,.slice p1 n1 c1,.bool t1,.slice y1 m1 d1,.bool s4,.slice p4 n4 c4,.bool t4,.slice y4 m4 d4,.bool s5,.slice p5 n5 c5,.bool t5,.slice y5 m5 d5,.bool s7,.slice p7 n7 c7,.bool t7,.slice y7 m7 d7,.bool s8,.slice p8 n8 c8,.bool t8,.slice y8 m8 d8,.bool s2,.slice p2 n2 c2,.bool t2,.slice y2 m2 d2,.bool s3,.slice p3 n3 c3,.bool t3,.slice y3 m3 d3]]:List (List Value)):=⟨_,rfl⟩
  have ft:nM (dA B) 28 oO nX lK qn vg (rows++[dz S F q e]):=by rw [sC,sD];exact ⟨by rw [sV,List.length_append];rfl,(hR.el.kp (aB B) (by (with_reducible (repeat (first | assumption | exact kU _ | exact kR _ | exact Kp.of (U:=UU) (by assumption) | exact aF.of (by assumption) | refine kT ?_ (by assumption)))))).snoc ((aB B).kp Bg (by (with_reducible (repeat (first | assumption | exact kU _ | exact kR _ | exact Kp.of (U:=UU) (by assumption) | exact aF.of (by assumption) | refine kT ?_ (by assumption)))))),Bh,iA,jh,gU,by simpa using ed⟩
  refine VS.narrow [(0,.box 198 0),(2,.val (.int .i64 ((rows:List aM).length:Int))),(5,.box 5 0),(8,.box 8 0)] [(198,(Runner,[.row 199 MF nq1 cq1,.row 52 0 nX lK,.val (.slice none 0 0)])),(52,(dM,qn.flatten.map AV.val++vg)),(5,(28,([.bool sS,.slice pS nS cS,.bool tS,.slice yS mS dS,.bool sF,.slice pF nF cF,.bool tF,.slice yF mF dF,.int .i64 (keep:Int)]:List Value).map AV.val)),(8,(dM,([.bool s1,.slice p1 n1 c1,.bool t1,.slice y1 m1 d1,.bool s4,.slice p4 n4 c4,.bool t4,.slice y4 m4 d4,.bool s5,.slice p5 n5 c5,.bool t5,.slice y5 m5 d5,.bool s7,.slice p7 n7 c7,.bool t7,.slice y7 m7 d7,.bool s8,.slice p8 n8 c8,.bool t8,.slice y8 m8 d8,.bool s2,.slice p2 n2 c2,.bool t2,.slice y2 m2 d2,.bool s3,.slice p3 n3 c3,.bool t3,.slice y3 m3 d3]:List Value).map AV.val)),(199,(cO,(MG++(MH.flatten++MI)).map AV.val))] ⟨rfl,rfl,rfl,rfl,trivial⟩ ⟨by rw [sC];rfl,by rw [sD];exact congrArg (fun l=>some (dM,l++vg)) (by simp),rfl,rfl,rfl,trivial⟩ rfl ⟨.lit rfl,.append (.vals _) (.none iA),.vals _,.vals _,.vals _,trivial⟩ ?_
  refine VS.draw (bj _ _) (jS _ _) [1000000 + 74] (by kernel_rfl) (VO.run 80 rfl ?_)
  have MJ:nq1≤1000:=by rw [hV1.len];have:=(xY rows.length q (aD S F e.2 - ai e.1 (aD S F e.2))).2;omega
  refine VO.xS (B:=B) (v:=199) (d2:=62) (d:=e.1 - ai e.1 (aD S F e.2)) (q:=ld q (aD S F e.2 - ai e.1 (aD S F e.2))) kk rfl rfl rfl (fk Tryz.func74) rfl rfl rfl (by show 62 < 2 * 99;omega) (by decide) (fun j hj=> ?_) rfl (fun sX FU Hk=>hV1.kp (aL B) (by (with_reducible (repeat (first | assumption | exact kU _ | exact kR _ | exact Kp.of (U:=UU) (by assumption) | exact aF.of (by assumption) | refine kT ?_ (by assumption)))))) (fun sX FU Hk=>q5.kr) (hK _ g4 (by grind) (by grind)) zG MJ hB (fun BA fx nz nT kH Hl Hm ρ19 k19 b19 fG=> ?_)
  ·have:j=52:=by simpa [ay,AV.cL] using hj
   subst this;exact ⟨(by intro h;cases h),by decide⟩
  obtain ⟨q2,sG⟩:∃ q2:List Vq,q2=kG rows.length (e.1 - ai e.1 (aD S F e.2)) (ld q (aD S F e.2 - ai e.1 (aD S F e.2))):=⟨_,rfl⟩
  rw [←sG] at fG
  have vB:=sG.symm
  refine VO.fu 52 rfl (dJ (by rw [cz,ao,iA];rfl) _ _) (wV rfl ?_)
  (repeat first|refine wN ?_|refine wP rfl ?_|refine af rfl ?_|refine ag rfl ?_|refine wO rfl rfl ?_)
  by_cases lN:nz=0
  ·refine VO.cY (x:=.row 62 fx nz nT) (p:=fun _=>none) (c:=nT) rfl (fun β=>.inr ⟨_,congrArg (fun n=>Value.slice (some ⟨β 62,fx,none⟩) n nT) lN⟩) rfl (fk Tryz.func75) rfl (fun Er MA MB=>wV rfl ?_)
   (repeat first|refine wN ?_|refine wP rfl ?_|refine af rfl ?_|refine ag rfl ?_|refine wO rfl rfl ?_)
   have Bi:q2=[]:=List.eq_nil_of_length_eq_zero (by rw [←fG.len];exact lN)
   have pZ:di S F keep (rows:List aM).length ⟨q,rows,[]⟩ e=⟨q2,rows++[dz S F q e],[]⟩:=by rw [my,vB,vf,Bi];rfl
   (repeat first|refine wN ?_|refine wP rfl ?_|refine af rfl ?_|refine ag rfl ?_|refine wO rfl rfl ?_)
   refine VS.kF (bj _ _) rfl (fun wz β kz oz en=> ?_)
   obtain ⟨o1,o2⟩:=ea (en.own 198 _ _ rfl) 0 g rfl rfl
   have oR:=(en.own 52 _ _ rfl).cls
   rw [List.map_append,ah] at oR
   have nR:=ff hB dT (show cA 99 [g,vb,rb] w 52 (β 52) from (en.own 52 _ _ rfl).new)
   have oV:=(en.own 62 _ _ rfl).cls
   rw [ah] at oV
   have nV:=ff hB dT (show cA 99 [g,vb,rb] w 62 (β 62) from (en.own 62 _ _ rfl).new)
   rw [pZ]
   refine ⟨rfl,oz.1,[g,β 62,β 52],⟨fun b hb=> ?_,_,_,_,o2,?_⟩⟩
   ·simp only [List.mem_cons,List.not_mem_nil,or_false] at hb
    rcases hb with rfl | rfl | rfl
    ·exact zO
    ·exact nV
    ·exact nR
   ·exact .inr (.inr (.inl ⟨β 62,β 52,rfl,rfl,rfl,⟨_,_,_,_,_,_,rfl,oV,fG.kp (aL B) (by (with_reducible (repeat (first | assumption | exact kU _ | exact kR _ | exact Kp.of (U:=UU) (by assumption) | exact aF.of (by assumption) | refine kT ?_ (by assumption)))))⟩,⟨_,_,_,_,rfl,oR,(ft.kp (aB B) (by (with_reducible (repeat (first | assumption | exact kU _ | exact kR _ | exact Kp.of (U:=UU) (by assumption) | exact aF.of (by assumption) | refine kT ?_ (by assumption)))))).o β⟩⟩))
  obtain ⟨pp,qt,Bw⟩:∃ pp qt,q2=pp::qt:=by
   cases q2 with
   | nil=>exact absurd fG.len lN
   | cons pp qt=>exact ⟨pp,qt,rfl⟩
  subst Bw
  obtain ⟨Bj,vY,rfl,hE4,sH⟩:∃ Bj vY,Hl=Bj::vY∧cG B BA Bj pp∧cM (cG B) BA qt vY:=by
   have:=fG.el
   cases this with
   | cons h1 h2=>exact ⟨_,_,rfl,h1,h2⟩
  obtain ⟨s9,p9,n9,c9,t9,y9,m9,d9,rfl,JD⟩:=hE4
  have Bk:=fG.le
  have Bl:=fG.len
  have Bm:=fG.cm
  have jN:kH.length=fx:=fG.pl.resolve_right (by omega)
  refine VO.cH rfl rfl (fk Tryz.func75) rfl lN (by intro h;cases h) (fun Er MA MB=>wV rfl ?_)
  (repeat first|refine wN ?_|refine wP rfl ?_|refine af rfl ?_|refine ag rfl ?_|refine wO rfl rfl ?_)
  refine VO.de rfl (([.int .i64 (pp.1:Int)]:List Value).map .val) rfl (bg jN 0 _ ⟨_,rfl⟩) (wV rfl ?_)
  (repeat first|refine wN ?_|refine wP rfl ?_|refine af rfl ?_|refine ag rfl ?_|refine wO rfl rfl ?_)
  have Hn:IntKind.i64.wrap (((rows:List aM).length:Int) - (keep:Int))=((rows:List aM).length:Int) - (keep:Int):=IntWalk.i64_in _ (by omega)
  by_cases hx:pp.1 + keep=(rows:List aM).length
  ·refine VS.bG rfl (by rw [Hn,beq_iff_eq];omega) ?_
   (repeat first|refine wN ?_|refine wP rfl ?_|refine af rfl ?_|refine ag rfl ?_|refine wO rfl rfl ?_)
   refine VO.de rfl (([.int .i64 (pp.1:Int)]:List Value).map .val) rfl (bg jN 0 _ ⟨_,rfl⟩) (wV rfl ?_)
   (repeat first|refine wN ?_|refine wP rfl ?_|refine af rfl ?_|refine ag rfl ?_|refine wO rfl rfl ?_)
   refine VO.de rfl (([.bool s9,.slice p9 n9 c9,.bool t9,.slice y9 m9 d9]:List Value).map .val) rfl (bg jN 1 _ ⟨[],rfl⟩) (wV rfl ?_)
   (repeat first|refine wN ?_|refine wP rfl ?_|refine af rfl ?_|refine ag rfl ?_|refine wO rfl rfl ?_)
   have fh:=ft.len
   have zw:pp.1 < nX:=by rw [fh,List.length_append,List.length_singleton];omega
   refine VO.cond rfl ⟨by omega,by omega⟩ (wV rfl ?_)
   obtain ⟨rq,zP⟩:∃ rq,(rows++[dz S F q e])[pp.1]? =some rq:=⟨_,List.getElem?_eq_getElem (by rw [←fh];exact zw)⟩
   obtain ⟨zQ,tL,zR⟩:=ft.el.at pp.1 rq zP
   have gG:=ft.fl
   have JE:=ft.le
   refine VO.cond rfl (by show 0 + ((pp.1:Int)).toNat * 28 + 20 + 4≤_;rw [gG,Int.toNat_natCast];omega) (VO.fu 52 rfl (km (new:=[.bool s9,.slice p9 n9 c9,.bool t9,.slice y9 m9 d9]) (o:=20) (ft.el.lens (aB B)) tL (Nat.le_of_ble_eq_true rfl)) (wV rfl ?_))
   (repeat first|refine wN ?_|refine wP rfl ?_|refine af rfl ?_|refine ag rfl ?_|refine wO rfl rfl ?_)
   have hR3:nM (dA B) 28 Er nX lK (qn.set pp.1 (zQ.take 20++([.bool s9,.slice p9 n9 c9,.bool t9,.slice y9 m9 d9]++zQ.drop (20 + ([.bool s9,.slice p9 n9 c9,.bool t9,.slice y9 m9 d9]:List Value).length)))) vg ((rows++[dz S F q e]).modify pp.1 (fun r=>{ r with bl:=pp.2 })):=
    ⟨by rw [List.length_modify];exact fh,by rw [gM zP];exact (ft.el.kp (aB B) (by (with_reducible (repeat (first | assumption | exact kU _ | exact kR _ | exact Kp.of (U:=UU) (by assumption) | exact aF.of (by assumption) | refine kT ?_ (by assumption)))))).set (oY ((aB B).kp zR (by (with_reducible (repeat (first | assumption | exact kU _ | exact kR _ | exact Kp.of (U:=UU) (by assumption) | exact aF.of (by assumption) | refine kT ?_ (by assumption)))))) ⟨_,_,_,_,_,_,_,_,rfl,JD.kp (by (with_reducible (repeat (first | assumption | exact kU _ | exact kR _ | exact Kp.of (U:=UU) (by assumption) | exact aF.of (by assumption) | refine kT ?_ (by assumption)))))⟩),ft.so,ft.sl,ft.le,ft.cm,by
     rw [List.length_append,List.length_map,cW (ko (ft.el.lens (aB B)) (sA ((aB B).len zR) rfl)),List.length_set]
     rw [List.length_append,List.length_map,cW (ft.el.lens (aB B))] at gG
     exact gG⟩
   refine VO.iz rfl rfl (fk Tryz.func76) rfl (by omega) Bk Bm (fun j hj=> ?_) (Nat.le_of_ble_eq_true rfl) (fun w21 k21 b21=>wV rfl ?_)
   ·simp only [ay,AV.cL,List.flatMap_cons,List.flatMap_nil,List.mem_append,List.mem_cons,List.not_mem_nil,or_false,List.append_nil] at hj
    rcases hj with rfl | rfl <;> (intro h;cases h)
   (repeat first|refine wN ?_|refine wP rfl ?_|refine af rfl ?_|refine ag rfl ?_|refine wO rfl rfl ?_)
   have hV4:cX (cG B) 5 w21 (nz - 1) (if nT=1 then fx else fx + 5) (nT - 1) (kH++[.int .i64 (pp.1:Int),.bool s9,.slice p9 n9 c9,.bool t9,.slice y9 m9 d9]) vY Hm qt:=⟨by rw [Bl];rfl,nj jN,by rw [List.all_append,fG.po];rfl,sH.kp (aL B) (by (with_reducible (repeat (first | assumption | exact kU _ | exact kR _ | exact Kp.of (U:=UU) (by assumption) | exact aF.of (by assumption) | refine kT ?_ (by assumption))))),fG.so,by omega,by omega,nk fG.fl⟩
   have pZ:di S F keep (rows:List aM).length ⟨q,rows,[]⟩ e=⟨qt,(rows++[dz S F q e]).modify pp.1 (fun r=>{ r with bl:=pp.2 }),[]⟩:=by
    rw [my,vB,vf]
    exact if_pos hx
   (repeat first|refine wN ?_|refine wP rfl ?_|refine af rfl ?_|refine ag rfl ?_|refine wO rfl rfl ?_)
   refine VS.kF (bj _ _) rfl (fun wz β kz oz en=> ?_)
   obtain ⟨o1,o2⟩:=ea (en.own 198 _ _ rfl) 0 g rfl rfl
   have oR:=(en.own 52 _ _ rfl).cls
   rw [List.map_append,ah] at oR
   have nR:=ff hB dT (show cA 99 [g,vb,rb] w 52 (β 52) from (en.own 52 _ _ rfl).new)
   have oV:=(en.own 62 _ _ rfl).cls
   rw [dG,ah] at oV
   have nV:=ff hB dT (show cA 99 [g,vb,rb] w 62 (β 62) from (en.own 62 _ _ rfl).new)
   rw [pZ]
   refine ⟨rfl,oz.1,[g,β 62,β 52],⟨fun b hb=> ?_,_,_,_,o2,?_⟩⟩
   ·simp only [List.mem_cons,List.not_mem_nil,or_false] at hb
    rcases hb with rfl | rfl | rfl
    ·exact zO
    ·exact nV
    ·exact nR
   ·exact .inr (.inr (.inl ⟨β 62,β 52,rfl,rfl,rfl,⟨_,_,_,_,_,_,rfl,oV,hV4.kp (aL B) (by (with_reducible (repeat (first | assumption | exact kU _ | exact kR _ | exact Kp.of (U:=UU) (by assumption) | exact aF.of (by assumption) | refine kT ?_ (by assumption)))))⟩,⟨_,_,_,_,rfl,oR,(hR3.kp (aB B) (by (with_reducible (repeat (first | assumption | exact kU _ | exact kR _ | exact Kp.of (U:=UU) (by assumption) | exact aF.of (by assumption) | refine kT ?_ (by assumption)))))).o β⟩⟩))
  ·refine VS.bK rfl (by rw [Hn,beq_eq_false_iff_ne];omega) ?_
   have pZ:di S F keep (rows:List aM).length ⟨q,rows,[]⟩ e=⟨pp::qt,rows++[dz S F q e],[]⟩:=by
    rw [my,vB,vf]
    exact if_neg hx
   (repeat first|refine wN ?_|refine wP rfl ?_|refine af rfl ?_|refine ag rfl ?_|refine wO rfl rfl ?_)
   refine VS.kF (bj _ _) rfl (fun wz β kz oz en=> ?_)
   obtain ⟨o1,o2⟩:=ea (en.own 198 _ _ rfl) 0 g rfl rfl
   have oR:=(en.own 52 _ _ rfl).cls
   rw [List.map_append,ah] at oR
   have nR:=ff hB dT (show cA 99 [g,vb,rb] w 52 (β 52) from (en.own 52 _ _ rfl).new)
   have oV:=(en.own 62 _ _ rfl).cls
   rw [ah] at oV
   have nV:=ff hB dT (show cA 99 [g,vb,rb] w 62 (β 62) from (en.own 62 _ _ rfl).new)
   rw [pZ]
   refine ⟨rfl,oz.1,[g,β 62,β 52],⟨fun b hb=> ?_,_,_,_,o2,?_⟩⟩
   ·simp only [List.mem_cons,List.not_mem_nil,or_false] at hb
    rcases hb with rfl | rfl | rfl
    ·exact zO
    ·exact nV
    ·exact nR
   ·exact .inr (.inr (.inl ⟨β 62,β 52,rfl,rfl,rfl,⟨_,_,_,_,_,_,rfl,oV,fG.kp (aL B) (by (with_reducible (repeat (first | assumption | exact kU _ | exact kR _ | exact Kp.of (U:=UU) (by assumption) | exact aF.of (by assumption) | refine kT ?_ (by assumption)))))⟩,⟨_,_,_,_,rfl,oR,(ft.kp (aB B) (by (with_reducible (repeat (first | assumption | exact kU _ | exact kR _ | exact Kp.of (U:=UU) (by assumption) | exact aF.of (by assumption) | refine kT ?_ (by assumption)))))).o β⟩⟩))
 ·obtain ⟨s7,p7,n7,c7,t7,y7,m7,d7,rfl⟩:=q7.form
  refine wV rfl ?_
  (repeat first|refine wN ?_|refine wP rfl ?_|refine af rfl ?_|refine ag rfl ?_|refine wO rfl rfl ?_)
  obtain ⟨Ke,Ci⟩:∃ Ke,Ke=nW rows.length q (aD S F e.2 - ai e.1 (aD S F e.2)):=⟨_,rfl⟩
  rw [←Ci] at hU1
  have vf:([]:List Uq)++nW rows.length q (aD S F e.2 - ai e.1 (aD S F e.2))=Ke:=Ci.symm
  have yo:=hU1
  obtain ⟨u1,u2,u3⟩:=tK (q:=q) (m:=aD S F e.2 - ai e.1 (aD S F e.2)) (fun p hp=>⟨(vX.el p hp).1,(vX.el p hp).2.1⟩) g7 g8
  refine VO.call rfl rfl (fk Tryz.func16) (fun vc Fu yI=>((eT _ _ (ai e.1 (aD S F e.2)) (rh q (aD S F e.2 - ai e.1 (aD S F e.2))) kk kk vc (q4.ki (hK _ g1 (by grind) (by grind))) (q7.ki (hK _ u1 (by grind) (by grind))) (by omega) (by omega)).mono (fun o w2 h=>And.intro h yI.1.size)).mono ?_)
  rintro o w8 ⟨⟨r8,rfl,q8,re⟩,yQ⟩
  obtain ⟨s8,p8,n8,c8,t8,y8,m8,d8,rfl⟩:=q8.form
  refine ⟨_,rfl,re,fun vT _ JZ=>wV rfl ?_⟩
  replace q8:=q8.mono (Nat.le_trans hB yQ)
  (repeat first|refine wN ?_|refine wP rfl ?_|refine af rfl ?_|refine ag rfl ?_|refine wO rfl rfl ?_)
  have Me:((0:Int):Rat)=0:=rfl
  have Bg:dA B w8 [.bool s1,.slice p1 n1 c1,.bool t1,.slice y1 m1 d1,.bool s4,.slice p4 n4 c4,.bool t4,.slice y4 m4 d4,.bool s5,.slice p5 n5 c5,.bool t5,.slice y5 m5 d5,.bool s7,.slice p7 n7 c7,.bool t7,.slice y7 m7 d7,.bool s8,.slice p8 n8 c8,.bool t8,.slice y8 m8 d8,.bool s2,.slice p2 n2 c2,.bool t2,.slice y2 m2 d2,.bool s3,.slice p3 n3 c3,.bool t3,.slice y3 m3 d3] (dz S F q e):=⟨[.bool s1,.slice p1 n1 c1,.bool t1,.slice y1 m1 d1],[.bool s4,.slice p4 n4 c4,.bool t4,.slice y4 m4 d4],[.bool s5,.slice p5 n5 c5,.bool t5,.slice y5 m5 d5],[.bool s7,.slice p7 n7 c7,.bool t7,.slice y7 m7 d7],[.bool s8,.slice p8 n8 c8,.bool t8,.slice y8 m8 d8],[.bool s2,.slice p2 n2 c2,.bool t2,.slice y2 m2 d2],[.bool s3,.slice p3 n3 c3,.bool t3,.slice y3 m3 d3],rfl,⟨_,_,_,_,_,_,_,_,rfl,q1.k⟩,⟨_,_,_,_,_,_,_,_,rfl,q4.k⟩,⟨_,_,_,_,_,_,_,_,rfl,q5.k⟩,⟨_,_,_,_,_,_,_,_,rfl,q7.k⟩,⟨_,_,_,_,_,_,_,_,rfl,q8.k⟩,⟨_,_,_,_,_,_,_,_,rfl,q2.k⟩,⟨_,_,_,_,_,_,_,_,rfl,q3.k⟩⟩
  obtain ⟨ic,ji⟩:=hR.el.ok (aB B)
  have sV:=hR.len
  refine VO.app (bj _ _) (t:=33) (e:=dM) (sz:=28) (n:=nr) (c:=cr) (mm:=1) (known:=sY.flatten.map .val) (spare:=uM.map .val) (del:=some 200) (news:=([.bool s1,.slice p1 n1 c1,.bool t1,.slice y1 m1 d1,.bool s4,.slice p4 n4 c4,.bool t4,.slice y4 m4 d4,.bool s5,.slice p5 n5 c5,.bool t5,.slice y5 m5 d5,.bool s7,.slice p7 n7 c7,.bool t7,.slice y7 m7 d7,.bool s8,.slice p8 n8 c8,.bool t8,.slice y8 m8 d8,.bool s2,.slice p2 n2 c2,.bool t2,.slice y2 m2 d2,.bool s3,.slice p3 n3 c3,.bool t3,.slice y3 m3 d3]:List Value).map .val) (dst:=52) rfl rfl rfl rfl rfl rfl rfl rfl (Nat.le_of_ble_eq_true rfl) rfl (.inr ⟨200,rfl,congrArg (fun l=>some (dM,l)) (List.map_append ..),rfl⟩) (.inl rfl) (by rw [List.length_map,ji,sV]) (by rw [←List.map_append,List.length_map];exact hR.fl) hR.le hR.cm ⟨ao _,ao _,rfl⟩ ⟨aZ ic,aZ hR.so,rfl⟩ rfl (by omega)
   (fun w1 β k1 b1 ho=>⟨_,_,rfl,.inr ⟨β 51,0,rfl,cK (rest:=[]) (ho.own 51 (.base (List.mem_append_right _ (List.mem_singleton.2 rfl))) _ _ rfl) rfl⟩⟩)
   (fun oO lK vg ρ Hf Hg fD jh gU ed Bh iA=>VO.fu 199 rfl (dJ (ao _) _ _) (VO.fu 36 rfl (dJ (ao _) _ _) (wV rfl ?_)))
  (repeat (first | refine wN ?_ | refine wP rfl ?_ | refine af rfl ?_ | refine wO rfl rfl ?_))
  obtain ⟨nX,sC⟩:∃ nX,nX=nr + 1:=⟨_,rfl⟩
  obtain ⟨qn,sD⟩:∃ qn,qn=(sY++[[.bool s1,.slice p1 n1 c1,.bool t1,.slice y1 m1 d1,.bool s4,.slice p4 n4 c4,.bool t4,.slice y4 m4 d4,.bool s5,.slice p5 n5 c5,.bool t5,.slice y5 m5 d5,.bool s7,.slice p7 n7 c7,.bool t7,.slice y7 m7 d7,.bool s8,.slice p8 n8 c8,.bool t8,.slice y8 m8 d8,.bool s2,.slice p2 n2 c2,.bool t2,.slice y2 m2 d2,.bool s3,.slice p3 n3 c3,.bool t3,.slice y3 m3 d3]]:List (List Value)):=⟨_,rfl⟩
  have ft:nM (dA B) 28 oO nX lK qn vg (rows++[dz S F q e]):=by rw [sC,sD];exact ⟨by rw [sV,List.length_append];rfl,(hR.el.kp (aB B) (by (with_reducible (repeat (first | assumption | exact kU _ | exact kR _ | exact Kp.of (U:=UU) (by assumption) | exact aF.of (by assumption) | refine kT ?_ (by assumption)))))).snoc ((aB B).kp Bg (by (with_reducible (repeat (first | assumption | exact kU _ | exact kR _ | exact Kp.of (U:=UU) (by assumption) | exact aF.of (by assumption) | refine kT ?_ (by assumption)))))),Bh,iA,jh,gU,by simpa using ed⟩
  refine VS.narrow [(0,.box 198 0),(2,.val (.int .i64 ((rows:List aM).length:Int))),(5,.box 5 0),(8,.box 8 0)] [(198,(Runner,[.row 199 MF nq1 cq1,.row 52 0 nX lK,.row 36 0 un uc])),(52,(dM,qn.flatten.map AV.val++vg)),(5,(28,([.bool sS,.slice pS nS cS,.bool tS,.slice yS mS dS,.bool sF,.slice pF nF cF,.bool tF,.slice yF mF dF,.int .i64 (keep:Int)]:List Value).map AV.val)),(8,(dM,([.bool s1,.slice p1 n1 c1,.bool t1,.slice y1 m1 d1,.bool s4,.slice p4 n4 c4,.bool t4,.slice y4 m4 d4,.bool s5,.slice p5 n5 c5,.bool t5,.slice y5 m5 d5,.bool s7,.slice p7 n7 c7,.bool t7,.slice y7 m7 d7,.bool s8,.slice p8 n8 c8,.bool t8,.slice y8 m8 d8,.bool s2,.slice p2 n2 c2,.bool t2,.slice y2 m2 d2,.bool s3,.slice p3 n3 c3,.bool t3,.slice y3 m3 d3]:List Value).map AV.val)),(199,(cO,(MG++(MH.flatten++MI)).map AV.val)),(36,(ey,(vsu1.flatten++spu1).map AV.val))] ⟨rfl,rfl,rfl,rfl,trivial⟩ ⟨by rw [sC];rfl,by rw [sD];exact congrArg (fun l=>some (dM,l++vg)) (by simp),rfl,rfl,rfl,rfl,trivial⟩ rfl ⟨.lit rfl,.append (.vals _) (.none iA),.vals _,.vals _,.vals _,.vals _,trivial⟩ ?_
  refine VS.draw (bj _ _) (jS _ _) [1000000 + 74] (by kernel_rfl) (VO.run 80 rfl ?_)
  have MJ:nq1≤1000:=by rw [hV1.len];have:=(xY rows.length q (aD S F e.2 - ai e.1 (aD S F e.2))).2;omega
  refine VO.xS (B:=B) (v:=199) (d2:=62) (d:=e.1 - ai e.1 (aD S F e.2)) (q:=ld q (aD S F e.2 - ai e.1 (aD S F e.2))) kk rfl rfl rfl (fk Tryz.func74) rfl rfl rfl (by show 62 < 2 * 99;omega) (by decide) (fun j hj=> ?_) rfl (fun sX FU Hk=>hV1.kp (aL B) (by (with_reducible (repeat (first | assumption | exact kU _ | exact kR _ | exact Kp.of (U:=UU) (by assumption) | exact aF.of (by assumption) | refine kT ?_ (by assumption)))))) (fun sX FU Hk=>q5.kr) (hK _ g4 (by grind) (by grind)) zG MJ hB (fun BA fx nz nT kH Hl Hm ρ19 k19 b19 fG=> ?_)
  ·have:j=52∨j=36:=by simpa [ay,AV.cL] using hj
   rcases this with rfl | rfl <;> exact ⟨(by intro h;cases h),by decide⟩
  obtain ⟨q2,sG⟩:∃ q2:List Vq,q2=kG rows.length (e.1 - ai e.1 (aD S F e.2)) (ld q (aD S F e.2 - ai e.1 (aD S F e.2))):=⟨_,rfl⟩
  rw [←sG] at fG
  have vB:=sG.symm
  refine VO.fu 52 rfl (dJ (by rw [cz,ao,iA];rfl) _ _) (VO.fu 36 rfl (dJ (ao _) _ _) (wV rfl ?_))
  (repeat first|refine wN ?_|refine wP rfl ?_|refine af rfl ?_|refine ag rfl ?_|refine wO rfl rfl ?_)
  by_cases lN:nz=0
  ·refine VO.cY (x:=.row 62 fx nz nT) (p:=fun _=>none) (c:=nT) rfl (fun β=>.inr ⟨_,congrArg (fun n=>Value.slice (some ⟨β 62,fx,none⟩) n nT) lN⟩) rfl (fk Tryz.func75) rfl (fun Er MA MB=>wV rfl ?_)
   (repeat first|refine wN ?_|refine wP rfl ?_|refine af rfl ?_|refine ag rfl ?_|refine wO rfl rfl ?_)
   have Bi:q2=[]:=List.eq_nil_of_length_eq_zero (by rw [←fG.len];exact lN)
   have pZ:di S F keep (rows:List aM).length ⟨q,rows,[]⟩ e=⟨q2,rows++[dz S F q e],Ke⟩:=by rw [my,vB,vf,Bi];rfl
   (repeat first|refine wN ?_|refine wP rfl ?_|refine af rfl ?_|refine ag rfl ?_|refine wO rfl rfl ?_)
   refine VS.kF (bj _ _) rfl (fun wz β kz oz en=> ?_)
   obtain ⟨o1,o2⟩:=ea (en.own 198 _ _ rfl) 0 g rfl rfl
   have oR:=(en.own 52 _ _ rfl).cls
   rw [List.map_append,ah] at oR
   have nR:=ff hB dT (show cA 99 [g,vb,rb] w 52 (β 52) from (en.own 52 _ _ rfl).new)
   have oV:=(en.own 62 _ _ rfl).cls
   rw [ah] at oV
   have nV:=ff hB dT (show cA 99 [g,vb,rb] w 62 (β 62) from (en.own 62 _ _ rfl).new)
   have oU:=(en.own 36 _ _ rfl).cls
   rw [ah] at oU
   have nU:=ff hB dT (show cA 99 [g,vb,rb] w 36 (β 36) from (en.own 36 _ _ rfl).new)
   rw [pZ]
   refine ⟨rfl,oz.1,[g,β 62,β 52,β 36],⟨fun b hb=> ?_,_,_,_,o2,?_⟩⟩
   ·simp only [List.mem_cons,List.not_mem_nil,or_false] at hb
    rcases hb with rfl | rfl | rfl | rfl
    ·exact zO
    ·exact nV
    ·exact nR
    ·exact nU
   ·exact .inr (.inr (.inr ⟨β 62,β 52,β 36,rfl,⟨_,_,_,_,_,_,rfl,oV,fG.kp (aL B) (by (with_reducible (repeat (first | assumption | exact kU _ | exact kR _ | exact Kp.of (U:=UU) (by assumption) | exact aF.of (by assumption) | refine kT ?_ (by assumption)))))⟩,⟨_,_,_,_,rfl,oR,(ft.kp (aB B) (by (with_reducible (repeat (first | assumption | exact kU _ | exact kR _ | exact Kp.of (U:=UU) (by assumption) | exact aF.of (by assumption) | refine kT ?_ (by assumption)))))).o β⟩,⟨_,_,_,_,rfl,oU,yo.kp (dk B) (by (with_reducible (repeat (first | assumption | exact kU _ | exact kR _ | exact Kp.of (U:=UU) (by assumption) | exact aF.of (by assumption) | refine kT ?_ (by assumption)))))⟩⟩))
  obtain ⟨pp,qt,Bw⟩:∃ pp qt,q2=pp::qt:=by
   cases q2 with
   | nil=>exact absurd fG.len lN
   | cons pp qt=>exact ⟨pp,qt,rfl⟩
  subst Bw
  obtain ⟨Bj,vY,rfl,hE4,sH⟩:∃ Bj vY,Hl=Bj::vY∧cG B BA Bj pp∧cM (cG B) BA qt vY:=by
   have:=fG.el
   cases this with
   | cons h1 h2=>exact ⟨_,_,rfl,h1,h2⟩
  obtain ⟨s9,p9,n9,c9,t9,y9,m9,d9,rfl,JD⟩:=hE4
  have Bk:=fG.le
  have Bl:=fG.len
  have Bm:=fG.cm
  have jN:kH.length=fx:=fG.pl.resolve_right (by omega)
  refine VO.cH rfl rfl (fk Tryz.func75) rfl lN (by intro h;cases h) (fun Er MA MB=>wV rfl ?_)
  (repeat first|refine wN ?_|refine wP rfl ?_|refine af rfl ?_|refine ag rfl ?_|refine wO rfl rfl ?_)
  refine VO.de rfl (([.int .i64 (pp.1:Int)]:List Value).map .val) rfl (bg jN 0 _ ⟨_,rfl⟩) (wV rfl ?_)
  (repeat first|refine wN ?_|refine wP rfl ?_|refine af rfl ?_|refine ag rfl ?_|refine wO rfl rfl ?_)
  have Hn:IntKind.i64.wrap (((rows:List aM).length:Int) - (keep:Int))=((rows:List aM).length:Int) - (keep:Int):=IntWalk.i64_in _ (by omega)
  by_cases hx:pp.1 + keep=(rows:List aM).length
  ·refine VS.bG rfl (by rw [Hn,beq_iff_eq];omega) ?_
   (repeat first|refine wN ?_|refine wP rfl ?_|refine af rfl ?_|refine ag rfl ?_|refine wO rfl rfl ?_)
   refine VO.de rfl (([.int .i64 (pp.1:Int)]:List Value).map .val) rfl (bg jN 0 _ ⟨_,rfl⟩) (wV rfl ?_)
   (repeat first|refine wN ?_|refine wP rfl ?_|refine af rfl ?_|refine ag rfl ?_|refine wO rfl rfl ?_)
   refine VO.de rfl (([.bool s9,.slice p9 n9 c9,.bool t9,.slice y9 m9 d9]:List Value).map .val) rfl (bg jN 1 _ ⟨[],rfl⟩) (wV rfl ?_)
   (repeat first|refine wN ?_|refine wP rfl ?_|refine af rfl ?_|refine ag rfl ?_|refine wO rfl rfl ?_)
   have fh:=ft.len
   have zw:pp.1 < nX:=by rw [fh,List.length_append,List.length_singleton];omega
   refine VO.cond rfl ⟨by omega,by omega⟩ (wV rfl ?_)
   obtain ⟨rq,zP⟩:∃ rq,(rows++[dz S F q e])[pp.1]? =some rq:=⟨_,List.getElem?_eq_getElem (by rw [←fh];exact zw)⟩
   obtain ⟨zQ,tL,zR⟩:=ft.el.at pp.1 rq zP
   have gG:=ft.fl
   have JE:=ft.le
   refine VO.cond rfl (by show 0 + ((pp.1:Int)).toNat * 28 + 20 + 4≤_;rw [gG,Int.toNat_natCast];omega) (VO.fu 52 rfl (km (new:=[.bool s9,.slice p9 n9 c9,.bool t9,.slice y9 m9 d9]) (o:=20) (ft.el.lens (aB B)) tL (Nat.le_of_ble_eq_true rfl)) (wV rfl ?_))
   (repeat first|refine wN ?_|refine wP rfl ?_|refine af rfl ?_|refine ag rfl ?_|refine wO rfl rfl ?_)
   have hR3:nM (dA B) 28 Er nX lK (qn.set pp.1 (zQ.take 20++([.bool s9,.slice p9 n9 c9,.bool t9,.slice y9 m9 d9]++zQ.drop (20 + ([.bool s9,.slice p9 n9 c9,.bool t9,.slice y9 m9 d9]:List Value).length)))) vg ((rows++[dz S F q e]).modify pp.1 (fun r=>{ r with bl:=pp.2 })):=
    ⟨by rw [List.length_modify];exact fh,by rw [gM zP];exact (ft.el.kp (aB B) (by (with_reducible (repeat (first | assumption | exact kU _ | exact kR _ | exact Kp.of (U:=UU) (by assumption) | exact aF.of (by assumption) | refine kT ?_ (by assumption)))))).set (oY ((aB B).kp zR (by (with_reducible (repeat (first | assumption | exact kU _ | exact kR _ | exact Kp.of (U:=UU) (by assumption) | exact aF.of (by assumption) | refine kT ?_ (by assumption)))))) ⟨_,_,_,_,_,_,_,_,rfl,JD.kp (by (with_reducible (repeat (first | assumption | exact kU _ | exact kR _ | exact Kp.of (U:=UU) (by assumption) | exact aF.of (by assumption) | refine kT ?_ (by assumption)))))⟩),ft.so,ft.sl,ft.le,ft.cm,by
     rw [List.length_append,List.length_map,cW (ko (ft.el.lens (aB B)) (sA ((aB B).len zR) rfl)),List.length_set]
     rw [List.length_append,List.length_map,cW (ft.el.lens (aB B))] at gG
     exact gG⟩
   refine VO.iz rfl rfl (fk Tryz.func76) rfl (by omega) Bk Bm (fun j hj=> ?_) (Nat.le_of_ble_eq_true rfl) (fun w21 k21 b21=>wV rfl ?_)
   ·simp only [ay,AV.cL,List.flatMap_cons,List.flatMap_nil,List.mem_append,List.mem_cons,List.not_mem_nil,or_false,List.append_nil] at hj
    rcases hj with rfl | rfl | rfl <;> (intro h;cases h)
   (repeat first|refine wN ?_|refine wP rfl ?_|refine af rfl ?_|refine ag rfl ?_|refine wO rfl rfl ?_)
   have hV4:cX (cG B) 5 w21 (nz - 1) (if nT=1 then fx else fx + 5) (nT - 1) (kH++[.int .i64 (pp.1:Int),.bool s9,.slice p9 n9 c9,.bool t9,.slice y9 m9 d9]) vY Hm qt:=⟨by rw [Bl];rfl,nj jN,by rw [List.all_append,fG.po];rfl,sH.kp (aL B) (by (with_reducible (repeat (first | assumption | exact kU _ | exact kR _ | exact Kp.of (U:=UU) (by assumption) | exact aF.of (by assumption) | refine kT ?_ (by assumption))))),fG.so,by omega,by omega,nk fG.fl⟩
   have pZ:di S F keep (rows:List aM).length ⟨q,rows,[]⟩ e=⟨qt,(rows++[dz S F q e]).modify pp.1 (fun r=>{ r with bl:=pp.2 }),Ke⟩:=by
    rw [my,vB,vf]
    exact if_pos hx
   (repeat first|refine wN ?_|refine wP rfl ?_|refine af rfl ?_|refine ag rfl ?_|refine wO rfl rfl ?_)
   refine VS.kF (bj _ _) rfl (fun wz β kz oz en=> ?_)
   obtain ⟨o1,o2⟩:=ea (en.own 198 _ _ rfl) 0 g rfl rfl
   have oR:=(en.own 52 _ _ rfl).cls
   rw [List.map_append,ah] at oR
   have nR:=ff hB dT (show cA 99 [g,vb,rb] w 52 (β 52) from (en.own 52 _ _ rfl).new)
   have oV:=(en.own 62 _ _ rfl).cls
   rw [dG,ah] at oV
   have nV:=ff hB dT (show cA 99 [g,vb,rb] w 62 (β 62) from (en.own 62 _ _ rfl).new)
   have oU:=(en.own 36 _ _ rfl).cls
   rw [ah] at oU
   have nU:=ff hB dT (show cA 99 [g,vb,rb] w 36 (β 36) from (en.own 36 _ _ rfl).new)
   rw [pZ]
   refine ⟨rfl,oz.1,[g,β 62,β 52,β 36],⟨fun b hb=> ?_,_,_,_,o2,?_⟩⟩
   ·simp only [List.mem_cons,List.not_mem_nil,or_false] at hb
    rcases hb with rfl | rfl | rfl | rfl
    ·exact zO
    ·exact nV
    ·exact nR
    ·exact nU
   ·exact .inr (.inr (.inr ⟨β 62,β 52,β 36,rfl,⟨_,_,_,_,_,_,rfl,oV,hV4.kp (aL B) (by (with_reducible (repeat (first | assumption | exact kU _ | exact kR _ | exact Kp.of (U:=UU) (by assumption) | exact aF.of (by assumption) | refine kT ?_ (by assumption)))))⟩,⟨_,_,_,_,rfl,oR,(hR3.kp (aB B) (by (with_reducible (repeat (first | assumption | exact kU _ | exact kR _ | exact Kp.of (U:=UU) (by assumption) | exact aF.of (by assumption) | refine kT ?_ (by assumption)))))).o β⟩,⟨_,_,_,_,rfl,oU,yo.kp (dk B) (by (with_reducible (repeat (first | assumption | exact kU _ | exact kR _ | exact Kp.of (U:=UU) (by assumption) | exact aF.of (by assumption) | refine kT ?_ (by assumption)))))⟩⟩))
  ·refine VS.bK rfl (by rw [Hn,beq_eq_false_iff_ne];omega) ?_
   have pZ:di S F keep (rows:List aM).length ⟨q,rows,[]⟩ e=⟨pp::qt,rows++[dz S F q e],Ke⟩:=by
    rw [my,vB,vf]
    exact if_neg hx
   (repeat first|refine wN ?_|refine wP rfl ?_|refine af rfl ?_|refine ag rfl ?_|refine wO rfl rfl ?_)
   refine VS.kF (bj _ _) rfl (fun wz β kz oz en=> ?_)
   obtain ⟨o1,o2⟩:=ea (en.own 198 _ _ rfl) 0 g rfl rfl
   have oR:=(en.own 52 _ _ rfl).cls
   rw [List.map_append,ah] at oR
   have nR:=ff hB dT (show cA 99 [g,vb,rb] w 52 (β 52) from (en.own 52 _ _ rfl).new)
   have oV:=(en.own 62 _ _ rfl).cls
   rw [ah] at oV
   have nV:=ff hB dT (show cA 99 [g,vb,rb] w 62 (β 62) from (en.own 62 _ _ rfl).new)
   have oU:=(en.own 36 _ _ rfl).cls
   rw [ah] at oU
   have nU:=ff hB dT (show cA 99 [g,vb,rb] w 36 (β 36) from (en.own 36 _ _ rfl).new)
   rw [pZ]
   refine ⟨rfl,oz.1,[g,β 62,β 52,β 36],⟨fun b hb=> ?_,_,_,_,o2,?_⟩⟩
   ·simp only [List.mem_cons,List.not_mem_nil,or_false] at hb
    rcases hb with rfl | rfl | rfl | rfl
    ·exact zO
    ·exact nV
    ·exact nR
    ·exact nU
   ·exact .inr (.inr (.inr ⟨β 62,β 52,β 36,rfl,⟨_,_,_,_,_,_,rfl,oV,fG.kp (aL B) (by (with_reducible (repeat (first | assumption | exact kU _ | exact kR _ | exact Kp.of (U:=UU) (by assumption) | exact aF.of (by assumption) | refine kT ?_ (by assumption)))))⟩,⟨_,_,_,_,rfl,oR,(ft.kp (aB B) (by (with_reducible (repeat (first | assumption | exact kU _ | exact kR _ | exact Kp.of (U:=UU) (by assumption) | exact aF.of (by assumption) | refine kT ?_ (by assumption)))))).o β⟩,⟨_,_,_,_,rfl,oU,yo.kp (dk B) (by (with_reducible (repeat (first | assumption | exact kU _ | exact kR _ | exact Kp.of (U:=UU) (by assumption) | exact aF.of (by assumption) | refine kT ?_ (by assumption)))))⟩⟩))
end Go.Proofs.YtabalinjfgcfeaaGreat
set_option maxRecDepth 4000
namespace Go.Proofs.YtabalinjfgcfeaaGreat
open Go.RowKit
attribute [local irreducible] aA VS
set_option maxRecDepth 4000 in
set_option maxHeartbeats 16000000 in
theorem iYear_D {B g keep D kk ks:Nat} {M S F:Rat} {e:Rat×Rat} {vb off nq cq:Nat} {pre MD:List Value} {ME:List (List Value)} {rb nr cr:Nat} {sY:List (List Value)} {uM:List Value} {ub nu cu:Nat} {vsu:List (List Value)} {spu:List Value} {q:List Vq} {rows:List aM} {uses:List Uq} {v u:Value} {w:World} (hg:aV w g Runner #[.slice (some ⟨vb,off,none⟩) nq cq,.slice (some ⟨rb,0,none⟩) nr cr,.slice (some ⟨ub,0,none⟩) nu cu]) (BB:aV w vb cO (pre++(ME.flatten++MD)).toArray) (hV:cX (cG B) 5 w nq off cq pre ME MD q) (zS:aV w rb dM (sY.flatten++uM).toArray) (hR:cX (dA B) 28 w nr 0 cr [] sY uM rows) (hcU:aV w ub ey (vsu.flatten++spu).toArray) (hU:cX (nK B) 6 w nu 0 cu [] vsu spu uses)
  (ve:FP w v S F keep ks) (Kc:YrV w u e ks) (sB:1≤ks) (yP:ks≤kk) (zG:kk≤100000) (zN:Iz D (aD S F e.2)) (Eo:aD S F e.2≤M) (Kd:Iz D e.1) (gB: -M≤e.1) (Ep:e.1≤M) (hK:∀ x,Iz D x→-(M + M)≤x→x≤M + M→fo x kk)
  (vX:xZ D M ⟨q,rows,uses⟩) (uK:(rows:List aM).length≤64) (uL:keep≤40) (hB:B≤w.heap.size) (dT:∀ b∈[g,vb,rb,ub],B≤b):
  Calls Tryz.prog 39 #[.pointer (some ⟨g,0,none⟩),v,.int .i64 ((rows:List aM).length:Int),u] w fun o w'=>o=.returned (iC [])∧qJ [g,vb,rb,ub] w w'∧∃ Mz,nA B w' g Mz (di S F keep (rows:List aM).length ⟨q,rows,uses⟩ e):=by
 have hL0:=pH S F e.2
 have hM0:0≤M:=by grind
 obtain ⟨g1,g2,g3,g4,g5,g6,g7,g8,g9⟩:=sx zN hL0 Eo Kd gB Ep
 have zO:B≤g:=dT g (by simp)
 have hlen:=vX.len
 obtain ⟨sS,pS,nS,cS,tS,yS,mS,dS,sF,pF,nF,cF,tF,yF,mF,dF,rfl,hS,hF⟩:=ve
 obtain ⟨sN,pN,nN,cN,tN,yN,mN,dN,sE,pE,nE,cE,tE,yE,mE,dE,rfl,hN,hE⟩:=Kc
 have jA:q.length≤1000:=by dsimp only at hlen;omega
 have Be:uses.length≤1000:=by dsimp only at hlen;omega
 have pX:iI (KU UU) 99 [g,vb,rb,ub] [(Runner,[.row 199 off nq cq,.row 200 0 nr cr,.row 201 0 nu cu]),(cO,(pre++(ME.flatten++MD)).map .val),(dM,(sY.flatten++uM).map .val),(ey,(vsu.flatten++spu).map .val)] w:=by
  have JF:g≠vb:=fun e=>by subst e;exact absurd (bo hg BB) (by decide)
  have h02:g≠rb:=fun e=>by subst e;exact absurd (bo hg zS) (by decide)
  have h03:g≠ub:=fun e=>by subst e;exact absurd (bo hg hcU) (by decide)
  have zF:vb≠rb:=fun e=>by subst e;exact absurd (bo BB zS) (by decide)
  have h13:vb≠ub:=fun e=>by subst e;exact absurd (bo BB hcU) (by decide)
  have h23:rb≠ub:=fun e=>by subst e;exact absurd (bo zS hcU) (by decide)
  refine ⟨rfl,by simp [JF,h02,h03,zF,h13,h23],fun j g' c' hj hc=> ?_,fun c' hc=> ?_,fun c' hc k hk=> ?_⟩
  ·match j,hj,hc with
   | 0,hj,hc=>cases hj;cases hc;exact hg
   | 1,hj,hc=>cases hj;cases hc;rw [ah];exact BB
   | 2,hj,hc=>cases hj;cases hc;rw [ah];exact zS
   | 3,hj,hc=>cases hj;cases hc;rw [ah];exact hcU
   | j + 4,hj,_=>simp at hj
  ·simp only [List.mem_cons,List.not_mem_nil,or_false] at hc
   rcases hc with rfl | rfl | rfl | rfl
   ·exact ⟨rfl,rfl⟩
   ·exact ⟨rfl,aZ (hV.all (aL B))⟩
   ·exact ⟨rfl,aZ (hR.all (aB B))⟩
   ·exact ⟨rfl,aZ (hU.all (dk B))⟩
  ·simp only [List.mem_cons,List.not_mem_nil,or_false] at hc
   rcases hc with rfl | rfl | rfl | rfl
   ·have:k=199∨k=200∨k=201:=by simpa [ay,AV.cL] using hk
    rcases this with rfl | rfl | rfl
    ·exact ⟨by omega,by show 199 < 2 * 99 + 4;omega⟩
    ·exact ⟨by omega,by show 200 < 2 * 99 + 4;omega⟩
    ·exact ⟨by omega,by show 201 < 2 * 99 + 4;omega⟩
   ·rw [ao] at hk;cases hk
   ·rw [ao] at hk;cases hk
   ·rw [ao] at hk;cases hk
 refine dZ Tryz.prog w _ (KU UU) (fun t=>Nat.beq t 22) table (fun _ _=>trivial) (ad:=[g,vb,rb,ub]) (us:=[_,_,_]) Tryz.func39 rfl Tryz.ntmps39 (Nat.le_of_ble_eq_true rfl) pX (Nat.le_of_ble_eq_true rfl) ?_
 (repeat first|refine wN ?_|refine wP rfl ?_|refine af rfl ?_|refine ag rfl ?_|refine wO rfl rfl ?_)
 refine VO.call rfl rfl (fk Tryz.func70) (fun cB eu dt=>((np _ _ S F keep e ks cB ⟨_,_,_,_,_,_,_,_,_,_,_,_,_,_,_,_,rfl,hS.k,hF.k⟩ ⟨_,_,_,_,_,_,_,_,_,_,_,_,_,_,_,_,rfl,hN.k,hE.k⟩ sB (by omega)).mono (fun o w2 h=>And.intro h dt.1.size)).mono ?_)
 rintro o w1 ⟨⟨r1,rfl,q1,aU⟩,FQ⟩
 obtain ⟨s1,p1,n1,c1,t1,y1,m1,d1,rfl⟩:=q1.form
 refine ⟨_,rfl,aU,fun fq _ bb1=>wV rfl ?_⟩
 replace q1:=q1.mono (Nat.le_trans hB FQ)
 (repeat first|refine wN ?_|refine wP rfl ?_|refine af rfl ?_|refine ag rfl ?_|refine wO rfl rfl ?_)
 refine VO.call rfl rfl (fk Tryz.func44) (fun dR gS eW=>((bF 0 dR (by omega) (by omega)).mono (fun o w2 h=>And.intro h eW.1.size)).mono ?_)
 rintro o w2 ⟨⟨r2,rfl,q2,bn⟩,qU⟩
 obtain ⟨s2,p2,n2,c2,t2,y2,m2,d2,rfl⟩:=q2.form
 refine ⟨_,rfl,bn,fun gw _ bb2=>wV rfl ?_⟩
 replace q2:=q2.mono (Nat.le_trans hB qU)
 (repeat first|refine wN ?_|refine wP rfl ?_|refine af rfl ?_|refine ag rfl ?_|refine wO rfl rfl ?_)
 refine VO.call rfl rfl (fk Tryz.func44) (fun gY iD jd=>((bF 0 gY (by omega) (by omega)).mono (fun o w2 h=>And.intro h jd.1.size)).mono ?_)
 rintro o w3 ⟨⟨r3,rfl,q3,cI⟩,yO⟩
 obtain ⟨s3,p3,n3,c3,t3,y3,m3,d3,rfl⟩:=q3.form
 refine ⟨_,rfl,cI,fun kS _ bb3=>wV rfl ?_⟩
 replace q3:=q3.mono (Nat.le_trans hB yO)
 (repeat first|refine wN ?_|refine wP rfl ?_|refine af rfl ?_|refine ag rfl ?_|refine wO rfl rfl ?_)
 refine VO.gi rfl (fk Tryz.func71) (fun mW β pV nI ho=>((fO _ _ e.1 [aD S F e.2] kk mW ((hN.k).up (by omega)) (eE (ho.own 20 (.base (List.mem_singleton.2 rfl)) _ _ rfl) [] (vs:=[[.bool s1,.slice p1 n1 c1,.bool t1,.slice y1 m1 d1]]) (by rfl) rfl (cD.cons (q1.ki (hK _ zN (by grind) (by grind))) cD.nil) (Nat.le_of_ble_eq_true rfl) (by decide)) (by omega) (Nat.le_of_ble_eq_true rfl)).mono (fun o w2 h=>And.intro h nI.1.size)).mono ?_)
 rintro o w4 ⟨⟨r4,rfl,q4,z4,gI⟩,DK⟩
 rw [gV] at q4
 obtain ⟨s4,p4,n4,c4,t4,y4,m4,d4,rfl⟩:=q4.form
 refine ⟨_,rfl,gI,fun oL _ AM=>wV rfl ?_⟩
 replace q4:=q4.mono (Nat.le_trans hB DK)
 (repeat first|refine wN ?_|refine wP rfl ?_|refine af rfl ?_|refine ag rfl ?_|refine wO rfl rfl ?_)
 refine VO.call rfl rfl (fk Tryz.func72) (fun jK mD jy=>((ck _ _ e.1 (ai e.1 (aD S F e.2)) kk kk jK ((hN.k).up (by omega)) (q4.ki (hK _ g1 (by grind) (by grind))) (by omega) (by omega)).mono (fun o w2 h=>And.intro h jy.1.size)).mono ?_)
 rintro o w5 ⟨⟨r5,rfl,q5,fY⟩,pY⟩
 obtain ⟨s5,p5,n5,c5,t5,y5,m5,d5,rfl⟩:=q5.form
 refine ⟨_,rfl,fY,fun mX _ vQ=>wV rfl ?_⟩
 replace q5:=q5.mono (Nat.le_trans hB pY)
 (repeat first|refine wN ?_|refine wP rfl ?_|refine af rfl ?_|refine ag rfl ?_|refine wO rfl rfl ?_)
 refine VO.call rfl rfl (fk Tryz.func72) (fun pW uC uZ=>((ck _ _ (aD S F e.2) (ai e.1 (aD S F e.2)) kk kk pW (q1.ki (hK _ zN (by grind) (by grind))) (q4.ki (hK _ g1 (by grind) (by grind))) (by omega) (by omega)).mono (fun o w2 h=>And.intro h uZ.1.size)).mono ?_)
 rintro o w6 ⟨⟨r6,rfl,q6,ny⟩,FR⟩
 obtain ⟨s6,p6,n6,c6,t6,y6,m6,d6,rfl⟩:=q6.form
 refine ⟨_,rfl,ny,fun tD _ Dl=>wV rfl ?_⟩
 replace q6:=q6.mono (Nat.le_trans hB FR)
 (repeat first|refine wN ?_|refine wP rfl ?_|refine af rfl ?_|refine ag rfl ?_|refine wO rfl rfl ?_)
 have my:di S F keep (rows:List aM).length ⟨q,rows,uses⟩ e=se keep (rows:List aM).length ⟨kG (rows:List aM).length (e.1 - ai e.1 (aD S F e.2)) (ld q (aD S F e.2 - ai e.1 (aD S F e.2))),rows++[dz S F q e],uses++nW (rows:List aM).length q (aD S F e.2 - ai e.1 (aD S F e.2))⟩:=rfl
 refine VO.DJ (u:=201) (us0:=uses) (B:=B) (D:=D) (v:=199) (d2:=36) (M:=M + M) (mm:=aD S F e.2 - ai e.1 (aD S F e.2)) (q:=q) kk rfl rfl rfl (fk Tryz.func73) rfl rfl rfl (fun sX FU Hk=>hU.kp (dk B) (by (with_reducible (repeat (first | assumption | exact kU _ | exact kR _ | exact Kp.of (U:=UU) (by assumption) | exact aF.of (by assumption) | refine kT ?_ (by assumption)))))) Be (by decide) (by decide) rfl (by show 36 < 2 * 99;omega) (by decide) rfl (fun _=>rfl) (fun j hj=> ?_) rfl (fun sX FU Hk=>hV.kp (aL B) (by (with_reducible (repeat (first | assumption | exact kU _ | exact kR _ | exact Kp.of (U:=UU) (by assumption) | exact aF.of (by assumption) | refine kT ?_ (by assumption)))))) (fun sX FU Hk=>q6.kr) g7 g8 g9 (fun p hp=>⟨(vX.el p hp).1,(vX.el p hp).2.1,(vX.el p hp).2.2.1⟩) (fun x h1 h2 h3=>hK x h1 (by grind) h3) zG jA hB (fun w7 r7 MF nq1 cq1 MG MH MI un uc vsu1 spu1 ρ7 k7 b7 q7 hV1 hU1=> ?_)
 ·have:j=200:=by simpa [ay,AV.cL] using hj
  subst this;exact ⟨(by intro h;cases h),by decide⟩
 obtain ⟨s7,p7,n7,c7,t7,y7,m7,d7,rfl⟩:=q7.form
 refine VO.fu 200 rfl (dJ (ao _) _ _) (wV rfl ?_)
 (repeat first|refine wN ?_|refine wP rfl ?_|refine af rfl ?_|refine ag rfl ?_|refine wO rfl rfl ?_)
 obtain ⟨Ke,Ci⟩:∃ Ke,Ke=uses++nW rows.length q (aD S F e.2 - ai e.1 (aD S F e.2)):=⟨_,rfl⟩
 rw [←Ci] at hU1
 have vf:=Ci.symm
 have yo:=hU1
 obtain ⟨u1,u2,u3⟩:=tK (q:=q) (m:=aD S F e.2 - ai e.1 (aD S F e.2)) (fun p hp=>⟨(vX.el p hp).1,(vX.el p hp).2.1⟩) g7 g8
 refine VO.call rfl rfl (fk Tryz.func16) (fun vc Fu yI=>((eT _ _ (ai e.1 (aD S F e.2)) (rh q (aD S F e.2 - ai e.1 (aD S F e.2))) kk kk vc (q4.ki (hK _ g1 (by grind) (by grind))) (q7.ki (hK _ u1 (by grind) (by grind))) (by omega) (by omega)).mono (fun o w2 h=>And.intro h yI.1.size)).mono ?_)
 rintro o w8 ⟨⟨r8,rfl,q8,re⟩,yQ⟩
 obtain ⟨s8,p8,n8,c8,t8,y8,m8,d8,rfl⟩:=q8.form
 refine ⟨_,rfl,re,fun vT _ JZ=>wV rfl ?_⟩
 replace q8:=q8.mono (Nat.le_trans hB yQ)
 (repeat first|refine wN ?_|refine wP rfl ?_|refine af rfl ?_|refine ag rfl ?_|refine wO rfl rfl ?_)
 have Me:((0:Int):Rat)=0:=rfl
 have Bg:dA B w8 [.bool s1,.slice p1 n1 c1,.bool t1,.slice y1 m1 d1,.bool s4,.slice p4 n4 c4,.bool t4,.slice y4 m4 d4,.bool s5,.slice p5 n5 c5,.bool t5,.slice y5 m5 d5,.bool s7,.slice p7 n7 c7,.bool t7,.slice y7 m7 d7,.bool s8,.slice p8 n8 c8,.bool t8,.slice y8 m8 d8,.bool s2,.slice p2 n2 c2,.bool t2,.slice y2 m2 d2,.bool s3,.slice p3 n3 c3,.bool t3,.slice y3 m3 d3] (dz S F q e):=⟨[.bool s1,.slice p1 n1 c1,.bool t1,.slice y1 m1 d1],[.bool s4,.slice p4 n4 c4,.bool t4,.slice y4 m4 d4],[.bool s5,.slice p5 n5 c5,.bool t5,.slice y5 m5 d5],[.bool s7,.slice p7 n7 c7,.bool t7,.slice y7 m7 d7],[.bool s8,.slice p8 n8 c8,.bool t8,.slice y8 m8 d8],[.bool s2,.slice p2 n2 c2,.bool t2,.slice y2 m2 d2],[.bool s3,.slice p3 n3 c3,.bool t3,.slice y3 m3 d3],rfl,⟨_,_,_,_,_,_,_,_,rfl,q1.k⟩,⟨_,_,_,_,_,_,_,_,rfl,q4.k⟩,⟨_,_,_,_,_,_,_,_,rfl,q5.k⟩,⟨_,_,_,_,_,_,_,_,rfl,q7.k⟩,⟨_,_,_,_,_,_,_,_,rfl,q8.k⟩,⟨_,_,_,_,_,_,_,_,rfl,q2.k⟩,⟨_,_,_,_,_,_,_,_,rfl,q3.k⟩⟩
 obtain ⟨ic,ji⟩:=hR.el.ok (aB B)
 have sV:=hR.len
 refine VO.app (bj _ _) (t:=33) (e:=dM) (sz:=28) (n:=nr) (c:=cr) (mm:=1) (known:=sY.flatten.map .val) (spare:=uM.map .val) (del:=some 200) (news:=([.bool s1,.slice p1 n1 c1,.bool t1,.slice y1 m1 d1,.bool s4,.slice p4 n4 c4,.bool t4,.slice y4 m4 d4,.bool s5,.slice p5 n5 c5,.bool t5,.slice y5 m5 d5,.bool s7,.slice p7 n7 c7,.bool t7,.slice y7 m7 d7,.bool s8,.slice p8 n8 c8,.bool t8,.slice y8 m8 d8,.bool s2,.slice p2 n2 c2,.bool t2,.slice y2 m2 d2,.bool s3,.slice p3 n3 c3,.bool t3,.slice y3 m3 d3]:List Value).map .val) (dst:=52) rfl rfl rfl rfl rfl rfl rfl rfl (Nat.le_of_ble_eq_true rfl) rfl (.inr ⟨200,rfl,congrArg (fun l=>some (dM,l)) (List.map_append ..),rfl⟩) (.inl rfl) (by rw [List.length_map,ji,sV]) (by rw [←List.map_append,List.length_map];exact hR.fl) hR.le hR.cm ⟨ao _,ao _,rfl⟩ ⟨aZ ic,aZ hR.so,rfl⟩ rfl (by omega)
  (fun w1 β k1 b1 ho=>⟨_,_,rfl,.inr ⟨β 51,0,rfl,cK (rest:=[]) (ho.own 51 (.base (List.mem_append_right _ (List.mem_singleton.2 rfl))) _ _ rfl) rfl⟩⟩)
  (fun oO lK vg ρ Hf Hg fD jh gU ed Bh iA=>VO.fu 199 rfl (dJ (ao _) _ _) (VO.fu 36 rfl (dJ (ao _) _ _) (wV rfl ?_)))
 (repeat (first | refine wN ?_ | refine wP rfl ?_ | refine af rfl ?_ | refine wO rfl rfl ?_))
 obtain ⟨nX,sC⟩:∃ nX,nX=nr + 1:=⟨_,rfl⟩
 obtain ⟨qn,sD⟩:∃ qn,qn=(sY++[[.bool s1,.slice p1 n1 c1,.bool t1,.slice y1 m1 d1,.bool s4,.slice p4 n4 c4,.bool t4,.slice y4 m4 d4,.bool s5,.slice p5 n5 c5,.bool t5,.slice y5 m5 d5,.bool s7,.slice p7 n7 c7,.bool t7,.slice y7 m7 d7,.bool s8,.slice p8 n8 c8,.bool t8,.slice y8 m8 d8,.bool s2,.slice p2 n2 c2,.bool t2,.slice y2 m2 d2,.bool s3,.slice p3 n3 c3,.bool t3,.slice y3 m3 d3]]:List (List Value)):=⟨_,rfl⟩
 have ft:nM (dA B) 28 oO nX lK qn vg (rows++[dz S F q e]):=by rw [sC,sD];exact ⟨by rw [sV,List.length_append];rfl,(hR.el.kp (aB B) (by (with_reducible (repeat (first | assumption | exact kU _ | exact kR _ | exact Kp.of (U:=UU) (by assumption) | exact aF.of (by assumption) | refine kT ?_ (by assumption)))))).snoc ((aB B).kp Bg (by (with_reducible (repeat (first | assumption | exact kU _ | exact kR _ | exact Kp.of (U:=UU) (by assumption) | exact aF.of (by assumption) | refine kT ?_ (by assumption)))))),Bh,iA,jh,gU,by simpa using ed⟩
 refine VS.narrow [(0,.box 198 0),(2,.val (.int .i64 ((rows:List aM).length:Int))),(5,.box 5 0),(8,.box 8 0)] [(198,(Runner,[.row 199 MF nq1 cq1,.row 52 0 nX lK,.row 36 0 un uc])),(52,(dM,qn.flatten.map AV.val++vg)),(5,(28,([.bool sS,.slice pS nS cS,.bool tS,.slice yS mS dS,.bool sF,.slice pF nF cF,.bool tF,.slice yF mF dF,.int .i64 (keep:Int)]:List Value).map AV.val)),(8,(dM,([.bool s1,.slice p1 n1 c1,.bool t1,.slice y1 m1 d1,.bool s4,.slice p4 n4 c4,.bool t4,.slice y4 m4 d4,.bool s5,.slice p5 n5 c5,.bool t5,.slice y5 m5 d5,.bool s7,.slice p7 n7 c7,.bool t7,.slice y7 m7 d7,.bool s8,.slice p8 n8 c8,.bool t8,.slice y8 m8 d8,.bool s2,.slice p2 n2 c2,.bool t2,.slice y2 m2 d2,.bool s3,.slice p3 n3 c3,.bool t3,.slice y3 m3 d3]:List Value).map AV.val)),(199,(cO,(MG++(MH.flatten++MI)).map AV.val)),(36,(ey,(vsu1.flatten++spu1).map AV.val))] ⟨rfl,rfl,rfl,rfl,trivial⟩ ⟨by rw [sC];rfl,by rw [sD];exact congrArg (fun l=>some (dM,l++vg)) (by simp),rfl,rfl,rfl,rfl,trivial⟩ rfl ⟨.lit rfl,.append (.vals _) (.none iA),.vals _,.vals _,.vals _,.vals _,trivial⟩ ?_
 refine VS.draw (bj _ _) (jS _ _) [1000000 + 74] (by kernel_rfl) (VO.run 80 rfl ?_)
 have MJ:nq1≤1000:=by rw [hV1.len];have:=(xY rows.length q (aD S F e.2 - ai e.1 (aD S F e.2))).2;omega
 refine VO.xS (B:=B) (v:=199) (d2:=62) (d:=e.1 - ai e.1 (aD S F e.2)) (q:=ld q (aD S F e.2 - ai e.1 (aD S F e.2))) kk rfl rfl rfl (fk Tryz.func74) rfl rfl rfl (by show 62 < 2 * 99;omega) (by decide) (fun j hj=> ?_) rfl (fun sX FU Hk=>hV1.kp (aL B) (by (with_reducible (repeat (first | assumption | exact kU _ | exact kR _ | exact Kp.of (U:=UU) (by assumption) | exact aF.of (by assumption) | refine kT ?_ (by assumption)))))) (fun sX FU Hk=>q5.kr) (hK _ g4 (by grind) (by grind)) zG MJ hB (fun BA fx nz nT kH Hl Hm ρ19 k19 b19 fG=> ?_)
 ·have:j=52∨j=36:=by simpa [ay,AV.cL] using hj
  rcases this with rfl | rfl <;> exact ⟨(by intro h;cases h),by decide⟩
 obtain ⟨q2,sG⟩:∃ q2:List Vq,q2=kG rows.length (e.1 - ai e.1 (aD S F e.2)) (ld q (aD S F e.2 - ai e.1 (aD S F e.2))):=⟨_,rfl⟩
 rw [←sG] at fG
 have vB:=sG.symm
 refine VO.fu 52 rfl (dJ (by rw [cz,ao,iA];rfl) _ _) (VO.fu 36 rfl (dJ (ao _) _ _) (wV rfl ?_))
 (repeat first|refine wN ?_|refine wP rfl ?_|refine af rfl ?_|refine ag rfl ?_|refine wO rfl rfl ?_)
 by_cases lN:nz=0
 ·refine VO.cY (x:=.row 62 fx nz nT) (p:=fun _=>none) (c:=nT) rfl (fun β=>.inr ⟨_,congrArg (fun n=>Value.slice (some ⟨β 62,fx,none⟩) n nT) lN⟩) rfl (fk Tryz.func75) rfl (fun Er MA MB=>wV rfl ?_)
  (repeat first|refine wN ?_|refine wP rfl ?_|refine af rfl ?_|refine ag rfl ?_|refine wO rfl rfl ?_)
  have Bi:q2=[]:=List.eq_nil_of_length_eq_zero (by rw [←fG.len];exact lN)
  have pZ:di S F keep (rows:List aM).length ⟨q,rows,uses⟩ e=⟨q2,rows++[dz S F q e],Ke⟩:=by rw [my,vB,vf,Bi];rfl
  (repeat first|refine wN ?_|refine wP rfl ?_|refine af rfl ?_|refine ag rfl ?_|refine wO rfl rfl ?_)
  refine VS.kF (bj _ _) rfl (fun wz β kz oz en=> ?_)
  obtain ⟨o1,o2⟩:=ea (en.own 198 _ _ rfl) 0 g rfl rfl
  have oR:=(en.own 52 _ _ rfl).cls
  rw [List.map_append,ah] at oR
  have nR:=ff hB dT (show cA 99 [g,vb,rb,ub] w 52 (β 52) from (en.own 52 _ _ rfl).new)
  have oV:=(en.own 62 _ _ rfl).cls
  rw [ah] at oV
  have nV:=ff hB dT (show cA 99 [g,vb,rb,ub] w 62 (β 62) from (en.own 62 _ _ rfl).new)
  have oU:=(en.own 36 _ _ rfl).cls
  rw [ah] at oU
  have nU:=ff hB dT (show cA 99 [g,vb,rb,ub] w 36 (β 36) from (en.own 36 _ _ rfl).new)
  rw [pZ]
  refine ⟨rfl,oz.1,[g,β 62,β 52,β 36],⟨fun b hb=> ?_,_,_,_,o2,?_⟩⟩
  ·simp only [List.mem_cons,List.not_mem_nil,or_false] at hb
   rcases hb with rfl | rfl | rfl | rfl
   ·exact zO
   ·exact nV
   ·exact nR
   ·exact nU
  ·exact .inr (.inr (.inr ⟨β 62,β 52,β 36,rfl,⟨_,_,_,_,_,_,rfl,oV,fG.kp (aL B) (by (with_reducible (repeat (first | assumption | exact kU _ | exact kR _ | exact Kp.of (U:=UU) (by assumption) | exact aF.of (by assumption) | refine kT ?_ (by assumption)))))⟩,⟨_,_,_,_,rfl,oR,(ft.kp (aB B) (by (with_reducible (repeat (first | assumption | exact kU _ | exact kR _ | exact Kp.of (U:=UU) (by assumption) | exact aF.of (by assumption) | refine kT ?_ (by assumption)))))).o β⟩,⟨_,_,_,_,rfl,oU,yo.kp (dk B) (by (with_reducible (repeat (first | assumption | exact kU _ | exact kR _ | exact Kp.of (U:=UU) (by assumption) | exact aF.of (by assumption) | refine kT ?_ (by assumption)))))⟩⟩))
 obtain ⟨pp,qt,Bw⟩:∃ pp qt,q2=pp::qt:=by
  cases q2 with
  | nil=>exact absurd fG.len lN
  | cons pp qt=>exact ⟨pp,qt,rfl⟩
 subst Bw
 obtain ⟨Bj,vY,rfl,hE4,sH⟩:∃ Bj vY,Hl=Bj::vY∧cG B BA Bj pp∧cM (cG B) BA qt vY:=by
  have:=fG.el
  cases this with
  | cons h1 h2=>exact ⟨_,_,rfl,h1,h2⟩
 obtain ⟨s9,p9,n9,c9,t9,y9,m9,d9,rfl,JD⟩:=hE4
 have Bk:=fG.le
 have Bl:=fG.len
 have Bm:=fG.cm
 have jN:kH.length=fx:=fG.pl.resolve_right (by omega)
 refine VO.cH rfl rfl (fk Tryz.func75) rfl lN (by intro h;cases h) (fun Er MA MB=>wV rfl ?_)
 (repeat first|refine wN ?_|refine wP rfl ?_|refine af rfl ?_|refine ag rfl ?_|refine wO rfl rfl ?_)
 refine VO.de rfl (([.int .i64 (pp.1:Int)]:List Value).map .val) rfl (bg jN 0 _ ⟨_,rfl⟩) (wV rfl ?_)
 (repeat first|refine wN ?_|refine wP rfl ?_|refine af rfl ?_|refine ag rfl ?_|refine wO rfl rfl ?_)
 have Hn:IntKind.i64.wrap (((rows:List aM).length:Int) - (keep:Int))=((rows:List aM).length:Int) - (keep:Int):=IntWalk.i64_in _ (by omega)
 by_cases hx:pp.1 + keep=(rows:List aM).length
 ·refine VS.bG rfl (by rw [Hn,beq_iff_eq];omega) ?_
  (repeat first|refine wN ?_|refine wP rfl ?_|refine af rfl ?_|refine ag rfl ?_|refine wO rfl rfl ?_)
  refine VO.de rfl (([.int .i64 (pp.1:Int)]:List Value).map .val) rfl (bg jN 0 _ ⟨_,rfl⟩) (wV rfl ?_)
  (repeat first|refine wN ?_|refine wP rfl ?_|refine af rfl ?_|refine ag rfl ?_|refine wO rfl rfl ?_)
  refine VO.de rfl (([.bool s9,.slice p9 n9 c9,.bool t9,.slice y9 m9 d9]:List Value).map .val) rfl (bg jN 1 _ ⟨[],rfl⟩) (wV rfl ?_)
  (repeat first|refine wN ?_|refine wP rfl ?_|refine af rfl ?_|refine ag rfl ?_|refine wO rfl rfl ?_)
  have fh:=ft.len
  have zw:pp.1 < nX:=by rw [fh,List.length_append,List.length_singleton];omega
  refine VO.cond rfl ⟨by omega,by omega⟩ (wV rfl ?_)
  obtain ⟨rq,zP⟩:∃ rq,(rows++[dz S F q e])[pp.1]? =some rq:=⟨_,List.getElem?_eq_getElem (by rw [←fh];exact zw)⟩
  obtain ⟨zQ,tL,zR⟩:=ft.el.at pp.1 rq zP
  have gG:=ft.fl
  have JE:=ft.le
  refine VO.cond rfl (by show 0 + ((pp.1:Int)).toNat * 28 + 20 + 4≤_;rw [gG,Int.toNat_natCast];omega) (VO.fu 52 rfl (km (new:=[.bool s9,.slice p9 n9 c9,.bool t9,.slice y9 m9 d9]) (o:=20) (ft.el.lens (aB B)) tL (Nat.le_of_ble_eq_true rfl)) (wV rfl ?_))
  (repeat first|refine wN ?_|refine wP rfl ?_|refine af rfl ?_|refine ag rfl ?_|refine wO rfl rfl ?_)
  have hR3:nM (dA B) 28 Er nX lK (qn.set pp.1 (zQ.take 20++([.bool s9,.slice p9 n9 c9,.bool t9,.slice y9 m9 d9]++zQ.drop (20 + ([.bool s9,.slice p9 n9 c9,.bool t9,.slice y9 m9 d9]:List Value).length)))) vg ((rows++[dz S F q e]).modify pp.1 (fun r=>{ r with bl:=pp.2 })):=
   ⟨by rw [List.length_modify];exact fh,by rw [gM zP];exact (ft.el.kp (aB B) (by (with_reducible (repeat (first | assumption | exact kU _ | exact kR _ | exact Kp.of (U:=UU) (by assumption) | exact aF.of (by assumption) | refine kT ?_ (by assumption)))))).set (oY ((aB B).kp zR (by (with_reducible (repeat (first | assumption | exact kU _ | exact kR _ | exact Kp.of (U:=UU) (by assumption) | exact aF.of (by assumption) | refine kT ?_ (by assumption)))))) ⟨_,_,_,_,_,_,_,_,rfl,JD.kp (by (with_reducible (repeat (first | assumption | exact kU _ | exact kR _ | exact Kp.of (U:=UU) (by assumption) | exact aF.of (by assumption) | refine kT ?_ (by assumption)))))⟩),ft.so,ft.sl,ft.le,ft.cm,by
    rw [List.length_append,List.length_map,cW (ko (ft.el.lens (aB B)) (sA ((aB B).len zR) rfl)),List.length_set]
    rw [List.length_append,List.length_map,cW (ft.el.lens (aB B))] at gG
    exact gG⟩
  refine VO.iz rfl rfl (fk Tryz.func76) rfl (by omega) Bk Bm (fun j hj=> ?_) (Nat.le_of_ble_eq_true rfl) (fun w21 k21 b21=>wV rfl ?_)
  ·simp only [ay,AV.cL,List.flatMap_cons,List.flatMap_nil,List.mem_append,List.mem_cons,List.not_mem_nil,or_false,List.append_nil] at hj
   rcases hj with rfl | rfl | rfl <;> (intro h;cases h)
  (repeat first|refine wN ?_|refine wP rfl ?_|refine af rfl ?_|refine ag rfl ?_|refine wO rfl rfl ?_)
  have hV4:cX (cG B) 5 w21 (nz - 1) (if nT=1 then fx else fx + 5) (nT - 1) (kH++[.int .i64 (pp.1:Int),.bool s9,.slice p9 n9 c9,.bool t9,.slice y9 m9 d9]) vY Hm qt:=⟨by rw [Bl];rfl,nj jN,by rw [List.all_append,fG.po];rfl,sH.kp (aL B) (by (with_reducible (repeat (first | assumption | exact kU _ | exact kR _ | exact Kp.of (U:=UU) (by assumption) | exact aF.of (by assumption) | refine kT ?_ (by assumption))))),fG.so,by omega,by omega,nk fG.fl⟩
  have pZ:di S F keep (rows:List aM).length ⟨q,rows,uses⟩ e=⟨qt,(rows++[dz S F q e]).modify pp.1 (fun r=>{ r with bl:=pp.2 }),Ke⟩:=by
   rw [my,vB,vf]
   exact if_pos hx
  (repeat first|refine wN ?_|refine wP rfl ?_|refine af rfl ?_|refine ag rfl ?_|refine wO rfl rfl ?_)
  refine VS.kF (bj _ _) rfl (fun wz β kz oz en=> ?_)
  obtain ⟨o1,o2⟩:=ea (en.own 198 _ _ rfl) 0 g rfl rfl
  have oR:=(en.own 52 _ _ rfl).cls
  rw [List.map_append,ah] at oR
  have nR:=ff hB dT (show cA 99 [g,vb,rb,ub] w 52 (β 52) from (en.own 52 _ _ rfl).new)
  have oV:=(en.own 62 _ _ rfl).cls
  rw [dG,ah] at oV
  have nV:=ff hB dT (show cA 99 [g,vb,rb,ub] w 62 (β 62) from (en.own 62 _ _ rfl).new)
  have oU:=(en.own 36 _ _ rfl).cls
  rw [ah] at oU
  have nU:=ff hB dT (show cA 99 [g,vb,rb,ub] w 36 (β 36) from (en.own 36 _ _ rfl).new)
  rw [pZ]
  refine ⟨rfl,oz.1,[g,β 62,β 52,β 36],⟨fun b hb=> ?_,_,_,_,o2,?_⟩⟩
  ·simp only [List.mem_cons,List.not_mem_nil,or_false] at hb
   rcases hb with rfl | rfl | rfl | rfl
   ·exact zO
   ·exact nV
   ·exact nR
   ·exact nU
  ·exact .inr (.inr (.inr ⟨β 62,β 52,β 36,rfl,⟨_,_,_,_,_,_,rfl,oV,hV4.kp (aL B) (by (with_reducible (repeat (first | assumption | exact kU _ | exact kR _ | exact Kp.of (U:=UU) (by assumption) | exact aF.of (by assumption) | refine kT ?_ (by assumption)))))⟩,⟨_,_,_,_,rfl,oR,(hR3.kp (aB B) (by (with_reducible (repeat (first | assumption | exact kU _ | exact kR _ | exact Kp.of (U:=UU) (by assumption) | exact aF.of (by assumption) | refine kT ?_ (by assumption)))))).o β⟩,⟨_,_,_,_,rfl,oU,yo.kp (dk B) (by (with_reducible (repeat (first | assumption | exact kU _ | exact kR _ | exact Kp.of (U:=UU) (by assumption) | exact aF.of (by assumption) | refine kT ?_ (by assumption)))))⟩⟩))
 ·refine VS.bK rfl (by rw [Hn,beq_eq_false_iff_ne];omega) ?_
  have pZ:di S F keep (rows:List aM).length ⟨q,rows,uses⟩ e=⟨pp::qt,rows++[dz S F q e],Ke⟩:=by
   rw [my,vB,vf]
   exact if_neg hx
  (repeat first|refine wN ?_|refine wP rfl ?_|refine af rfl ?_|refine ag rfl ?_|refine wO rfl rfl ?_)
  refine VS.kF (bj _ _) rfl (fun wz β kz oz en=> ?_)
  obtain ⟨o1,o2⟩:=ea (en.own 198 _ _ rfl) 0 g rfl rfl
  have oR:=(en.own 52 _ _ rfl).cls
  rw [List.map_append,ah] at oR
  have nR:=ff hB dT (show cA 99 [g,vb,rb,ub] w 52 (β 52) from (en.own 52 _ _ rfl).new)
  have oV:=(en.own 62 _ _ rfl).cls
  rw [ah] at oV
  have nV:=ff hB dT (show cA 99 [g,vb,rb,ub] w 62 (β 62) from (en.own 62 _ _ rfl).new)
  have oU:=(en.own 36 _ _ rfl).cls
  rw [ah] at oU
  have nU:=ff hB dT (show cA 99 [g,vb,rb,ub] w 36 (β 36) from (en.own 36 _ _ rfl).new)
  rw [pZ]
  refine ⟨rfl,oz.1,[g,β 62,β 52,β 36],⟨fun b hb=> ?_,_,_,_,o2,?_⟩⟩
  ·simp only [List.mem_cons,List.not_mem_nil,or_false] at hb
   rcases hb with rfl | rfl | rfl | rfl
   ·exact zO
   ·exact nV
   ·exact nR
   ·exact nU
  ·exact .inr (.inr (.inr ⟨β 62,β 52,β 36,rfl,⟨_,_,_,_,_,_,rfl,oV,fG.kp (aL B) (by (with_reducible (repeat (first | assumption | exact kU _ | exact kR _ | exact Kp.of (U:=UU) (by assumption) | exact aF.of (by assumption) | refine kT ?_ (by assumption)))))⟩,⟨_,_,_,_,rfl,oR,(ft.kp (aB B) (by (with_reducible (repeat (first | assumption | exact kU _ | exact kR _ | exact Kp.of (U:=UU) (by assumption) | exact aF.of (by assumption) | refine kT ?_ (by assumption)))))).o β⟩,⟨_,_,_,_,rfl,oU,yo.kp (dk B) (by (with_reducible (repeat (first | assumption | exact kU _ | exact kR _ | exact Kp.of (U:=UU) (by assumption) | exact aF.of (by assumption) | refine kT ?_ (by assumption)))))⟩⟩))
end Go.Proofs.YtabalinjfgcfeaaGreat
set_option maxRecDepth 4000
namespace Go.Proofs.YtabalinjfgcfeaaGreat
open Go.RowKit
attribute [local irreducible] aA VS
theorem JG {B g keep D kk ks:Nat} {M S F:Rat} {e:Rat×Rat} {ad:List Nat} {s:DC} {v u:Value} {w:World} (hs:nA B w g ad s)
  (ve:FP w v S F keep ks) (Kc:YrV w u e ks) (sB:1≤ks) (yP:ks≤kk) (zG:kk≤100000) (zN:Iz D (aD S F e.2)) (Eo:aD S F e.2≤M) (Kd:Iz D e.1) (gB: -M≤e.1) (Ep:e.1≤M) (hK:∀ x,Iz D x→-(M + M)≤x→x≤M + M→fo x kk)
  (vX:xZ D M s) (uK:s.rows.length≤64) (uL:keep≤40) (hB:B≤w.heap.size):
  Calls Tryz.prog 39 #[.pointer (some ⟨g,0,none⟩),v,.int .i64 (s.rows.length:Int),u] w fun o w'=>o=.returned (iC [])∧qJ ad w w'∧∃ Mz,nA B w' g Mz (di S F keep s.rows.length s e):=by
 obtain ⟨q,rows,uses⟩:=s
 obtain ⟨had,vv,r,uu,hg,h⟩:=hs
 rcases h with ⟨rfl,rfl,rfl,rfl,rfl,rfl,rfl⟩ | ⟨rb,rfl,rfl,rfl,rfl,rfl,n,c,vs,sp,rfl,h1,h2⟩ | ⟨vb,rb,rfl,rfl,rfl,⟨off,nq,cq,pre,ME,MD,rfl,h3,h4⟩,n,c,vs,sp,rfl,h1,h2⟩ | ⟨vb,rb,ub,rfl,⟨off,nq,cq,pre,ME,MD,rfl,h3,h4⟩,⟨n,c,vs,sp,rfl,h1,h2⟩,n',c',gE,sp',rfl,h5,h6⟩
 ·exact iYear_A (q:=[]) (rows:=[]) (uses:=[]) hg ve Kc sB yP zG zN Eo Kd gB Ep hK vX uK uL hB had
 ·exact iYear_B (q:=[]) (uses:=[]) hg h1 h2 ve Kc sB yP zG zN Eo Kd gB Ep hK vX uK uL hB had
 ·exact iYear_C (uses:=[]) hg h3 h4 h1 h2 ve Kc sB yP zG zN Eo Kd gB Ep hK vX uK uL hB had
 ·exact iYear_D hg h3 h4 h1 h2 h5 h6 ve Kc sB yP zG zN Eo Kd gB Ep hK vX uK uL hB had
abbrev RR:=Bool×List Nat×Bool×List Nat
def RR.q (x:RR):Rat:=rq x.1 x.2.1 x.2.2.1 x.2.2.2
def RR.ok (x:RR):Bool:=Fy x.1 x.2.1 x.2.2.1 x.2.2.2
def tM (w:World) (cs:List Value) (x:RR):Prop:=∃ p c r d,cs=[.bool x.1,.slice p x.2.1.length c,.bool x.2.2.1,.slice r x.2.2.2.length d]∧eR w (.agg #[.bool x.1,.slice p x.2.1.length c,.bool x.2.2.1,.slice r x.2.2.2.length d]) x.1 x.2.1 x.2.2.1 x.2.2.2
theorem tM.kp {T:TypeId→Bool} {w w':World} {cs:List Value} {x:RR} (h:tM w cs x) (k:aF ⟨UU,fun _=>True,T⟩ w w'):tM w' cs x:=by
 obtain ⟨p,c,r,d,h1,h2⟩:=h
 exact ⟨p,c,r,d,h1,h2.kp k⟩
def RR.mC (x:RR) (k:Nat):Prop:=x.2.1.length≤k∧x.2.2.2.length≤k
def ya (kk:Nat) (w:World) (cs:List Value) (e:RR×RR):Prop:=∃ a b,cs=a++b∧tM w a e.1∧tM w b e.2∧e.1.mC kk∧e.2.mC kk
theorem tM.len {w:World} {cs:List Value} {x:RR} (h:tM w cs x):cs.length=4:=by obtain ⟨p,c,r,d,rfl,_⟩:=h;rfl
theorem tM.ok {w:World} {cs:List Value} {x:RR} (h:tM w cs x):cs.all aR=true:=by obtain ⟨p,c,r,d,rfl,_⟩:=h;rfl
theorem fE (kk:Nat):mZ (ya kk) 8 where
 kp:=fun h k=>by
  obtain ⟨a,b,h0,h1,h2,h3⟩:=h
  exact ⟨a,b,h0,h1.kp k,h2.kp k,h3⟩
 len:=fun h=>by obtain ⟨a,b,rfl,h1,h2,h3⟩:=h;rw [List.length_append,h1.len,h2.len]
 ok:=fun h=>by obtain ⟨a,b,rfl,h1,h2,h3⟩:=h;rw [List.all_append,h1.ok,h2.ok];rfl
def jr (w:World) (v:Value) (a b:RR) (keep:Int):Prop:=∃ p c r d p' c' r' d',v=.agg #[.bool a.1,.slice p a.2.1.length c,.bool a.2.2.1,.slice r a.2.2.2.length d,.bool b.1,.slice p' b.2.1.length c',.bool b.2.2.1,.slice r' b.2.2.2.length d',.int .i64 keep]∧
 eR w (.agg #[.bool a.1,.slice p a.2.1.length c,.bool a.2.2.1,.slice r a.2.2.2.length d]) a.1 a.2.1 a.2.2.1 a.2.2.2∧eR w (.agg #[.bool b.1,.slice p' b.2.1.length c',.bool b.2.2.1,.slice r' b.2.2.2.length d']) b.1 b.2.1 b.2.2.1 b.2.2.2
theorem eR.vZ {w:World} {v:Value} {x:RR} {k:Nat} (h:eR w v x.1 x.2.1 x.2.2.1 x.2.2.2) (hk:x.mC k):bO w v x.q k:=⟨_,_,_,_,h,rfl,hk.1,hk.2⟩
theorem jr.v {w:World} {v:Value} {a b:RR} {keep:Int} {ks:Nat} (h:jr w v a b keep) (ha:a.mC ks) (hb:b.mC ks):FP w v a.q b.q keep ks:=by
 obtain ⟨p,c,r,d,p',c',r',d',rfl,h1,h2⟩:=h
 exact ⟨_,_,_,_,_,_,_,_,_,_,_,_,_,_,_,_,rfl,h1.vZ ha,h2.vZ hb⟩
theorem jr.kp {T:TypeId→Bool} {w w':World} {v:Value} {a b:RR} {keep:Int} (h:jr w v a b keep) (k:aF ⟨UU,fun _=>True,T⟩ w w'):jr w' v a b keep:=by
 obtain ⟨p,c,r,d,p',c',r',d',h0,h1,h2⟩:=h
 exact ⟨p,c,r,d,p',c',r',d',h0,h1.kp k,h2.kp k⟩
theorem fV (x:RR) (b:Bool) (hb:x.ok=b) (v:Value) (w:World) (h:eR w v x.1 x.2.1 x.2.2.1 x.2.2.2) {k:Nat} (hx:x.mC k) (hk:k≤100000):
 Calls Tryz.prog 68 #[v] w fun e w'=>e=.returned (.bool b)∧aj w w':=hb▸rY _ _ _ _ v w h (Nat.le_trans hx.1 (by omega)) (Nat.le_trans hx.2 (by omega))
def js (a b:RR) (keep:Int):Bool:=a.ok && (b.ok && (decide (eG a.q 0≥0) && (decide (eG a.q 1≤0) && (decide (keep≥0) && decide (keep≤40)))))
set_option maxRecDepth 4000 in
theorem FV (v:Value) (a b:RR) (keep:Int) (k:Nat) (w:World) (h:jr w v a b keep) (ha:a.mC k) (hb:b.mC k) (hk:k≤100000):
  Calls Tryz.prog 35 #[v] w fun o w'=>o=.returned (.bool (js a b keep))∧aj w w':=by
 obtain ⟨p,c,r,d,p',c',r',d',rfl,h1,h2⟩:=h
 refine aw (C:=bP Tryz.prog w _) (args:=[_]) Tryz.func35 rfl Tryz.ntmps35 (Nat.le_of_ble_eq_true rfl) ?_
 (repeat first|refine wN ?_|refine wP rfl ?_|refine aa rfl ?_|refine ab rfl ?_|refine wO rfl rfl ?_)
 cases e1:a.ok with
 | false=>
   refine VO.call rfl rfl (fk Tryz.func68) (fun cB eu dt=>(fV a false e1 _ cB (h1.kp (Kp.of (U:=UU) dt)) ha hk).mono ?_)
   rintro e w1 ⟨rfl,aU⟩
   skip
   refine ⟨_,rfl,aU,fun fq _ bb1=>wV rfl ?_⟩
   (repeat first|refine wN ?_|refine wP rfl ?_|refine aa rfl ?_|refine ab rfl ?_|refine wO rfl rfl ?_)
   refine VS.ret (aJ _ _) rfl rfl (fun wz kz bz=> ?_)
   exact ⟨by unfold js;rw [e1];rfl,bz⟩
 | true=>
 refine VO.call rfl rfl (fk Tryz.func68) (fun cB eu dt=>(fV a true e1 _ cB (h1.kp (Kp.of (U:=UU) dt)) ha hk).mono ?_)
 rintro e w1 ⟨rfl,aU⟩
 skip
 refine ⟨_,rfl,aU,fun fq _ bb1=>wV rfl ?_⟩
 (repeat first|refine wN ?_|refine wP rfl ?_|refine aa rfl ?_|refine ab rfl ?_|refine wO rfl rfl ?_)
 cases e2:b.ok with
 | false=>
   refine VO.call rfl rfl (fk Tryz.func68) (fun dR gS eW=>(fV b false e2 _ dR (h2.kp (Kp.of (U:=UU) eW)) hb hk).mono ?_)
   rintro e w2 ⟨rfl,bn⟩
   skip
   refine ⟨_,rfl,bn,fun gw _ bb2=>wV rfl ?_⟩
   (repeat first|refine wN ?_|refine wP rfl ?_|refine aa rfl ?_|refine ab rfl ?_|refine wO rfl rfl ?_)
   refine VS.ret (aJ _ _) rfl rfl (fun wz kz bz=> ?_)
   exact ⟨by unfold js;rw [e1,e2];rfl,bz⟩
 | true=>
 refine VO.call rfl rfl (fk Tryz.func68) (fun dR gS eW=>(fV b true e2 _ dR (h2.kp (Kp.of (U:=UU) eW)) hb hk).mono ?_)
 rintro e w2 ⟨rfl,bn⟩
 skip
 refine ⟨_,rfl,bn,fun gw _ bb2=>wV rfl ?_⟩
 (repeat first|refine wN ?_|refine wP rfl ?_|refine aa rfl ?_|refine ab rfl ?_|refine wO rfl rfl ?_)
 obtain ⟨sg,kE⟩:∃ sg,eG a.q 0=sg:=⟨_,rfl⟩
 have hrul:js a b keep=(decide (sg≥0) && (decide (eG a.q 1≤0) && (decide (keep≥0) && decide (keep≤40)))):=by unfold js;rw [e1,e2,kE];rfl
 rw [hrul]
 refine VO.call rfl rfl (fk Tryz.func13) (fun gY iD jd=>(dL _ a.q k gY ((h1.vZ ha).kp (Kp.of (U:=UU) jd)) (by omega) sg kE).mono ?_)
 rintro e w3 ⟨rfl,cI⟩
 skip
 refine ⟨_,rfl,cI,fun kS _ bb3=>wV rfl ?_⟩
 (repeat first|refine wN ?_|refine wP rfl ?_|refine aa rfl ?_|refine ab rfl ?_|refine wO rfl rfl ?_)
 by_cases e3':sg < 0
 ·have e3:¬ sg≥0:=by omega
  rw [decide_eq_false e3]
  (repeat first|refine wN ?_|refine wP rfl ?_|refine aa rfl ?_|refine ab rfl ?_|refine wO rfl rfl ?_)
  refine VS.ret (aJ _ _) rfl rfl (fun wz kz bz=> ?_)
  exact ⟨rfl,bz⟩
 have e3:sg≥0:=by omega
 rw [decide_eq_true e3]
 (repeat first|refine wN ?_|refine wP rfl ?_|refine aa rfl ?_|refine ab rfl ?_|refine wO rfl rfl ?_)
 refine VO.call rfl rfl (fk Tryz.func44) (fun mW pV nI=>(bF 1 mW (by omega) (by omega)).mono ?_)
 rintro e w4 ⟨r4,rfl,q4,gI⟩
 obtain ⟨s4,p4,n4,c4,t4,y4,m4,d4,rfl⟩:=q4.form
 refine ⟨_,rfl,gI,fun oL _ AM=>wV rfl ?_⟩
 (repeat first|refine wN ?_|refine wP rfl ?_|refine aa rfl ?_|refine ab rfl ?_|refine wO rfl rfl ?_)
 have h11:((1:Int):Rat)=1:=rfl
 rw [h11] at q4
 obtain ⟨cm,fy⟩:∃ cm,eG a.q 1=cm:=⟨_,rfl⟩
 rw [fy]
 refine VO.call rfl rfl (fk Tryz.func12) (fun jK mD jy=>(cT _ _ a.q 1 k 1 jK ((h1.vZ ha).kp (Kp.of (U:=UU) jy)) (q4.ki ⟨Sz.small (by decide),Sz.small (by decide)⟩) (by omega) (by omega) cm fy).mono ?_)
 rintro e w5 ⟨rfl,fY⟩
 skip
 refine ⟨_,rfl,fY,fun mX _ vQ=>wV rfl ?_⟩
 (repeat first|refine wN ?_|refine wP rfl ?_|refine aa rfl ?_|refine ab rfl ?_|refine wO rfl rfl ?_)
 by_cases e4':0 < cm
 ·have e4:¬ cm≤0:=by omega
  rw [decide_eq_false e4]
  (repeat first|refine wN ?_|refine wP rfl ?_|refine aa rfl ?_|refine ab rfl ?_|refine wO rfl rfl ?_)
  refine VS.ret (aJ _ _) rfl rfl (fun wz kz bz=> ?_)
  exact ⟨rfl,bz⟩
 have e4:cm≤0:=by omega
 rw [decide_eq_true e4]
 (repeat first|refine wN ?_|refine wP rfl ?_|refine aa rfl ?_|refine ab rfl ?_|refine wO rfl rfl ?_)
 by_cases e5':keep < 0
 ·have e5:¬ keep≥0:=by omega
  rw [decide_eq_false e5]
  (repeat first|refine wN ?_|refine wP rfl ?_|refine aa rfl ?_|refine ab rfl ?_|refine wO rfl rfl ?_)
  refine VS.ret (aJ _ _) rfl rfl (fun wz kz bz=> ?_)
  exact ⟨rfl,bz⟩
 have e5:keep≥0:=by omega
 rw [decide_eq_true e5]
 (repeat first|refine wN ?_|refine wP rfl ?_|refine aa rfl ?_|refine ab rfl ?_|refine wO rfl rfl ?_)
 refine VS.ret (aJ _ _) rfl rfl (fun wz kz bz=> ?_)
 exact ⟨rfl,bz⟩
theorem DN (v:Value) (cs:List Value) (e:RR×RR) (k:Nat) (w:World) (hv:v=.agg cs.toArray) (h:ya k w cs e) (hk:k≤100000):
  Calls Tryz.prog 38 #[v] w fun o w'=>o=.returned (.bool (e.1.ok && e.2.ok))∧aj w w':=by
 obtain ⟨_,_,rfl,⟨p,c,r,d,rfl,h1⟩,⟨p',c',r',d',rfl,h2⟩,ha,hb⟩:=h
 subst hv
 refine aw (C:=bP Tryz.prog w _) (args:=[_]) Tryz.func38 rfl Tryz.ntmps38 (Nat.le_of_ble_eq_true rfl) ?_
 (repeat first|refine wN ?_|refine wP rfl ?_|refine aa rfl ?_|refine ab rfl ?_|refine wO rfl rfl ?_)
 cases e1:e.1.ok with
 | false=>
   refine VO.call rfl rfl (fk Tryz.func68) (fun cB eu dt=>(fV e.1 false e1 _ cB (h1.kp (Kp.of (U:=UU) dt)) ha hk).mono ?_)
   rintro e w1 ⟨rfl,aU⟩
   skip
   refine ⟨_,rfl,aU,fun fq _ bb1=>wV rfl ?_⟩
   (repeat first|refine wN ?_|refine wP rfl ?_|refine aa rfl ?_|refine ab rfl ?_|refine wO rfl rfl ?_)
   refine VS.ret (aJ _ _) rfl rfl (fun wz kz bz=> ?_)
   exact ⟨rfl,bz⟩
 | true=>
 refine VO.call rfl rfl (fk Tryz.func68) (fun cB eu dt=>(fV e.1 true e1 _ cB (h1.kp (Kp.of (U:=UU) dt)) ha hk).mono ?_)
 rintro e w1 ⟨rfl,aU⟩
 skip
 refine ⟨_,rfl,aU,fun fq _ bb1=>wV rfl ?_⟩
 (repeat first|refine wN ?_|refine wP rfl ?_|refine aa rfl ?_|refine ab rfl ?_|refine wO rfl rfl ?_)
 obtain ⟨b2,bn⟩:∃ b2,e.2.ok=b2:=⟨_,rfl⟩
 rw [bn]
 refine VO.call rfl rfl (fk Tryz.func68) (fun dR gS eW=>(fV e.2 b2 bn _ dR (h2.kp (Kp.of (U:=UU) eW)) hb hk).mono ?_)
 rintro e w2 ⟨rfl,bn⟩
 skip
 refine ⟨_,rfl,bn,fun gw _ bb2=>wV rfl ?_⟩
 (repeat first|refine wN ?_|refine wP rfl ?_|refine aa rfl ?_|refine ab rfl ?_|refine wO rfl rfl ?_)
 refine VS.ret (aJ _ _) rfl rfl (fun wz kz bz=> ?_)
 exact ⟨rfl,bz⟩
def qa (e:RR×RR):Bool:=e.1.ok && e.2.ok
theorem FX (v:Value) (cs:List Value) (e:RR×RR) (k:Nat) (w:World) (hv:v=.agg cs.toArray) (h:ya k w cs e) (hk:k≤100000) (b:Bool) (hb:qa e=b):
 Calls Tryz.prog 38 #[v] w fun o w'=>o=.returned (.bool b)∧aj w w':=hb▸DN v cs e k w hv h hk
theorem zT (v:Value) (cs:List Value) (e:RR×RR) (k:Nat) (w:World) (hv:v=.agg cs.toArray) (h:ya k w cs e) (hk:k≤100000) (b:Bool) (hb:qa e=b):
  Calls Tryz.prog 37 #[v] w fun o w'=>o=.returned (.bool !b)∧aj w w':=by
 have h0:=h
 obtain ⟨_,_,rfl,⟨p,c,r,d,rfl,h1⟩,⟨p',c',r',d',rfl,h2⟩,ha,yU⟩:=h
 subst hv
 refine aw (C:=bP Tryz.prog w _) (args:=[_]) Tryz.func37 rfl Tryz.ntmps37 (Nat.le_of_ble_eq_true rfl) ?_
 (repeat first|refine wN ?_|refine wP rfl ?_|refine aa rfl ?_|refine ab rfl ?_|refine wO rfl rfl ?_)
 refine VO.call rfl rfl (fk Tryz.func38) (fun cB eu dt=>(FX _ _ e k cB rfl ((fE k).kp h0 (Kp.of (U:=UU) dt)) hk b hb).mono ?_)
 rintro e w1 ⟨rfl,aU⟩
 skip
 refine ⟨_,rfl,aU,fun fq _ bb1=>wV rfl ?_⟩
 (repeat first|refine wN ?_|refine wP rfl ?_|refine aa rfl ?_|refine ab rfl ?_|refine wO rfl rfl ?_)
 refine VS.ret (aJ _ _) rfl rfl (fun wz kz bz=> ?_)
 exact ⟨rfl,bz⟩
end Go.Proofs.YtabalinjfgcfeaaGreat
namespace Go.Proofs.YtabalinjfgcfeaaGreat
open Go.RowKit
section
variable {C:Cx} {F:Fr} {H:Hp} {w:World} {m:Option (List FuncId)} {full:Array Oper} {K:Fr→Hp→World→Prop} {o:Oper} {r:List Oper} {Q:Exit→Act→World→Prop} {k:List It}
def sI (F:Fr) (β bC:Nat→Nat) (lo hi:Nat):List (Nat×AV)→Prop
 | []=>True
 | p::r=>(∃ u,F p.1=some u∧p.2.aX bC=u.aX β∧∀ i∈p.2.ids,lo≤i∧i < hi)∧sI F β bC lo hi r
theorem sI.mem {β bC:Nat→Nat} {lo hi:Nat}:∀ {L:List (Nat×AV)} {d:Nat} {v:AV},sI F β bC lo hi L→(d,v)∈L→∃ u,F d=some u∧v.aX bC=u.aX β∧∀ i∈v.ids,lo≤i∧i < hi
 | p::r,d,v,h,hm=>by
   rcases List.mem_cons.1 hm with rfl | hm
   ·exact h.1
   ·exact sI.mem h.2 hm
theorem VS.sJ (K:KC) (SU:TypeId→Bool) (ti:TypeId→Option TI) (keep:∀ (w':World) b,b < w'.heap.size→K.S b)
  (h:∀ w' β,aF C.K w w'→C.Old w'→Ends C β H w'→∃ (ad:List Nat) (l:List (TypeId×List AV)) (hl:iI K C.N ad l w') (L:List (Nat×AV)),sI F β (adB C.N ad) (2 * C.N) (2 * C.N + l.length) L∧
   VS (IX C.P w' C.N K SU ti (keep w') ad hl.nodup hl.ad) Q k (Fr.of L) (Hp.Js (2 * C.N) l) w'):VS C Q k F H w:=fun β a w' hr hk=>by
 obtain ⟨ad,l,hl,L,hL,hv⟩:=h w' β hk hr.old ⟨hr.own,hr.apart⟩
 have yp:∀ i c,Hp.Js (2 * C.N) l i=some c→2 * C.N≤i∧l[i - 2 * C.N]? =some c:=fun i c hi=>by
  rw [Hp.nb] at hi
  split at hi
  ·exact ⟨by assumption,hi⟩
  ·cases hi
 have hsome:∀ i,Hp.Js (2 * C.N) l i≠none→2 * C.N≤i∧i - 2 * C.N < l.length:=fun i hi=>by
  cases hh:Hp.Js (2 * C.N) l i with
  | none=>exact absurd hh hi
  | some c=>
    obtain ⟨h1,h2⟩:=yp i c hh
    exact ⟨h1,(List.getElem?_eq_some_iff.1 h2).1⟩
 have hval:∀ k,k < ad.length→ad[k]? =some (ad.getD k 0):=fun k hk=>by simp [List.getD_eq_getElem?_getD,hk]
 refine hv (adB C.N ad) a w' ⟨hr.defers,hr.size,fun d v hd=> ?_,fun i t cs hi=> ?_,fun i j hi hj e=> ?_,fun d v hd i hi=> ?_,fun d v hd=> ?_,⟨fun i t cs hi=> ?_,fun i t cs hi=> ?_,fun i hi=> ?_⟩,(IX C.P w' C.N K SU ti (keep w') ad hl.nodup hl.ad).pe⟩ (aF.refl _ _)
 ·obtain ⟨u,h1,h2,_⟩:=hL.mem (Fr.fN hd)
  rw [h2]
  exact hr.tmp d u h1
 ·obtain ⟨h1,h2⟩:=yp i _ hi
  have hlt:=(List.getElem?_eq_some_iff.1 h2).1
  obtain ⟨g1,g2⟩:=hl.ok _ (List.mem_of_getElem? h2)
  have hv:=hval (i - 2 * C.N) (by rw [hl.len];exact hlt)
  refine ⟨?_,g1,hl.cls _ _ _ hv h2,g2⟩
  show cA C.N ad w' i (adB C.N ad i)
  unfold cA
  rw [if_pos h1]
  exact hv
 ·obtain ⟨h1,h2⟩:=hsome i hi
  obtain ⟨h3,h4⟩:=hsome j hj
  have e1:=hval (i - 2 * C.N) (by rw [hl.len];exact h2)
  have e2:=hval (j - 2 * C.N) (by rw [hl.len];exact h4)
  have e':ad.getD (i - 2 * C.N) 0=ad.getD (j - 2 * C.N) 0:=e
  rw [←e'] at e2
  have:=(List.getElem?_inj (by rw [hl.len];exact h2) hl.nodup).1 (e1.trans e2.symm)
  omega
 ·obtain ⟨u,h1,h2,h3⟩:=hL.mem (Fr.fN hd)
  obtain ⟨h4,h5⟩:=h3 i hi
  rw [Hp.nb,if_pos h4,List.getElem?_eq_getElem (by omega)]
  simp
 ·obtain ⟨u,h1,h2,h3⟩:=hL.mem (Fr.fN hd)
  exact hr.fits d u h1
 ·obtain ⟨h1,h2⟩:=yp i _ hi
  exact hl.ok _ (List.mem_of_getElem? h2)
 ·obtain ⟨h1,h2⟩:=yp i _ hi
  intro j hj
  obtain ⟨h3,h4⟩:=hl.ids _ (List.mem_of_getElem? h2) j hj
  rw [Hp.nb,if_pos h3,List.getElem?_eq_getElem (by omega)]
  simp
 ·have sW:2 * C.N + ad.length≤i:=hi
  rw [Hp.nb]
  split
  ·exact List.getElem?_eq_none (by rw [←hl.len];omega)
  ·rfl
def MK (C:Cx) (Q:Exit→Act→World→Prop) (k:List It) (full:Array Oper) (o:Oper) (F:Fr) (H:Hp) (w:World):Prop:=
 ∃ (g:FuncId) (args:List AV) (vs:List Value) (D:World→Cx),stepOf C full F H o=.call (.fn g args)∧ik args=some vs∧ou C.P g∧(∀ w,(D w).P=C.P)∧(∀ w,(D w).N=C.N)∧(∀ w,Cx.Old (D w) w)∧
   ∀ w1,aF C.K w w1→C.Old w1→Calls C.P g vs.toArray w1 fun e w2=>∃ v L,e=.returned v∧DB F L∧(∀ p∈L,o.dst≠some p.1)∧VS (D w2) Q k (Fr.vals L) (fun _=>none) w2
theorem VS.regionM (hC:C.Ok) {id:Nat} {ops:Array Oper} (j:Nat) {o:Oper} (hj:ops.toList.drop j=[o]) (hd:ops.toList.all mr=true) (ho:mr o=true)
  (h:aA C none ops (ops.toList.take j) (MK C Q k ops o) F H w):VS C Q (.code (.region id ops false)::k) F H w:=fun β a w' hr hk=>by
 refine (wpIn_wide (n:=0)).1 (wpIn_region_list ?_)
 rw [←List.take_append_drop j ops.toList,hj]
 refine uG iy.wide hC (tl:=[o]) (fun β F H w a w' h hr hk=> ?_) (ops.toList.take j) (List.all_eq_true.2 fun o ho=>List.all_eq_true.1 hd o (List.mem_of_mem_take ho)) β F H w a w' h hr hk
 obtain ⟨g,args,vs,D,e,hv,hf,hP,hN,hO,jl⟩:=h
 refine wpListIn_step fun K hK=> ?_
 have hb:stepOf C ops F H o≠.bad:=fun e'=>by rw [e] at e';cases e'
 obtain ⟨iR,⟨hw,hs⟩ | ⟨hw,hs⟩⟩:=iT hb
 ·rw [hs] at e;cases e
 ·rw [oy hr hw,if_pos rfl]
  refine iy.wide.op ho (GI hr (hs.symm.trans e) ?_)
  refine ⟨hf,?_⟩
  rw [jj hv,gQ]
  refine (jl w' hk hr.old).mono ?_
  rintro e w2 ⟨v,L,rfl,hL,hLd,hcont⟩
  refine ⟨v,rfl,hK _ _ ?_⟩
  show post C.P Q k .normal _ w2
  have yu:=hr.knows hL
  have sR:Knows (D w2).N L (a.put o.dst v):=by
   rw [hN]
   cases hod:o.dst with
   | none=>exact yu
   | some d=>
     refine ⟨yu.defers,by simp [Act.put];exact yu.size,fun p hp=>⟨(yu.tmp p hp).1,?_⟩⟩
     have hne:d≠p.1:=fun e=>hLd p hp (by rw [hod,e])
     have:=(yu.tmp p hp).2
     simp [Act.put,Array.getD_eq_getD_getElem?,Array.getElem?_setIfInBounds,hne] at this ⊢
     exact this
  have:=hcont _ _ w2 (sR.rel (hO w2)) (aF.refl _ _)
  rw [hP] at this
  exact this
end
end Go.Proofs.YtabalinjfgcfeaaGreat
