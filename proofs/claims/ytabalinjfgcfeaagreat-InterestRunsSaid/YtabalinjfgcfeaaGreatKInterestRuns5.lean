/- Di of the proof,laid behind one another. -/
import Derived.Test.YtabalinjfgcfeaaGreatKInterestRuns4
set_option linter.all false
set_option maxHeartbeats 64000000
set_option maxRecDepth 4000
namespace Go.Proofs.YtabalinjfgcfeaaGreat
section
open Go.RowKit
attribute [local irreducible] aB VS
def Iz (D:Nat) (x:Rat):Prop:=∃ n:Int,x * ((D:Int):Rat)=((n:Int):Rat)
theorem Iz.zero {D:Nat}:Iz D 0:=⟨0,by rw [Rat.zero_mul];rfl⟩
theorem Iz.add {D:Nat} {x y:Rat} (h:Iz D x) (k:Iz D y):Iz D (x + y):=by
 obtain ⟨a,ha⟩:=h;obtain ⟨b,hb⟩:=k
 exact ⟨a + b,by rw [Rat.intCast_add,<-ha,<-hb];grind⟩
theorem Iz.sub {D:Nat} {x y:Rat} (h:Iz D x) (k:Iz D y):Iz D (x - y):=by
 obtain ⟨a,ha⟩:=h;obtain ⟨b,hb⟩:=k
 exact ⟨a - b,by rw [Rat.intCast_sub,<-ha,<-hb];grind⟩
theorem VO.via {C:Cx} {m:Option (List FuncId)} {full:Array Oper} {l:List Oper} {Q:Exit->Act->World->Prop} {F:Fr} {H:Hp} {w:World} {P:Fr->Hp->World->Prop} {SD SE:List It} (h1:(∀ F' H' w',P F' H' w'->VS C Q SE F' H' w')->aB C m full l (VS C Q SD) F H w) (h2:∀ F' H' w',P F' H' w'->VS C Q SE F' H' w'):aB C m full l (VS C Q SD) F H w:=h1 h2
theorem Ac {d:Rat} (h:d≠0):ea d 0≠0:=fun e=>h (by
 have h1:=lJ.1 (show ea d 0≤0 by omega)
 have h2:=vw.1 (show ea d 0≥0 by omega)
 grind)
theorem rnr_ok' {a y:AV} {r:Value} (h:aG a=true) (hr:aU r=true) (hu:aG y=true):[a,.val r,y].all aG=true:=by
 rw [List.all_cons,List.all_cons,List.all_cons,h,hu]
 show (true && (aU r && true))=true
 rw [hr];rfl
structure yu (B:Nat) (w:World) (n c:Nat) (vs:List (List Value)) (sp:List AV) (es:List Uq):Prop where
 len:n=es.length
 el:ck (qw B) w es vs
 so:sp.all aG=true
 sl:ax sp=[]
 le:n≤c
 cm:c≤9223372036854775807
 fl:(vs.flatten.map AV.val++sp).length=c * 6
theorem yu.kp {B n c:Nat} {w w':World} {vs:List (List Value)} {sp:List AV} {es:List Uq} (h:yu B w n c vs sp es) (k:Kp UU w w'):yu B w' n c vs sp es:=⟨h.len,h.el.kp (dR B) k,h.so,h.sl,h.le,h.cm,h.fl⟩
theorem yu.o {B n c:Nat} {w:World} {vs:List (List Value)} {sp:List AV} {es:List Uq} (h:yu B w n c vs sp es) (β:Nat->Nat):dL (qw B) 6 w n 0 c [] vs (sp.map (AV.leaf β)) es:=
 ⟨h.len,.inl rfl,rfl,h.el,dv h.so,h.le,h.cm,by have:=h.fl;rw [List.length_append,List.length_map] at this;rw [List.length_append,List.length_map];exact this⟩
theorem bD {pre:List Value} {off:Nat} {cs:List Value} {vs:List (List Value)} {spare:List Value} (jS:pre.length=off) (k:Nat) (ds:List Value) (hd:ds <+:cs.drop k):∀ (j:Nat) (u:AV),(ds.map AV.val)[j]? =some u->((pre++((cs::vs).flatten++spare)).map AV.val)[off + k + j]? =some u:=by
 intro j u hj
 obtain ⟨t,ht⟩:=hd
 rw [List.getElem?_map] at hj ⊢
 have hlt:j < ds.length:=by
  by_cases h:j < ds.length
  ·exact h
  ·rw [List.getElem?_eq_none aa] at hj;cases hj
 have hk:k + j < cs.length:=by
  have:=congrArg List.length ht
  rw [List.length_append,List.length_drop] at this;omega
 rw [List.getElem?_append_right aa,jS,List.flatten_cons,List.append_assoc,show off + k + j - off=k + j by omega,List.getElem?_append_left hk,<-List.getElem?_drop,<-ht,List.getElem?_append_left hlt]
 exact hj
theorem vD {pre:List Value} {off:Nat} {a x1 x2 x3 x4 y1 y2 y3 y4:Value} {vs:List (List Value)} {spare:List Value} (jS:pre.length=off):
  ((pre++(([a,x1,x2,x3,x4]::vs).flatten++spare)).map AV.val).take (off + 1)++([.val y1,.val y2,.val y3,.val y4]++((pre++(([a,x1,x2,x3,x4]::vs).flatten++spare)).map AV.val).drop (off + 1 + 4))=(pre++(([a,y1,y2,y3,y4]::vs).flatten++spare)).map AV.val:=by
 have e:off=(pre.map AV.val).length:=by rw [List.length_map];exact jS.symm
 rw [List.map_append,e,Nat.add_assoc,List.take_length_add_append,List.drop_length_add_append,List.append_assoc,List.map_append]
 simp
theorem pT {pre:List Value} {off c':Nat} {a y1 y2 y3 y4:Value} (jS:pre.length=off):(pre++[a,y1,y2,y3,y4]).length=(if c'=1 then off else off + 5)\/c' - 1=0:=by
 by_cases h:c'=1
 ·exact .inr aa
 ·rw [if_neg h,List.length_append,jS];exact .inl rfl
theorem pU {a x1 x2 x3 x4:Value} {vs:List (List Value)} {spare:List Value} {c':Nat} (h:(([a,x1,x2,x3,x4]::vs).flatten++spare).length=c' * 5):(vs.flatten++spare).length=(c' - 1) * 5:=by
 rw [List.flatten_cons,List.append_assoc,List.length_append] at h
 have h':5 + (vs.flatten++spare).length=c' * 5:=h
 omega
theorem eG (pre cs:List Value) (vs:List (List Value)) (spare:List Value):(pre++((cs::vs).flatten++spare)).map AV.val=((pre++cs)++(vs.flatten++spare)).map AV.val:=by
 rw [List.flatten_cons,List.append_assoc,List.append_assoc]
def vE (B:Nat) (D:Nat) (M:Rat) (W0:World) (rv:Value) (y:Nat) (q:List Vq) (m:Rat) (idx:Nat) (L:List (Nat×AV)) (Mm:List (Nat×(TypeId×List AV))) (w':World):Prop:=
 ∃ (q':List Vq) (aV n' c':Nat) (cf:List Value) (iZ:List (List Value)) (aj:List Value) (m' s':Rat) (done:List Uq) (v8 Us:AV) (Um:List (Nat×(TypeId×List AV))) (s1 t1 s2 t2:Bool) (p1 y1 p2 y2:Option Addr) (n1 c1 m1 d1 n2 c2 m2 d2:Nat),
   idx=2 * q'.length + (if 0 < m' then 1 else 0)/\L=[(0,.box 154 0),(1,.val (.int .i64 (y:Int))),(5,.box 5 0),(6,.box 6 0),(7,.box 7 0),(8,v8)]/\
   Mm=(154,(Runner,[.row 155 aV n' c',.val rv,Us]))::(155,(dD,(cf++(iZ.flatten++aj)).map .val))::(5,(26,([.bool s1,.slice p1 n1 c1,.bool t1,.slice y1 m1 d1]:List Value).map .val))::(6,(26,([.bool false,.slice none 0 0,.bool false,.slice none 0 0]:List Value).map .val))::(7,(26,([.bool s2,.slice p2 n2 c2,.bool t2,.slice y2 m2 d2]:List Value).map .val))::Um/\
   dL (dz B) 5 w' n' aV c' cf iZ aj q'/\bI w' (.agg #[.bool s1,.slice p1 n1 c1,.bool t1,.slice y1 m1 d1]) m'/\aH w' W0.heap.size (.agg #[.bool s2,.slice p2 n2 c2,.bool t2,.slice y2 m2 d2]) s'/\Iz D m'/\Iz D s'/\0≤m'/\0≤s'/\s' + m'=m/\(∀ p∈q',Iz D p.2/\0≤p.2/\p.2≤M)/\
   qI y q m=done++qI y q' m'/\nd q m=nd q' m'/\ur q m=s' + ur q' m'/\((n'=0/\v8=.val (.pointer none))\/(n'≠0/\v8=.mL 155 aV))/\done.length + (if 0 < m' then q'.length else 0)≤q.length/\
   ((Us=.val (.slice none 0 0)/\Um=[]/\done=[])\/∃ un uc rJ oL,Us=.row 47 0 un uc/\Um=[(47,(fm,rJ.flatten.map .val++oL))]/\yu B w' un uc rJ oL (done))
def vF (B:Nat) (D:Nat) (M:Rat) (W0:World) (rv:Value) (y:Nat) (q:List Vq) (m:Rat) (CU FH:Nat) (oM:List (List Value)) (qx:List Value) (us0:List Uq) (idx:Nat) (L:List (Nat×AV)) (Mm:List (Nat×(TypeId×List AV))) (w':World):Prop:=
 ∃ (q':List Vq) (aV n' c':Nat) (cf:List Value) (iZ:List (List Value)) (aj:List Value) (m' s':Rat) (done:List Uq) (v8 Us:AV) (Um:List (Nat×(TypeId×List AV))) (s1 t1 s2 t2:Bool) (p1 y1 p2 y2:Option Addr) (n1 c1 m1 d1 n2 c2 m2 d2:Nat),
   idx=2 * q'.length + (if 0 < m' then 1 else 0)/\L=[(0,.box 154 0),(1,.val (.int .i64 (y:Int))),(5,.box 5 0),(6,.box 6 0),(7,.box 7 0),(8,v8)]/\
   Mm=(154,(Runner,[.row 155 aV n' c',.val rv,Us]))::(155,(dD,(cf++(iZ.flatten++aj)).map .val))::(5,(26,([.bool s1,.slice p1 n1 c1,.bool t1,.slice y1 m1 d1]:List Value).map .val))::(6,(26,([.bool false,.slice none 0 0,.bool false,.slice none 0 0]:List Value).map .val))::(7,(26,([.bool s2,.slice p2 n2 c2,.bool t2,.slice y2 m2 d2]:List Value).map .val))::Um/\
   dL (dz B) 5 w' n' aV c' cf iZ aj q'/\bI w' (.agg #[.bool s1,.slice p1 n1 c1,.bool t1,.slice y1 m1 d1]) m'/\aH w' W0.heap.size (.agg #[.bool s2,.slice p2 n2 c2,.bool t2,.slice y2 m2 d2]) s'/\Iz D m'/\Iz D s'/\0≤m'/\0≤s'/\s' + m'=m/\(∀ p∈q',Iz D p.2/\0≤p.2/\p.2≤M)/\
   qI y q m=done++qI y q' m'/\nd q m=nd q' m'/\ur q m=s' + ur q' m'/\((n'=0/\v8=.val (.pointer none))\/(n'≠0/\v8=.mL 155 aV))/\done.length + (if 0 < m' then q'.length else 0)≤q.length/\
   ((Us=.row 156 0 CU FH/\Um=[(156,(fm,oM.flatten.map .val++qx.map .val))]/\done=[]/\bt (KU UU) W0 w')\/∃ un uc rJ oL,Us=.row 47 0 un uc/\Um=[(47,(fm,rJ.flatten.map .val++oL))]/\yu B w' un uc rJ oL (us0++done))
set_option maxRecDepth 4000 in
theorem SF (B g b off n c y D kk:Nat) (M m:Rat) (pre:List Value) (vs:List (List Value)) (spare:List Value) (q:List Vq) (rv v:Value) (w:World)
  (hg:aZ w g Runner #[.slice (some ⟨b,off,none⟩) n c,rv,.slice none 0 0]) (hb:aZ w b dD (pre++(vs.flatten++spare)).toArray) (hO:dL (dz B) 5 w n off c pre vs spare q) (hr:aU rv=true) (hv:bI w v m) (hmI:Iz D m) (CS:0≤m) (hmM:m≤M) (hq:∀ p∈q,Iz D p.2/\0≤p.2/\p.2≤M)
  (hK:∀ x,Iz D x->0≤x->x≤M->eM x kk) (hk:kk≤100000) (lD:q.length≤1000) (hB:B≤w.heap.size):
  Calls Tryz.prog 73 #[.pointer (some ⟨g,0,none⟩),.int .i64 (y:Int),v] w fun o w'=>∃ x,o=.returned x/\aH w' w.heap.size x (ur q m)/\tB [g,b] w w'/\∃ aV n' c' cf iZ aj uv,aZ w' g Runner #[.slice (some ⟨b,aV,none⟩) n' c',rv,uv]/\aZ w' b dD (cf++(iZ.flatten++aj)).toArray/\dL (dz B) 5 w' n' aV c' cf iZ aj (nd q m)/\((uv=.slice none 0 0/\qI y q m=[])\/∃ b' un uc rJ oL,w.heap.size≤b'/\uv=.slice (some ⟨b',0,none⟩) un uc/\aZ w' b' fm (rJ.flatten++oL).toArray/\dL (qw B) 6 w' un 0 uc [] rJ oL (qI y q m)):=by
 have hgb:g≠b:=fun e=>by subst e;exact absurd (bM hg hb) bV
 obtain ⟨s0,p0,n0,c0,t0,y0,m0,d0,rfl⟩:=hv.form
 have sG:jZ (KU UU) 77 [g,b] [(Runner,[.row 155 off n c,.val rv,.val (.slice none 0 0)]),(dD,(pre++(vs.flatten++spare)).map .val)] w:=by
  refine ⟨rfl,by simp [hgb],fun j g' c' hj hc=> ?_,fun c' hc=> ?_,fun c' hc k hk=> ?_⟩
  ·match j,hj,hc with
   | 0,hj,hc=>cases hj;cases hc;exact hg
   | 1,hj,hc=>cases hj;cases hc;rw [ag];exact hb
   | j + 2,hj,_=>simp at hj
  ·rcases List.mem_cons.1 hc with rfl | hc
   ·exact ⟨rfl,FF rfl hr rfl⟩
   ·cases List.mem_singleton.1 hc
    exact ⟨rfl,bg (hO.all (aO B))⟩
  ·rcases List.mem_cons.1 hc with rfl | hc
   ·have:k=155:=by simpa [ax,AV.cQ] using hk
    subst this;exact ⟨by omega,by show 155 < 2 * 77 + 2;omega⟩
   ·cases List.mem_singleton.1 hc
    rw [ai] at hk;cases hk
 refine fi Tryz.prog w _ (KU UU) (fun t=>Nat.beq t 22) table (fun _ _=>trivial) (ad:=[g,b]) (us:=[_,_]) Tryz.func73 rfl Tryz.ntmps73 (bB rfl) sG (bB rfl) ?_
 refine af ?_
 refine VO.call rfl rfl (fk Tryz.func44) (fun bF cU bJ=>((cd 0 bF aa aa).mono (fun o w2 h=>And.intro h bJ.1.size)).mono ?_)
 rintro o w1 ⟨⟨r9,rfl,q9,Qi⟩,LA⟩
 obtain ⟨s9,p9,n9,c9,t9,y9,m9,d9,rfl⟩:=q9.form
 refine ⟨_,rfl,Qi,fun Jd _ bb9=>wV rfl ?_⟩
 refine af ?_
 have Sr:((0:Int):Rat)=0:=rfl
 rw [Sr] at q9
 apply VO.via (P:=fun F' H' w'=>Entry (vE B D M w rv y q m ) (2 * q.length + (if 0 < m then 1 else 0)) F' H' w')
 ·intro cont
  by_cases nB:n=0
  ·refine VO.dT (x:=.row 155 off n c) (p:=fun _=>none) (c:=c) rfl (fun β=>.inr ⟨_,congrArg (fun n=>Value.slice (some ⟨β 155,off,none⟩) n c) nB⟩) rfl (fk Tryz.func75) rfl (fun w3 k3 b3=>wV rfl ?_)
   refine af ?_
   refine cont _ _ _ ⟨_,_,?_,?_,?_,?_,⟨q,off,n,c,pre,vs,spare,m,0,[],.val (.pointer none),_,_,_,_,_,_,_,_,_,_,_,_,_,_,_,_,_,_,rfl,rfl,rfl,hO.kp (aO B) aR,hv.k,(q9.mono LA).kp aR,hmI,Iz.zero,CS,Rat.le_refl,by grind,hq,rfl,rfl,by grind,.inl ⟨nB,rfl⟩,by split <;> simp,.inl ⟨rfl,rfl,rfl⟩⟩⟩
   ·exact bT
   ·exact bT
   ·rfl
   ·exact ⟨.lit rfl,.vals _,.vals _,.vals _,.vals _,trivial⟩
  ·refine VO.dA rfl rfl (fk Tryz.func75) rfl nB (by intro h;cases h) (fun w3 k3 b3=>wV rfl ?_)
   refine af ?_
   refine cont _ _ _ ⟨_,_,?_,?_,?_,?_,⟨q,off,n,c,pre,vs,spare,m,0,[],.mL 155 off,_,_,_,_,_,_,_,_,_,_,_,_,_,_,_,_,_,_,rfl,rfl,rfl,hO.kp (aO B) aR,hv.k,(q9.mono LA).kp aR,hmI,Iz.zero,CS,Rat.le_refl,by grind,hq,rfl,rfl,by grind,.inr ⟨nB,rfl⟩,by split <;> simp,.inl ⟨rfl,rfl,rfl⟩⟩⟩
   ·exact bT
   ·exact bT
   ·rfl
   ·exact ⟨.lit rfl,.vals _,.vals _,.vals _,.vals _,trivial⟩
 ·intro F0 H0 w0' hent
  refine VS.loop (J:=vE B D M w rv y q m ) _ hent ?_
  rintro idx L Mm w' ⟨q',aV,n',c',cf,iZ,aj,m',s',done,v8,Us,Um,s1,t1,s2,t2,p1,y1,p2,y2,n1,c1,m1,d1,n2,c2,m2,d2,rfl,rfl,rfl,jn,Kl,sY,nQ,Po,xf,hs0,hsm,EN,eU,eL,eS,Pp,jU,wm⟩
  have rK:m'≤M:=by grind
  have hsM:s'≤M:=by grind
  rcases wm with ⟨rfl,rfl,rfl⟩ | ⟨un,uc,rJ,oL,rfl,rfl,xg⟩
  ·rcases Pp with ⟨nB,rfl⟩ | ⟨nB,rfl⟩
   ·have Kf:q'=[]:=List.eq_nil_of_length_eq_zero (by rw [<-jn.len];exact nB)
    subst Kf
    have fU:qI y [] m'=[]:=rfl
    have fL:nd [] m'=[]:=rfl
    have fS:ur [] m'=0:=rfl
    refine af ?_
    refine VS.lz (bE _ _) rfl (fun wz β kz oz en=> ?_)
    obtain ⟨o1,o2⟩:=fj (en.own 154 _ _ rfl) 0 g rfl rfl
    obtain ⟨o3,o4⟩:=fj (en.own 155 _ _ rfl) 1 b rfl rfl
    rw [ag] at o4
    replace o3:β 155=b:=o3
    rw [fU] at eU
    rw [fL] at eL
    rw [fS,show s' + 0=s' by grind] at eS
    refine ⟨_,rfl,?_,oz.1,aV,n',c',cf,iZ,aj,.slice none 0 0,?_,o4,?_,.inl ⟨rfl,?_⟩⟩
    ·rw [eS];exact sY.k
    ·rw [<-o3];exact o2
    ·rw [eL];exact jn.kp (aO B) aR
    ·rw [eU];rfl
   ·obtain ⟨e,gF,rfl⟩:∃ e gF,q'=e::gF:=by
     cases q' with
     | nil=>exact absurd jn.len nB
     | cons e gF=>exact ⟨e,gF,rfl⟩
    obtain ⟨cs,ia,rfl,hE,tV⟩:∃ cs ia,iZ=cs::ia/\dz B w' cs e/\ck (dz B) w' gF ia:=by
     have:=jn.el
     cases this with
     | cons h1 h2=>exact ⟨_,_,rfl,h1,h2⟩
    obtain ⟨s3,p3,n3,c3,t3,y3,m3,d3,rfl,SG⟩:=hE
    have yo:=jn.le
    have tJ:=jn.len
    have ym:=jn.cm
    have jS:cf.length=aV:=jn.pl.resolve_right aa
    obtain ⟨mJ,CK,GF⟩:=EN e cA
    refine af ?_
    obtain ⟨sg,lB⟩:∃ sg,ea m' 0=sg:=⟨_,rfl⟩
    refine VO.call rfl rfl (fk Tryz.func13) (fun bF cU bJ=>(eN _ m' kk bF (Kl.ki (hK m' nQ xf rK)) aa sg lB).mono ?_)
    rintro e w1 ⟨rfl,aK⟩
    skip
    refine ⟨_,rfl,aK,fun dC _ bb1=>wV rfl ?_⟩
    refine af ?_
    by_cases hm:0 < m'
    ·have mD:sg > 0:=by rw [<-lB];exact gm.2 hm
     rw [if_pos hm] at jU
     refine VS.aP rfl (decide_eq_true mD) ?_
     refine af ?_
     refine VO.cT rfl (([.bool s3,.slice p3 n3 c3,.bool t3,.slice y3 m3 d3]:List Value).map .val) rfl (bD jS 1 _ ⟨[],rfl⟩) (wV rfl ?_)
     refine af ?_
     have xJ:=cj e.2 m'
     have LB:0≤ae e.2 m':=by rcases xJ with ⟨h,_⟩ | ⟨h,_⟩ <;> rw [h] <;> assumption
     have nk:Iz D (ae e.2 m'):=by rcases xJ with ⟨h,_⟩ | ⟨h,_⟩ <;> rw [h] <;> assumption
     have CL:=dw e.2 m'
     have zT:=cI e.2 m'
     have nY:=hK _ nk LB (Rat.le_trans zT rK)
     refine VO.eK rfl (fk Tryz.func71) (fun cK β eg di ho=>((gV _ _ e.2 [m'] kk cK (SG.rd.ki (hK e.2 mJ CK GF)) (cX (ho.own 31 (.base (List.mem_singleton.2 rfl)) _ _ rfl) [] (vs:=[[.bool s1,.slice p1 n1 c1,.bool t1,.slice y1 m1 d1]]) (by rfl) rfl (bq.cons (Kl.ki (hK m' nQ xf rK)) bq.nil) (bB rfl) bV) aa (bB rfl)).mono (fun o w2 h=>And.intro h di.1.size)).mono ?_)
     rintro o w2 ⟨⟨r4,rfl,q4,z4,ba⟩,tW⟩
     rw [eF] at q4
     have BN:aH w2 w.heap.size r4 (ae e.2 m'):=q4.mono tW
     obtain ⟨s4,p4,n4,c4,t4,y4,m4,d4,rfl⟩:=BN.form
     refine ⟨_,rfl,ba,fun ed _ bb2=>wV rfl ?_⟩
     refine af ?_
     refine VO.cT rfl (([.int .i64 (e.1:Int)]:List Value).map .val) rfl (bD jS 0 _ ⟨_,rfl⟩) (wV rfl ?_)
     refine af ?_
     refine VO.app (bE _ _) (t:=34) (e:=fm) (sz:=6) (n:=0) (c:=0) (mm:=1) (known:=[]) (spare:=[]) (del:=none) (news:=([.int .i64 (e.1:Int),.int .i64 (y:Int),.bool s4,.slice p4 n4 c4,.bool t4,.slice y4 m4 d4]:List Value).map .val) (dst:=47) rfl rfl rfl rfl rfl rfl rfl rfl (bB rfl) rfl (.inl ⟨rfl,rfl,rfl,rfl,rfl,rfl,by omega⟩) (.inl rfl) rfl rfl (Nat.le_refl _) aa ⟨rfl,rfl,rfl⟩ ⟨rfl,rfl,rfl⟩ rfl aa
      (fun w1 β k1 b1 ho=>⟨_,_,rfl,.inr ⟨β 46,0,rfl,de (rest:=[]) (ho.own 46 (.base (List.mem_append_right _ (List.mem_singleton.2 rfl))) _ _ rfl) rfl⟩⟩)
      (fun rB cap' fC ρ Ni Nj fF iI iQ ez pR eu=>wV rfl ?_)
     refine af ?_
     have Cu:yu B rB (0 + 1) cap' ([[.int .i64 (e.1:Int),.int .i64 (y:Int),.bool s4,.slice p4 n4 c4,.bool t4,.slice y4 m4 d4]]:List (List Value)) fC (([]++[(e.1,y,ae e.2 m')])):=⟨by simp <;> omega,by exact ck.cons (show qw B rB [.int .i64 (e.1:Int),.int .i64 (y:Int),.bool s4,.slice p4 n4 c4,.bool t4,.slice y4 m4 d4] (e.1,y,ae e.2 m') from ⟨s4,p4,n4,c4,t4,y4,m4,d4,rfl,(BN.mono hB).kp aR⟩) ck.nil,pR,eu,iI,iQ,by simpa using ez⟩
     refine VO.call rfl rfl (fk Tryz.func16) (fun gf jl gD=>((fZ _ _ s' (ae e.2 m') kk kk gf (sY.rd.ki (hK s' Po hs0 hsM)) (BN.rd.ki nY) aa aa).mono (fun o w2 h=>And.intro h gD.1.size)).mono ?_)
     rintro o w5 ⟨⟨r5,rfl,q5,eE⟩,pV⟩
     obtain ⟨s5,p5,n5,c5,t5,y5,m5,d5,rfl⟩:=q5.form
     refine ⟨_,rfl,eE,fun jy _ qi=>wV rfl ?_⟩
     refine af ?_
     refine VO.call rfl rfl (fk Tryz.func72) (fun gj kx iz=>(cZ _ _ m' (ae e.2 m') kk kk gj (Kl.ki (hK m' nQ xf rK)) (BN.rd.ki nY) aa aa).mono ?_)
     rintro e w6 ⟨r6,rfl,q6,fx⟩
     obtain ⟨s6,p6,n6,c6,t6,y6,m6,d6,rfl⟩:=q6.form
     refine ⟨_,rfl,fx,fun jz _ oX=>wV rfl ?_⟩
     refine af ?_
     refine VO.cT rfl (([.bool s3,.slice p3 n3 c3,.bool t3,.slice y3 m3 d3]:List Value).map .val) rfl (bD jS 1 _ ⟨[],rfl⟩) (wV rfl ?_)
     refine af ?_
     refine VO.call rfl rfl (fk Tryz.func72) (fun mz qj lZ=>((cZ _ _ e.2 (ae e.2 m') kk kk mz (SG.rd.ki (hK e.2 mJ CK GF)) (BN.rd.ki nY) aa aa).mono (fun o w2 h=>And.intro h lZ.1.size)).mono ?_)
     rintro o w7 ⟨⟨r7,rfl,q7,lC⟩,LC⟩
     obtain ⟨s7,p7,n7,c7,t7,y7,m7,d7,rfl⟩:=q7.form
     refine ⟨_,rfl,lC,fun oC _ Bx=>wV rfl ?_⟩
     refine af ?_
     refine VO.cond rfl (by show aV + 1 + 4≤_;rw [List.length_map,List.length_append,List.length_append,List.flatten_cons,List.length_append,jS];show aV + 1 + 4≤aV + (6 - 1 + _ + _);omega) (VO.dG 155 rfl (vD jS) (wV rfl ?_))
     refine af ?_
     refine VO.cT rfl (([.bool s7,.slice p7 n7 c7,.bool t7,.slice y7 m7 d7]:List Value).map .val) rfl (bD jS 1 _ ⟨[],rfl⟩) (wV rfl ?_)
     refine af ?_
     have Cw:0≤e.2 - ae e.2 m':=by grind
     have SH:e.2 - ae e.2 m'≤M:=by grind
     have SI:Iz D (e.2 - ae e.2 m'):=mJ.sub nk
     obtain ⟨my,nL⟩:∃ my,ea (e.2 - ae e.2 m') 0=my:=⟨_,rfl⟩
     refine VO.call rfl rfl (fk Tryz.func13) (fun sB CP vo=>(eN _ (e.2 - ae e.2 m') kk sB (q7.ki (hK _ SI Cw SH)) aa my nL).mono ?_)
     rintro e w8 ⟨rfl,qe⟩
     skip
     refine ⟨_,rfl,qe,fun sC _ Kk=>wV rfl ?_⟩
     refine af ?_
     have hE7:dz B w8 [.int .i64 (e.1:Int),.bool s7,.slice p7 n7 c7,.bool t7,.slice y7 m7 d7] (e.1,e.2 - ae e.2 m'):=⟨s7,p7,n7,c7,t7,y7,m7,d7,rfl,(q7.mono (Nat.le_trans hB LC)).kp aR⟩
     have DM:=jn.so
     have Pn:=jn.po
     have wj:=jn.fl
     have Fo:0≤m' - ae e.2 m':=by grind
     have Lb:0≤s' + ae e.2 m':=by grind
     have BO:s' + ae e.2 m' + (m' - ae e.2 m')=m:=by grind
     have BP:=(q6.kr (w':=w8) aR)
     have BQ:aH w8 w.heap.size _ (s' + ae e.2 m'):=(q5.mono pV).kp aR
     have SJ:ck (dz B) w8 gF ia:=tV.kp (aO B) aR
     by_cases hz:e.2 - ae e.2 m'=0
     ·have tX:(my == 0)=true:=by rw [<-nL,hz];rfl
      refine VS.aP rfl tX ?_
      refine af ?_
      obtain ⟨e1,e2,e3⟩:=gZ (y:=y) (p:=e) (q:=gF) hm hz
      rw [e1,<-List.singleton_append,<-List.append_assoc] at eU
      rw [e2] at eL
      rw [e3] at eS
      refine VO.jQ rfl rfl (fk Tryz.func76) rfl aa yo ym (fun j hj=> ?_) (bB rfl) (fun w9 k9 b9=>wV rfl ?_)
      ·rcases List.mem_cons.1 hj with rfl | hj
       ·intro h;cases h
       ·cases List.mem_singleton.1 hj
        intro h;cases h
      refine af ?_
      have hO9:dL (dz B) 5 w9 (n' - 1) (if c'=1 then aV else aV + 5) (c' - 1) (cf++[.int .i64 (e.1:Int),.bool s7,.slice p7 n7 c7,.bool t7,.slice y7 m7 d7]) ia aj gF:=⟨by rw [tJ];rfl,pT jS,by rw [List.all_append,Pn];rfl,SJ.kp (aO B) aR,DM,by omega,by omega,pU wj⟩
      have iL:∀ (v8:AV) (wb:World),bt (KU UU) w9 wb->((n' - 1=0/\v8=.val (.pointer none))\/(n' - 1≠0/\v8=.mL 155 (if c'=1 then aV else aV + 5)))->vE B D M w rv y q m (2 * gF.length + (if 0 < m' - ae e.2 m' then 1 else 0)) [(0,.box 154 0),(1,.val (.int .i64 (y:Int))),(5,.box 5 0),(6,.box 6 0),(7,.box 7 0),(8,v8)]
        ((154,(Runner,[.row 155 (if c'=1 then aV else aV + 5) (n' - 1) (c' - 1),.val rv,.row 47 0 (0 + 1) cap']))::(155,(dD,((cf++([.int .i64 (e.1:Int),.bool s7,.slice p7 n7 c7,.bool t7,.slice y7 m7 d7]:List Value))++(ia.flatten++aj)).map AV.val))::(5,(26,([.bool s6,.slice p6 n6 c6,.bool t6,.slice y6 m6 d6]:List Value).map .val))::(6,(26,([.bool false,.slice none 0 0,.bool false,.slice none 0 0]:List Value).map .val))::(7,(26,([.bool s5,.slice p5 n5 c5,.bool t5,.slice y5 m5 d5]:List Value).map .val))::[(47,(fm,([[.int .i64 (e.1:Int),.int .i64 (y:Int),.bool s4,.slice p4 n4 c4,.bool t4,.slice y4 m4 d4]]:List (List Value)).flatten.map AV.val++fC))]) wb:=fun v8 wb kb Pp=>
       ⟨gF,_,_,_,_,ia,aj,m' - ae e.2 m',s' + ae e.2 m',[]++[(e.1,y,ae e.2 m')],v8,_,_,_,_,_,_,_,_,_,_,_,_,_,_,_,_,_,_,rfl,rfl,rfl,hO9.kp (aO B) aR,BP.k,BQ.k,nQ.sub nk,Po.add nk,Fo,Lb,BO,fun p hp=>EN p (by simp [hp]),eU,eL,by rw [eS];grind,Pp,by simp at jU ⊢;split <;> omega,.inr ⟨_,_,_,_,rfl,rfl,Cu.kp aR⟩⟩
      have hlt:2 * gF.length + (if 0 < m' - ae e.2 m' then 1 else 0) < 2 * (e::gF).length + (if 0 < m' then 1 else 0):=by
       rw [if_pos hm,List.length_cons];split <;> omega
      by_cases rT:n' - 1=0
      ·refine VO.dT (x:=.row 155 (if c'=1 then aV else aV + 5) (n' - 1) (c' - 1)) (p:=fun _=>none) (c:=c' - 1) rfl (fun β=>.inr ⟨_,congrArg (fun n=>Value.slice (some ⟨β 155,(if c'=1 then aV else aV + 5),none⟩) n (c' - 1)) rT⟩) rfl (fk Tryz.func75) rfl (fun wb Pq SK=>wV rfl ?_)
       refine af ?_
       refine VS.back _ hlt ⟨_,_,?_,?_,?_,?_,iL _ wb aR (.inl ⟨rT,rfl⟩)⟩
       ·exact bT
       ·exact ⟨rfl,congrArg (fun l=>some (dD,l)) (eG _ _ _ _),rfl,rfl,rfl,rfl,trivial⟩
       ·rfl
       ·exact ⟨.lit rfl,.vals _,.vals _,.vals _,.vals _,.append (.vals _) (.none eu),trivial⟩
      ·refine VO.dA rfl rfl (fk Tryz.func75) rfl rT (by intro h;cases h) (fun wb Pq SK=>wV rfl ?_)
       refine af ?_
       refine VS.back _ hlt ⟨_,_,?_,?_,?_,?_,iL _ wb aR (.inr ⟨rT,rfl⟩)⟩
       ·exact bT
       ·exact ⟨rfl,congrArg (fun l=>some (dD,l)) (eG _ _ _ _),rfl,rfl,rfl,rfl,trivial⟩
       ·rfl
       ·exact ⟨.lit rfl,.vals _,.vals _,.vals _,.vals _,.append (.vals _) (.none eu),trivial⟩
     ·have tX:(my == 0)=false:=by rw [<-nL,beq_eq_false_iff_ne];exact Ac hz
      refine VS.aQ rfl tX ?_
      refine af ?_
      obtain ⟨e0,e1,e2,e3⟩:=gY (y:=y) (p:=e) (q:=gF) hm hz
      refine VO.dA rfl rfl (fk Tryz.func75) rfl nB (by intro h;cases h) (fun wb Pq SK=>wV rfl ?_)
      refine af ?_
      refine VS.back (2 * (e::gF).length + 0) (by rw [if_pos hm];omega) ⟨_,_,?_,?_,?_,?_,⟨(e.1,e.2 - ae e.2 m')::gF,aV,n',c',cf,[.int .i64 (e.1:Int),.bool s7,.slice p7 n7 c7,.bool t7,.slice y7 m7 d7]::ia,aj,m' - ae e.2 m',s' + ae e.2 m',[]++[(e.1,y,ae e.2 m')],.mL 155 aV,_,_,_,_,_,_,_,_,_,_,_,_,_,_,_,_,_,_,by rw [if_neg e0];rfl,rfl,rfl,⟨tJ,.inl jS,Pn,.cons ((aO B).kp hE7 aR) (SJ.kp (aO B) aR),DM,yo,ym,by simpa using wj⟩,BP.k,BQ.k,nQ.sub nk,Po.add nk,Fo,Lb,BO,fun p hp=> ?_,?_,?_,?_,.inr ⟨nB,rfl⟩,?_,.inr ⟨_,_,_,_,rfl,rfl,Cu.kp aR⟩⟩⟩
      ·exact bT
      ·exact ⟨rfl,rfl,rfl,rfl,rfl,rfl,trivial⟩
      ·rfl
      ·exact ⟨.lit rfl,.vals _,.vals _,.vals _,.vals _,.append (.vals _) (.none eu),trivial⟩
      ·rcases List.mem_cons.1 hp with rfl | hp
       ·exact ⟨SI,Cw,SH⟩
       ·exact EN p (by simp [hp])
      ·rw [eU,e1,iT y _ e0,List.append_nil]
      ·rw [eL,e2,gX _ e0]
      ·rw [eS,e3,iU _ e0];grind
      ·rw [if_neg e0];simp at jU ⊢;omega
    ·have mD:¬ sg > 0:=by rw [<-lB];exact fun h=>hm (gm.1 h)
     refine VS.aQ rfl (decide_eq_false mD) ?_
     have fU:=iT y (e::gF) hm
     have fL:=gX (e::gF) hm
     have fS:=iU (e::gF) hm
     refine af ?_
     refine VS.lz (bE _ _) rfl (fun wz β kz oz en=> ?_)
     obtain ⟨o1,o2⟩:=fj (en.own 154 _ _ rfl) 0 g rfl rfl
     obtain ⟨o3,o4⟩:=fj (en.own 155 _ _ rfl) 1 b rfl rfl
     rw [ag] at o4
     replace o3:β 155=b:=o3
     rw [fU] at eU
     rw [fL] at eL
     rw [fS,show s' + 0=s' by grind] at eS
     refine ⟨_,rfl,?_,oz.1,aV,n',c',cf,_,aj,.slice none 0 0,?_,o4,?_,.inl ⟨rfl,?_⟩⟩
     ·rw [eS];exact sY.k
     ·rw [<-o3];exact o2
     ·rw [eL];exact jn.kp (aO B) aR
     ·rw [eU];rfl
  ·rcases Pp with ⟨nB,rfl⟩ | ⟨nB,rfl⟩
   ·have Kf:q'=[]:=List.eq_nil_of_length_eq_zero (by rw [<-jn.len];exact nB)
    subst Kf
    have fU:qI y [] m'=[]:=rfl
    have fL:nd [] m'=[]:=rfl
    have fS:ur [] m'=0:=rfl
    refine af ?_
    refine VS.lz (bE _ _) rfl (fun wz β kz oz en=> ?_)
    obtain ⟨o1,o2⟩:=fj (en.own 154 _ _ rfl) 0 g rfl rfl
    obtain ⟨o3,o4⟩:=fj (en.own 155 _ _ rfl) 1 b rfl rfl
    rw [ag] at o4
    replace o3:β 155=b:=o3
    rw [fU] at eU
    rw [fL] at eL
    rw [fS,show s' + 0=s' by grind] at eS
    have o5:=(en.own 47 _ _ rfl).new
    have o6:=(en.own 47 _ _ rfl).cls
    rw [List.map_append,ag] at o6
    have n1':β 47≠g:=fun e=>absurd (en.apart 154 47 (by intro h;cases h) (by intro h;cases h) (o1.trans e.symm)) bV
    have n2':β 47≠b:=fun e=>absurd (en.apart 155 47 (by intro h;cases h) (by intro h;cases h) (o3.trans e.symm)) bV
    have o7:w.heap.size≤β 47:=by
     have:=fX (show dm 77 [g,b] w 47 (β 47) from o5)
     simpa [n1',n2'] using this
    refine ⟨_,rfl,?_,oz.1,aV,n',c',cf,iZ,aj,.slice (some ⟨β 47,0,none⟩) un uc,?_,o4,?_,.inr ⟨β 47,un,uc,rJ,oL.map (AV.leaf β),o7,rfl,o6,?_⟩⟩
    ·rw [eS];exact sY.k
    ·rw [<-o3];exact o2
    ·rw [eL];exact jn.kp (aO B) aR
    ·rw [eU,List.append_nil];exact (xg.kp aR).o β
   ·obtain ⟨e,gF,rfl⟩:∃ e gF,q'=e::gF:=by
     cases q' with
     | nil=>exact absurd jn.len nB
     | cons e gF=>exact ⟨e,gF,rfl⟩
    obtain ⟨cs,ia,rfl,hE,tV⟩:∃ cs ia,iZ=cs::ia/\dz B w' cs e/\ck (dz B) w' gF ia:=by
     have:=jn.el
     cases this with
     | cons h1 h2=>exact ⟨_,_,rfl,h1,h2⟩
    obtain ⟨s3,p3,n3,c3,t3,y3,m3,d3,rfl,SG⟩:=hE
    have yo:=jn.le
    have tJ:=jn.len
    have ym:=jn.cm
    have jS:cf.length=aV:=jn.pl.resolve_right aa
    obtain ⟨mJ,CK,GF⟩:=EN e cA
    refine af ?_
    obtain ⟨sg,lB⟩:∃ sg,ea m' 0=sg:=⟨_,rfl⟩
    refine VO.call rfl rfl (fk Tryz.func13) (fun bF cU bJ=>(eN _ m' kk bF (Kl.ki (hK m' nQ xf rK)) aa sg lB).mono ?_)
    rintro e w1 ⟨rfl,aK⟩
    skip
    refine ⟨_,rfl,aK,fun dC _ bb1=>wV rfl ?_⟩
    refine af ?_
    by_cases hm:0 < m'
    ·have mD:sg > 0:=by rw [<-lB];exact gm.2 hm
     rw [if_pos hm] at jU
     refine VS.aP rfl (decide_eq_true mD) ?_
     refine af ?_
     refine VO.cT rfl (([.bool s3,.slice p3 n3 c3,.bool t3,.slice y3 m3 d3]:List Value).map .val) rfl (bD jS 1 _ ⟨[],rfl⟩) (wV rfl ?_)
     refine af ?_
     have xJ:=cj e.2 m'
     have LB:0≤ae e.2 m':=by rcases xJ with ⟨h,_⟩ | ⟨h,_⟩ <;> rw [h] <;> assumption
     have nk:Iz D (ae e.2 m'):=by rcases xJ with ⟨h,_⟩ | ⟨h,_⟩ <;> rw [h] <;> assumption
     have CL:=dw e.2 m'
     have zT:=cI e.2 m'
     have nY:=hK _ nk LB (Rat.le_trans zT rK)
     refine VO.eK rfl (fk Tryz.func71) (fun cK β eg di ho=>((gV _ _ e.2 [m'] kk cK (SG.rd.ki (hK e.2 mJ CK GF)) (cX (ho.own 31 (.base (List.mem_singleton.2 rfl)) _ _ rfl) [] (vs:=[[.bool s1,.slice p1 n1 c1,.bool t1,.slice y1 m1 d1]]) (by rfl) rfl (bq.cons (Kl.ki (hK m' nQ xf rK)) bq.nil) (bB rfl) bV) aa (bB rfl)).mono (fun o w2 h=>And.intro h di.1.size)).mono ?_)
     rintro o w2 ⟨⟨r4,rfl,q4,z4,ba⟩,tW⟩
     rw [eF] at q4
     have BN:aH w2 w.heap.size r4 (ae e.2 m'):=q4.mono tW
     obtain ⟨s4,p4,n4,c4,t4,y4,m4,d4,rfl⟩:=BN.form
     refine ⟨_,rfl,ba,fun ed _ bb2=>wV rfl ?_⟩
     refine af ?_
     refine VO.cT rfl (([.int .i64 (e.1:Int)]:List Value).map .val) rfl (bD jS 0 _ ⟨_,rfl⟩) (wV rfl ?_)
     refine af ?_
     obtain ⟨zQ,zS⟩:=xg.el.ok (dR B)
     have MD:=xg.len
     refine VO.app (bE _ _) (t:=34) (e:=fm) (sz:=6) (n:=un) (c:=uc) (mm:=1) (known:=rJ.flatten.map .val) (spare:=oL) (del:=some 47) (news:=([.int .i64 (e.1:Int),.int .i64 (y:Int),.bool s4,.slice p4 n4 c4,.bool t4,.slice y4 m4 d4]:List Value).map .val) (dst:=47) rfl rfl rfl rfl rfl rfl rfl rfl (bB rfl) rfl (.inr ⟨47,rfl,rfl,rfl⟩) (.inr rfl) (by rw [List.length_map,zS,MD]) xg.fl xg.le xg.cm ⟨ai _,xg.sl,rfl⟩ ⟨bg zQ,xg.so,rfl⟩ rfl (by simp only [List.length_append,List.length_cons] at MD jU lD ⊢;omega)
      (fun w1 β k1 b1 ho=>⟨_,_,rfl,.inr ⟨β 46,0,rfl,de (rest:=[]) (ho.own 46 (.base (List.mem_append_right _ (List.mem_singleton.2 rfl))) _ _ rfl) rfl⟩⟩)
      (fun rB cap' fC ρ Ni Nj fF iI iQ ez pR eu=>VO.dG 155 rfl (cL (ai _) _ _) (wV rfl ?_))
     refine af ?_
     have Cu:yu B rB (un + 1) cap' (rJ++[[.int .i64 (e.1:Int),.int .i64 (y:Int),.bool s4,.slice p4 n4 c4,.bool t4,.slice y4 m4 d4]]:List (List Value)) fC ((done++[(e.1,y,ae e.2 m')])):=⟨by simp [MD] <;> omega,by simpa [List.append_assoc] using ((xg.el.kp (dR B) aR).snoc (show qw B rB [.int .i64 (e.1:Int),.int .i64 (y:Int),.bool s4,.slice p4 n4 c4,.bool t4,.slice y4 m4 d4] (e.1,y,ae e.2 m') from ⟨s4,p4,n4,c4,t4,y4,m4,d4,rfl,(BN.mono hB).kp aR⟩)),pR,eu,iI,iQ,by simpa using ez⟩
     refine VO.call rfl rfl (fk Tryz.func16) (fun gf jl gD=>((fZ _ _ s' (ae e.2 m') kk kk gf (sY.rd.ki (hK s' Po hs0 hsM)) (BN.rd.ki nY) aa aa).mono (fun o w2 h=>And.intro h gD.1.size)).mono ?_)
     rintro o w5 ⟨⟨r5,rfl,q5,eE⟩,pV⟩
     obtain ⟨s5,p5,n5,c5,t5,y5,m5,d5,rfl⟩:=q5.form
     refine ⟨_,rfl,eE,fun jy _ qi=>wV rfl ?_⟩
     refine af ?_
     refine VO.call rfl rfl (fk Tryz.func72) (fun gj kx iz=>(cZ _ _ m' (ae e.2 m') kk kk gj (Kl.ki (hK m' nQ xf rK)) (BN.rd.ki nY) aa aa).mono ?_)
     rintro e w6 ⟨r6,rfl,q6,fx⟩
     obtain ⟨s6,p6,n6,c6,t6,y6,m6,d6,rfl⟩:=q6.form
     refine ⟨_,rfl,fx,fun jz _ oX=>wV rfl ?_⟩
     refine af ?_
     refine VO.cT rfl (([.bool s3,.slice p3 n3 c3,.bool t3,.slice y3 m3 d3]:List Value).map .val) rfl (bD jS 1 _ ⟨[],rfl⟩) (wV rfl ?_)
     refine af ?_
     refine VO.call rfl rfl (fk Tryz.func72) (fun mz qj lZ=>((cZ _ _ e.2 (ae e.2 m') kk kk mz (SG.rd.ki (hK e.2 mJ CK GF)) (BN.rd.ki nY) aa aa).mono (fun o w2 h=>And.intro h lZ.1.size)).mono ?_)
     rintro o w7 ⟨⟨r7,rfl,q7,lC⟩,LC⟩
     obtain ⟨s7,p7,n7,c7,t7,y7,m7,d7,rfl⟩:=q7.form
     refine ⟨_,rfl,lC,fun oC _ Bx=>wV rfl ?_⟩
     refine af ?_
     refine VO.cond rfl (by show aV + 1 + 4≤_;rw [List.length_map,List.length_append,List.length_append,List.flatten_cons,List.length_append,jS];show aV + 1 + 4≤aV + (6 - 1 + _ + _);omega) (VO.dG 155 rfl (vD jS) (wV rfl ?_))
     refine af ?_
     refine VO.cT rfl (([.bool s7,.slice p7 n7 c7,.bool t7,.slice y7 m7 d7]:List Value).map .val) rfl (bD jS 1 _ ⟨[],rfl⟩) (wV rfl ?_)
     refine af ?_
     have Cw:0≤e.2 - ae e.2 m':=by grind
     have SH:e.2 - ae e.2 m'≤M:=by grind
     have SI:Iz D (e.2 - ae e.2 m'):=mJ.sub nk
     obtain ⟨my,nL⟩:∃ my,ea (e.2 - ae e.2 m') 0=my:=⟨_,rfl⟩
     refine VO.call rfl rfl (fk Tryz.func13) (fun sB CP vo=>(eN _ (e.2 - ae e.2 m') kk sB (q7.ki (hK _ SI Cw SH)) aa my nL).mono ?_)
     rintro e w8 ⟨rfl,qe⟩
     skip
     refine ⟨_,rfl,qe,fun sC _ Kk=>wV rfl ?_⟩
     refine af ?_
     have hE7:dz B w8 [.int .i64 (e.1:Int),.bool s7,.slice p7 n7 c7,.bool t7,.slice y7 m7 d7] (e.1,e.2 - ae e.2 m'):=⟨s7,p7,n7,c7,t7,y7,m7,d7,rfl,(q7.mono (Nat.le_trans hB LC)).kp aR⟩
     have DM:=jn.so
     have Pn:=jn.po
     have wj:=jn.fl
     have Fo:0≤m' - ae e.2 m':=by grind
     have Lb:0≤s' + ae e.2 m':=by grind
     have BO:s' + ae e.2 m' + (m' - ae e.2 m')=m:=by grind
     have BP:=(q6.kr (w':=w8) aR)
     have BQ:aH w8 w.heap.size _ (s' + ae e.2 m'):=(q5.mono pV).kp aR
     have SJ:ck (dz B) w8 gF ia:=tV.kp (aO B) aR
     by_cases hz:e.2 - ae e.2 m'=0
     ·have tX:(my == 0)=true:=by rw [<-nL,hz];rfl
      refine VS.aP rfl tX ?_
      refine af ?_
      obtain ⟨e1,e2,e3⟩:=gZ (y:=y) (p:=e) (q:=gF) hm hz
      rw [e1,<-List.singleton_append,<-List.append_assoc] at eU
      rw [e2] at eL
      rw [e3] at eS
      refine VO.jQ rfl rfl (fk Tryz.func76) rfl aa yo ym (fun j hj=> ?_) (bB rfl) (fun w9 k9 b9=>wV rfl ?_)
      ·rcases List.mem_cons.1 hj with rfl | hj
       ·intro h;cases h
       ·cases List.mem_singleton.1 hj
        intro h;cases h
      refine af ?_
      have hO9:dL (dz B) 5 w9 (n' - 1) (if c'=1 then aV else aV + 5) (c' - 1) (cf++[.int .i64 (e.1:Int),.bool s7,.slice p7 n7 c7,.bool t7,.slice y7 m7 d7]) ia aj gF:=⟨by rw [tJ];rfl,pT jS,by rw [List.all_append,Pn];rfl,SJ.kp (aO B) aR,DM,by omega,by omega,pU wj⟩
      have iL:∀ (v8:AV) (wb:World),bt (KU UU) w9 wb->((n' - 1=0/\v8=.val (.pointer none))\/(n' - 1≠0/\v8=.mL 155 (if c'=1 then aV else aV + 5)))->vE B D M w rv y q m (2 * gF.length + (if 0 < m' - ae e.2 m' then 1 else 0)) [(0,.box 154 0),(1,.val (.int .i64 (y:Int))),(5,.box 5 0),(6,.box 6 0),(7,.box 7 0),(8,v8)]
        ((154,(Runner,[.row 155 (if c'=1 then aV else aV + 5) (n' - 1) (c' - 1),.val rv,.row 47 0 (un + 1) cap']))::(155,(dD,((cf++([.int .i64 (e.1:Int),.bool s7,.slice p7 n7 c7,.bool t7,.slice y7 m7 d7]:List Value))++(ia.flatten++aj)).map AV.val))::(5,(26,([.bool s6,.slice p6 n6 c6,.bool t6,.slice y6 m6 d6]:List Value).map .val))::(6,(26,([.bool false,.slice none 0 0,.bool false,.slice none 0 0]:List Value).map .val))::(7,(26,([.bool s5,.slice p5 n5 c5,.bool t5,.slice y5 m5 d5]:List Value).map .val))::[(47,(fm,(rJ++[[.int .i64 (e.1:Int),.int .i64 (y:Int),.bool s4,.slice p4 n4 c4,.bool t4,.slice y4 m4 d4]]:List (List Value)).flatten.map AV.val++fC))]) wb:=fun v8 wb kb Pp=>
       ⟨gF,_,_,_,_,ia,aj,m' - ae e.2 m',s' + ae e.2 m',done++[(e.1,y,ae e.2 m')],v8,_,_,_,_,_,_,_,_,_,_,_,_,_,_,_,_,_,_,rfl,rfl,rfl,hO9.kp (aO B) aR,BP.k,BQ.k,nQ.sub nk,Po.add nk,Fo,Lb,BO,fun p hp=>EN p (by simp [hp]),eU,eL,by rw [eS];grind,Pp,by simp at jU ⊢;split <;> omega,.inr ⟨_,_,_,_,rfl,rfl,Cu.kp aR⟩⟩
      have hlt:2 * gF.length + (if 0 < m' - ae e.2 m' then 1 else 0) < 2 * (e::gF).length + (if 0 < m' then 1 else 0):=by
       rw [if_pos hm,List.length_cons];split <;> omega
      by_cases rT:n' - 1=0
      ·refine VO.dT (x:=.row 155 (if c'=1 then aV else aV + 5) (n' - 1) (c' - 1)) (p:=fun _=>none) (c:=c' - 1) rfl (fun β=>.inr ⟨_,congrArg (fun n=>Value.slice (some ⟨β 155,(if c'=1 then aV else aV + 5),none⟩) n (c' - 1)) rT⟩) rfl (fk Tryz.func75) rfl (fun wb Pq SK=>wV rfl ?_)
       refine af ?_
       refine VS.back _ hlt ⟨_,_,?_,?_,?_,?_,iL _ wb aR (.inl ⟨rT,rfl⟩)⟩
       ·exact bT
       ·exact ⟨rfl,congrArg (fun l=>some (dD,l)) (eG _ _ _ _),rfl,rfl,rfl,congrArg (fun l=>some (fm,l++fC)) cA,trivial⟩
       ·rfl
       ·exact ⟨.lit rfl,.vals _,.vals _,.vals _,.vals _,.append (.vals _) (.none eu),trivial⟩
      ·refine VO.dA rfl rfl (fk Tryz.func75) rfl rT (by intro h;cases h) (fun wb Pq SK=>wV rfl ?_)
       refine af ?_
       refine VS.back _ hlt ⟨_,_,?_,?_,?_,?_,iL _ wb aR (.inr ⟨rT,rfl⟩)⟩
       ·exact bT
       ·exact ⟨rfl,congrArg (fun l=>some (dD,l)) (eG _ _ _ _),rfl,rfl,rfl,congrArg (fun l=>some (fm,l++fC)) cA,trivial⟩
       ·rfl
       ·exact ⟨.lit rfl,.vals _,.vals _,.vals _,.vals _,.append (.vals _) (.none eu),trivial⟩
     ·have tX:(my == 0)=false:=by rw [<-nL,beq_eq_false_iff_ne];exact Ac hz
      refine VS.aQ rfl tX ?_
      refine af ?_
      obtain ⟨e0,e1,e2,e3⟩:=gY (y:=y) (p:=e) (q:=gF) hm hz
      refine VO.dA rfl rfl (fk Tryz.func75) rfl nB (by intro h;cases h) (fun wb Pq SK=>wV rfl ?_)
      refine af ?_
      refine VS.back (2 * (e::gF).length + 0) (by rw [if_pos hm];omega) ⟨_,_,?_,?_,?_,?_,⟨(e.1,e.2 - ae e.2 m')::gF,aV,n',c',cf,[.int .i64 (e.1:Int),.bool s7,.slice p7 n7 c7,.bool t7,.slice y7 m7 d7]::ia,aj,m' - ae e.2 m',s' + ae e.2 m',done++[(e.1,y,ae e.2 m')],.mL 155 aV,_,_,_,_,_,_,_,_,_,_,_,_,_,_,_,_,_,_,by rw [if_neg e0];rfl,rfl,rfl,⟨tJ,.inl jS,Pn,.cons ((aO B).kp hE7 aR) (SJ.kp (aO B) aR),DM,yo,ym,by simpa using wj⟩,BP.k,BQ.k,nQ.sub nk,Po.add nk,Fo,Lb,BO,fun p hp=> ?_,?_,?_,?_,.inr ⟨nB,rfl⟩,?_,.inr ⟨_,_,_,_,rfl,rfl,Cu.kp aR⟩⟩⟩
      ·exact bT
      ·exact ⟨rfl,rfl,rfl,rfl,rfl,congrArg (fun l=>some (fm,l++fC)) cA,trivial⟩
      ·rfl
      ·exact ⟨.lit rfl,.vals _,.vals _,.vals _,.vals _,.append (.vals _) (.none eu),trivial⟩
      ·rcases List.mem_cons.1 hp with rfl | hp
       ·exact ⟨SI,Cw,SH⟩
       ·exact EN p (by simp [hp])
      ·rw [eU,e1,iT y _ e0,List.append_nil]
      ·rw [eL,e2,gX _ e0]
      ·rw [eS,e3,iU _ e0];grind
      ·rw [if_neg e0];simp at jU ⊢;omega
    ·have mD:¬ sg > 0:=by rw [<-lB];exact fun h=>hm (gm.1 h)
     refine VS.aQ rfl (decide_eq_false mD) ?_
     have fU:=iT y (e::gF) hm
     have fL:=gX (e::gF) hm
     have fS:=iU (e::gF) hm
     refine af ?_
     refine VS.lz (bE _ _) rfl (fun wz β kz oz en=> ?_)
     obtain ⟨o1,o2⟩:=fj (en.own 154 _ _ rfl) 0 g rfl rfl
     obtain ⟨o3,o4⟩:=fj (en.own 155 _ _ rfl) 1 b rfl rfl
     rw [ag] at o4
     replace o3:β 155=b:=o3
     rw [fU] at eU
     rw [fL] at eL
     rw [fS,show s' + 0=s' by grind] at eS
     have o5:=(en.own 47 _ _ rfl).new
     have o6:=(en.own 47 _ _ rfl).cls
     rw [List.map_append,ag] at o6
     have n1':β 47≠g:=fun e=>absurd (en.apart 154 47 (by intro h;cases h) (by intro h;cases h) (o1.trans e.symm)) bV
     have n2':β 47≠b:=fun e=>absurd (en.apart 155 47 (by intro h;cases h) (by intro h;cases h) (o3.trans e.symm)) bV
     have o7:w.heap.size≤β 47:=by
      have:=fX (show dm 77 [g,b] w 47 (β 47) from o5)
      simpa [n1',n2'] using this
     refine ⟨_,rfl,?_,oz.1,aV,n',c',cf,_,aj,.slice (some ⟨β 47,0,none⟩) un uc,?_,o4,?_,.inr ⟨β 47,un,uc,rJ,oL.map (AV.leaf β),o7,rfl,o6,?_⟩⟩
     ·rw [eS];exact sY.k
     ·rw [<-o3];exact o2
     ·rw [eL];exact jn.kp (aO B) aR
     ·rw [eU,List.append_nil];exact (xg.kp aR).o β
set_option maxRecDepth 4000 in
theorem SL (B g b off n c y D kk:Nat) (M m:Rat) (pre:List Value) (vs:List (List Value)) (spare:List Value) (q:List Vq) (rv v:Value) (ub CU FH:Nat) (oM:List (List Value)) (qx:List Value) (us0:List Uq) (w:World)
  (hg:aZ w g Runner #[.slice (some ⟨b,off,none⟩) n c,rv,.slice (some ⟨ub,0,none⟩) CU FH]) (QJ:aZ w ub fm (oM.flatten++qx).toArray) (Qn:dL (qw B) 6 w CU 0 FH [] oM qx us0) (FI:us0.length≤1000) (hb:aZ w b dD (pre++(vs.flatten++spare)).toArray) (hO:dL (dz B) 5 w n off c pre vs spare q) (hr:aU rv=true) (hv:bI w v m) (hmI:Iz D m) (CS:0≤m) (hmM:m≤M) (hq:∀ p∈q,Iz D p.2/\0≤p.2/\p.2≤M)
  (hK:∀ x,Iz D x->0≤x->x≤M->eM x kk) (hk:kk≤100000) (lD:q.length≤1000) (hB:B≤w.heap.size):
  Calls Tryz.prog 73 #[.pointer (some ⟨g,0,none⟩),.int .i64 (y:Int),v] w fun o w'=>∃ x,o=.returned x/\aH w' w.heap.size x (ur q m)/\tB [g,b,ub] w w'/\LeftA w' ub/\∃ aV n' c' cf iZ aj uv,aZ w' g Runner #[.slice (some ⟨b,aV,none⟩) n' c',rv,uv]/\aZ w' b dD (cf++(iZ.flatten++aj)).toArray/\dL (dz B) 5 w' n' aV c' cf iZ aj (nd q m)/\(∃ b' un uc rJ oL,(w.heap.size≤b'\/b'=ub)/\uv=.slice (some ⟨b',0,none⟩) un uc/\aZ w' b' fm (rJ.flatten++oL).toArray/\dL (qw B) 6 w' un 0 uc [] rJ oL (us0++qI y q m)):=by
 have hgb:g≠b:=fun e=>by subst e;exact absurd (bM hg hb) bV
 have hgu:g≠ub:=fun e=>by subst e;exact absurd (bM hg QJ) bV
 have hbu:b≠ub:=fun e=>by subst e;exact absurd (bM hb QJ) bV
 have hUo:yu B w CU FH oM (qx.map .val) us0:=⟨Qn.len,Qn.el,bg Qn.so,ai _,Qn.le,Qn.cm,by rw [<-List.map_append,List.length_map];exact Qn.fl⟩
 obtain ⟨huok,hulen⟩:=Qn.el.ok (dR B)
 obtain ⟨s0,p0,n0,c0,t0,y0,m0,d0,rfl⟩:=hv.form
 have sG:jZ (KU UU) 77 [g,b,ub] [(Runner,[.row 155 off n c,.val rv,.row 156 0 CU FH]),(dD,(pre++(vs.flatten++spare)).map .val),(fm,oM.flatten.map .val++qx.map .val)] w:=by
  refine ⟨rfl,by simp [hgb,hgu,hbu],fun j g' c' hj hc=> ?_,fun c' hc=> ?_,fun c' hc k hk=> ?_⟩
  ·match j,hj,hc with
   | 0,hj,hc=>cases hj;cases hc;exact hg
   | 1,hj,hc=>cases hj;cases hc;rw [ag];exact hb
   | 2,hj,hc=>cases hj;cases hc;rw [<-List.map_append,ag];exact QJ
   | j + 3,hj,_=>simp at hj
  ·rcases List.mem_cons.1 hc with rfl | hc
   ·exact ⟨rfl,rnr_ok' rfl hr rfl⟩
   ·rcases List.mem_cons.1 hc with rfl | hc
    ·exact ⟨rfl,bg (hO.all (aO B))⟩
    ·cases List.mem_singleton.1 hc
     exact ⟨rfl,by rw [<-List.map_append];exact bg (by rw [List.all_append,huok,Qn.so];rfl)⟩
  ·rcases List.mem_cons.1 hc with rfl | hc
   ·have:k=155\/k=156:=by simpa [ax,AV.cQ] using hk
    rcases this with rfl | rfl
    ·exact ⟨by omega,by show 155 < 2 * 77 + 3;omega⟩
    ·exact ⟨by omega,by show 156 < 2 * 77 + 3;omega⟩
   ·rcases List.mem_cons.1 hc with rfl | hc
    ·rw [ai] at hk;cases hk
    ·cases List.mem_singleton.1 hc
     rw [<-List.map_append,ai] at hk;cases hk
 refine fi Tryz.prog w _ (KU UU) (fun t=>Nat.beq t 22) table (fun _ _=>trivial) (ad:=[g,b,ub]) (us:=[_,_]) Tryz.func73 rfl Tryz.ntmps73 (bB rfl) sG (bB rfl) ?_
 refine af ?_
 refine VO.call rfl rfl (fk Tryz.func44) (fun bF cU bJ=>((cd 0 bF aa aa).mono (fun o w2 h=>And.intro h bJ.1.size)).mono ?_)
 rintro o w1 ⟨⟨r9,rfl,q9,Qi⟩,LA⟩
 obtain ⟨s9,p9,n9,c9,t9,y9,m9,d9,rfl⟩:=q9.form
 refine ⟨_,rfl,Qi,fun Jd _ bb9=>wV rfl ?_⟩
 refine af ?_
 have Sr:((0:Int):Rat)=0:=rfl
 rw [Sr] at q9
 apply VO.via (P:=fun F' H' w'=>Entry (vF B D M w rv y q m CU FH oM qx us0) (2 * q.length + (if 0 < m then 1 else 0)) F' H' w')
 ·intro cont
  by_cases nB:n=0
  ·refine VO.dT (x:=.row 155 off n c) (p:=fun _=>none) (c:=c) rfl (fun β=>.inr ⟨_,congrArg (fun n=>Value.slice (some ⟨β 155,off,none⟩) n c) nB⟩) rfl (fk Tryz.func75) rfl (fun w3 k3 b3=>wV rfl ?_)
   refine af ?_
   refine cont _ _ _ ⟨_,_,?_,?_,?_,?_,⟨q,off,n,c,pre,vs,spare,m,0,[],.val (.pointer none),_,_,_,_,_,_,_,_,_,_,_,_,_,_,_,_,_,_,rfl,rfl,rfl,hO.kp (aO B) aR,hv.k,(q9.mono LA).kp aR,hmI,Iz.zero,CS,Rat.le_refl,by grind,hq,rfl,rfl,by grind,.inl ⟨nB,rfl⟩,by split <;> simp,.inl ⟨rfl,rfl,rfl,aR⟩⟩⟩
   ·exact bT
   ·exact bT
   ·rfl
   ·exact ⟨.lit rfl,.vals _,.vals _,.vals _,.vals _,.append (.vals _) (.vals _),trivial⟩
  ·refine VO.dA rfl rfl (fk Tryz.func75) rfl nB (by intro h;cases h) (fun w3 k3 b3=>wV rfl ?_)
   refine af ?_
   refine cont _ _ _ ⟨_,_,?_,?_,?_,?_,⟨q,off,n,c,pre,vs,spare,m,0,[],.mL 155 off,_,_,_,_,_,_,_,_,_,_,_,_,_,_,_,_,_,_,rfl,rfl,rfl,hO.kp (aO B) aR,hv.k,(q9.mono LA).kp aR,hmI,Iz.zero,CS,Rat.le_refl,by grind,hq,rfl,rfl,by grind,.inr ⟨nB,rfl⟩,by split <;> simp,.inl ⟨rfl,rfl,rfl,aR⟩⟩⟩
   ·exact bT
   ·exact bT
   ·rfl
   ·exact ⟨.lit rfl,.vals _,.vals _,.vals _,.vals _,.append (.vals _) (.vals _),trivial⟩
 ·intro F0 H0 w0' hent
  refine VS.loop (J:=vF B D M w rv y q m CU FH oM qx us0) _ hent ?_
  rintro idx L Mm w' ⟨q',aV,n',c',cf,iZ,aj,m',s',done,v8,Us,Um,s1,t1,s2,t2,p1,y1,p2,y2,n1,c1,m1,d1,n2,c2,m2,d2,rfl,rfl,rfl,jn,Kl,sY,nQ,Po,xf,hs0,hsm,EN,eU,eL,eS,Pp,jU,wm⟩
  have rK:m'≤M:=by grind
  have hsM:s'≤M:=by grind
  rcases wm with ⟨rfl,rfl,rfl,kw0⟩ | ⟨un,uc,rJ,oL,rfl,rfl,xg⟩
  ·rcases Pp with ⟨nB,rfl⟩ | ⟨nB,rfl⟩
   ·have Kf:q'=[]:=List.eq_nil_of_length_eq_zero (by rw [<-jn.len];exact nB)
    subst Kf
    have fU:qI y [] m'=[]:=rfl
    have fL:nd [] m'=[]:=rfl
    have fS:ur [] m'=0:=rfl
    refine af ?_
    refine VS.lz (bE _ _) rfl (fun wz β kz oz en=> ?_)
    obtain ⟨o1,o2⟩:=fj (en.own 154 _ _ rfl) 0 g rfl rfl
    obtain ⟨o3,o4⟩:=fj (en.own 155 _ _ rfl) 1 b rfl rfl
    rw [ag] at o4
    replace o3:β 155=b:=o3
    rw [fU] at eU
    rw [fL] at eL
    rw [fS,show s' + 0=s' by grind] at eS
    obtain ⟨o5,o6⟩:=fj (en.own 156 _ _ rfl) 2 ub rfl rfl
    replace o5:β 156=ub:=o5
    rw [List.map_append,ag,ag] at o6
    refine ⟨_,rfl,?_,oz.1,oz.2 ub cA,aV,n',c',cf,iZ,aj,.slice (some ⟨ub,0,none⟩) CU FH,?_,o4,?_,ub,CU,FH,oM,qx,.inr rfl,rfl,o6,?_⟩
    ·rw [eS];exact sY.k
    ·rw [<-o3,<-o5];exact o2
    ·rw [eL];exact jn.kp (aO B) aR
    ·rw [eU,List.nil_append,List.append_nil];exact Qn.kp (dR B) aR
   ·obtain ⟨e,gF,rfl⟩:∃ e gF,q'=e::gF:=by
     cases q' with
     | nil=>exact absurd jn.len nB
     | cons e gF=>exact ⟨e,gF,rfl⟩
    obtain ⟨cs,ia,rfl,hE,tV⟩:∃ cs ia,iZ=cs::ia/\dz B w' cs e/\ck (dz B) w' gF ia:=by
     have:=jn.el
     cases this with
     | cons h1 h2=>exact ⟨_,_,rfl,h1,h2⟩
    obtain ⟨s3,p3,n3,c3,t3,y3,m3,d3,rfl,SG⟩:=hE
    have yo:=jn.le
    have tJ:=jn.len
    have ym:=jn.cm
    have jS:cf.length=aV:=jn.pl.resolve_right aa
    obtain ⟨mJ,CK,GF⟩:=EN e cA
    refine af ?_
    obtain ⟨sg,lB⟩:∃ sg,ea m' 0=sg:=⟨_,rfl⟩
    refine VO.call rfl rfl (fk Tryz.func13) (fun bF cU bJ=>(eN _ m' kk bF (Kl.ki (hK m' nQ xf rK)) aa sg lB).mono ?_)
    rintro e w1 ⟨rfl,aK⟩
    skip
    refine ⟨_,rfl,aK,fun dC _ bb1=>wV rfl ?_⟩
    refine af ?_
    by_cases hm:0 < m'
    ·have mD:sg > 0:=by rw [<-lB];exact gm.2 hm
     rw [if_pos hm] at jU
     refine VS.aP rfl (decide_eq_true mD) ?_
     refine af ?_
     refine VO.cT rfl (([.bool s3,.slice p3 n3 c3,.bool t3,.slice y3 m3 d3]:List Value).map .val) rfl (bD jS 1 _ ⟨[],rfl⟩) (wV rfl ?_)
     refine af ?_
     have xJ:=cj e.2 m'
     have LB:0≤ae e.2 m':=by rcases xJ with ⟨h,_⟩ | ⟨h,_⟩ <;> rw [h] <;> assumption
     have nk:Iz D (ae e.2 m'):=by rcases xJ with ⟨h,_⟩ | ⟨h,_⟩ <;> rw [h] <;> assumption
     have CL:=dw e.2 m'
     have zT:=cI e.2 m'
     have nY:=hK _ nk LB (Rat.le_trans zT rK)
     refine VO.eK rfl (fk Tryz.func71) (fun cK β eg di ho=>((gV _ _ e.2 [m'] kk cK (SG.rd.ki (hK e.2 mJ CK GF)) (cX (ho.own 31 (.base (List.mem_singleton.2 rfl)) _ _ rfl) [] (vs:=[[.bool s1,.slice p1 n1 c1,.bool t1,.slice y1 m1 d1]]) (by rfl) rfl (bq.cons (Kl.ki (hK m' nQ xf rK)) bq.nil) (bB rfl) bV) aa (bB rfl)).mono (fun o w2 h=>And.intro h di.1.size)).mono ?_)
     rintro o w2 ⟨⟨r4,rfl,q4,z4,ba⟩,tW⟩
     rw [eF] at q4
     have BN:aH w2 w.heap.size r4 (ae e.2 m'):=q4.mono tW
     obtain ⟨s4,p4,n4,c4,t4,y4,m4,d4,rfl⟩:=BN.form
     refine ⟨_,rfl,ba,fun ed _ bb2=>wV rfl ?_⟩
     refine af ?_
     refine VO.cT rfl (([.int .i64 (e.1:Int)]:List Value).map .val) rfl (bD jS 0 _ ⟨_,rfl⟩) (wV rfl ?_)
     refine af ?_
     obtain ⟨zQ,zS⟩:=hUo.el.ok (dR B)
     have MD:=hUo.len
     refine VO.app (bE _ _) (t:=34) (e:=fm) (sz:=6) (n:=CU) (c:=FH) (mm:=1) (known:=oM.flatten.map .val) (spare:=(qx.map AV.val)) (del:=some 156) (news:=([.int .i64 (e.1:Int),.int .i64 (y:Int),.bool s4,.slice p4 n4 c4,.bool t4,.slice y4 m4 d4]:List Value).map .val) (dst:=47) rfl rfl rfl rfl rfl rfl rfl rfl (bB rfl) rfl (.inr ⟨156,rfl,rfl,rfl⟩) (.inl rfl) (by rw [List.length_map,zS,MD]) hUo.fl hUo.le hUo.cm ⟨ai _,hUo.sl,rfl⟩ ⟨bg zQ,hUo.so,rfl⟩ rfl (by simp only [List.length_append,List.length_cons] at MD jU lD ⊢;omega)
      (fun w1 β k1 b1 ho=>⟨_,_,rfl,.inr ⟨β 46,0,rfl,de (rest:=[]) (ho.own 46 (.base (List.mem_append_right _ (List.mem_singleton.2 rfl))) _ _ rfl) rfl⟩⟩)
      (fun rB cap' fC ρ Ni Nj fF iI iQ ez pR eu=>VO.dG 155 rfl (cL (ai _) _ _) (wV rfl ?_))
     refine af ?_
     have Cu:yu B rB (CU + 1) cap' (oM++[[.int .i64 (e.1:Int),.int .i64 (y:Int),.bool s4,.slice p4 n4 c4,.bool t4,.slice y4 m4 d4]]:List (List Value)) fC (us0++([]++[(e.1,y,ae e.2 m')])):=⟨by simp [MD] <;> omega,by simpa [List.append_assoc] using ((hUo.el.kp (dR B) aR).snoc (show qw B rB [.int .i64 (e.1:Int),.int .i64 (y:Int),.bool s4,.slice p4 n4 c4,.bool t4,.slice y4 m4 d4] (e.1,y,ae e.2 m') from ⟨s4,p4,n4,c4,t4,y4,m4,d4,rfl,(BN.mono hB).kp aR⟩)),pR,eu,iI,iQ,by simpa using ez⟩
     refine VO.call rfl rfl (fk Tryz.func16) (fun gf jl gD=>((fZ _ _ s' (ae e.2 m') kk kk gf (sY.rd.ki (hK s' Po hs0 hsM)) (BN.rd.ki nY) aa aa).mono (fun o w2 h=>And.intro h gD.1.size)).mono ?_)
     rintro o w5 ⟨⟨r5,rfl,q5,eE⟩,pV⟩
     obtain ⟨s5,p5,n5,c5,t5,y5,m5,d5,rfl⟩:=q5.form
     refine ⟨_,rfl,eE,fun jy _ qi=>wV rfl ?_⟩
     refine af ?_
     refine VO.call rfl rfl (fk Tryz.func72) (fun gj kx iz=>(cZ _ _ m' (ae e.2 m') kk kk gj (Kl.ki (hK m' nQ xf rK)) (BN.rd.ki nY) aa aa).mono ?_)
     rintro e w6 ⟨r6,rfl,q6,fx⟩
     obtain ⟨s6,p6,n6,c6,t6,y6,m6,d6,rfl⟩:=q6.form
     refine ⟨_,rfl,fx,fun jz _ oX=>wV rfl ?_⟩
     refine af ?_
     refine VO.cT rfl (([.bool s3,.slice p3 n3 c3,.bool t3,.slice y3 m3 d3]:List Value).map .val) rfl (bD jS 1 _ ⟨[],rfl⟩) (wV rfl ?_)
     refine af ?_
     refine VO.call rfl rfl (fk Tryz.func72) (fun mz qj lZ=>((cZ _ _ e.2 (ae e.2 m') kk kk mz (SG.rd.ki (hK e.2 mJ CK GF)) (BN.rd.ki nY) aa aa).mono (fun o w2 h=>And.intro h lZ.1.size)).mono ?_)
     rintro o w7 ⟨⟨r7,rfl,q7,lC⟩,LC⟩
     obtain ⟨s7,p7,n7,c7,t7,y7,m7,d7,rfl⟩:=q7.form
     refine ⟨_,rfl,lC,fun oC _ Bx=>wV rfl ?_⟩
     refine af ?_
     refine VO.cond rfl (by show aV + 1 + 4≤_;rw [List.length_map,List.length_append,List.length_append,List.flatten_cons,List.length_append,jS];show aV + 1 + 4≤aV + (6 - 1 + _ + _);omega) (VO.dG 155 rfl (vD jS) (wV rfl ?_))
     refine af ?_
     refine VO.cT rfl (([.bool s7,.slice p7 n7 c7,.bool t7,.slice y7 m7 d7]:List Value).map .val) rfl (bD jS 1 _ ⟨[],rfl⟩) (wV rfl ?_)
     refine af ?_
     have Cw:0≤e.2 - ae e.2 m':=by grind
     have SH:e.2 - ae e.2 m'≤M:=by grind
     have SI:Iz D (e.2 - ae e.2 m'):=mJ.sub nk
     obtain ⟨my,nL⟩:∃ my,ea (e.2 - ae e.2 m') 0=my:=⟨_,rfl⟩
     refine VO.call rfl rfl (fk Tryz.func13) (fun sB CP vo=>(eN _ (e.2 - ae e.2 m') kk sB (q7.ki (hK _ SI Cw SH)) aa my nL).mono ?_)
     rintro e w8 ⟨rfl,qe⟩
     skip
     refine ⟨_,rfl,qe,fun sC _ Kk=>wV rfl ?_⟩
     refine af ?_
     have hE7:dz B w8 [.int .i64 (e.1:Int),.bool s7,.slice p7 n7 c7,.bool t7,.slice y7 m7 d7] (e.1,e.2 - ae e.2 m'):=⟨s7,p7,n7,c7,t7,y7,m7,d7,rfl,(q7.mono (Nat.le_trans hB LC)).kp aR⟩
     have DM:=jn.so
     have Pn:=jn.po
     have wj:=jn.fl
     have Fo:0≤m' - ae e.2 m':=by grind
     have Lb:0≤s' + ae e.2 m':=by grind
     have BO:s' + ae e.2 m' + (m' - ae e.2 m')=m:=by grind
     have BP:=(q6.kr (w':=w8) aR)
     have BQ:aH w8 w.heap.size _ (s' + ae e.2 m'):=(q5.mono pV).kp aR
     have SJ:ck (dz B) w8 gF ia:=tV.kp (aO B) aR
     by_cases hz:e.2 - ae e.2 m'=0
     ·have tX:(my == 0)=true:=by rw [<-nL,hz];rfl
      refine VS.aP rfl tX ?_
      refine af ?_
      obtain ⟨e1,e2,e3⟩:=gZ (y:=y) (p:=e) (q:=gF) hm hz
      rw [e1,<-List.singleton_append,<-List.append_assoc] at eU
      rw [e2] at eL
      rw [e3] at eS
      refine VO.jQ rfl rfl (fk Tryz.func76) rfl aa yo ym (fun j hj=> ?_) (bB rfl) (fun w9 k9 b9=>wV rfl ?_)
      ·rcases List.mem_cons.1 hj with rfl | hj
       ·intro h;cases h
       ·cases List.mem_singleton.1 hj
        intro h;cases h
      refine af ?_
      have hO9:dL (dz B) 5 w9 (n' - 1) (if c'=1 then aV else aV + 5) (c' - 1) (cf++[.int .i64 (e.1:Int),.bool s7,.slice p7 n7 c7,.bool t7,.slice y7 m7 d7]) ia aj gF:=⟨by rw [tJ];rfl,pT jS,by rw [List.all_append,Pn];rfl,SJ.kp (aO B) aR,DM,by omega,by omega,pU wj⟩
      have iL:∀ (v8:AV) (wb:World),bt (KU UU) w9 wb->((n' - 1=0/\v8=.val (.pointer none))\/(n' - 1≠0/\v8=.mL 155 (if c'=1 then aV else aV + 5)))->vF B D M w rv y q m CU FH oM qx us0 (2 * gF.length + (if 0 < m' - ae e.2 m' then 1 else 0)) [(0,.box 154 0),(1,.val (.int .i64 (y:Int))),(5,.box 5 0),(6,.box 6 0),(7,.box 7 0),(8,v8)]
        ((154,(Runner,[.row 155 (if c'=1 then aV else aV + 5) (n' - 1) (c' - 1),.val rv,.row 47 0 (CU + 1) cap']))::(155,(dD,((cf++([.int .i64 (e.1:Int),.bool s7,.slice p7 n7 c7,.bool t7,.slice y7 m7 d7]:List Value))++(ia.flatten++aj)).map AV.val))::(5,(26,([.bool s6,.slice p6 n6 c6,.bool t6,.slice y6 m6 d6]:List Value).map .val))::(6,(26,([.bool false,.slice none 0 0,.bool false,.slice none 0 0]:List Value).map .val))::(7,(26,([.bool s5,.slice p5 n5 c5,.bool t5,.slice y5 m5 d5]:List Value).map .val))::[(47,(fm,(oM++[[.int .i64 (e.1:Int),.int .i64 (y:Int),.bool s4,.slice p4 n4 c4,.bool t4,.slice y4 m4 d4]]:List (List Value)).flatten.map AV.val++fC))]) wb:=fun v8 wb kb Pp=>
       ⟨gF,_,_,_,_,ia,aj,m' - ae e.2 m',s' + ae e.2 m',[]++[(e.1,y,ae e.2 m')],v8,_,_,_,_,_,_,_,_,_,_,_,_,_,_,_,_,_,_,rfl,rfl,rfl,hO9.kp (aO B) aR,BP.k,BQ.k,nQ.sub nk,Po.add nk,Fo,Lb,BO,fun p hp=>EN p (by simp [hp]),eU,eL,by rw [eS];grind,Pp,by simp at jU ⊢;split <;> omega,.inr ⟨_,_,_,_,rfl,rfl,Cu.kp aR⟩⟩
      have hlt:2 * gF.length + (if 0 < m' - ae e.2 m' then 1 else 0) < 2 * (e::gF).length + (if 0 < m' then 1 else 0):=by
       rw [if_pos hm,List.length_cons];split <;> omega
      by_cases rT:n' - 1=0
      ·refine VO.dT (x:=.row 155 (if c'=1 then aV else aV + 5) (n' - 1) (c' - 1)) (p:=fun _=>none) (c:=c' - 1) rfl (fun β=>.inr ⟨_,congrArg (fun n=>Value.slice (some ⟨β 155,(if c'=1 then aV else aV + 5),none⟩) n (c' - 1)) rT⟩) rfl (fk Tryz.func75) rfl (fun wb Pq SK=>wV rfl ?_)
       refine af ?_
       refine VS.back _ hlt ⟨_,_,?_,?_,?_,?_,iL _ wb aR (.inl ⟨rT,rfl⟩)⟩
       ·exact bT
       ·exact ⟨rfl,congrArg (fun l=>some (dD,l)) (eG _ _ _ _),rfl,rfl,rfl,congrArg (fun l=>some (fm,l++fC)) cA,trivial⟩
       ·rfl
       ·exact ⟨.lit rfl,.vals _,.vals _,.vals _,.vals _,.append (.vals _) (.none eu),trivial⟩
      ·refine VO.dA rfl rfl (fk Tryz.func75) rfl rT (by intro h;cases h) (fun wb Pq SK=>wV rfl ?_)
       refine af ?_
       refine VS.back _ hlt ⟨_,_,?_,?_,?_,?_,iL _ wb aR (.inr ⟨rT,rfl⟩)⟩
       ·exact bT
       ·exact ⟨rfl,congrArg (fun l=>some (dD,l)) (eG _ _ _ _),rfl,rfl,rfl,congrArg (fun l=>some (fm,l++fC)) cA,trivial⟩
       ·rfl
       ·exact ⟨.lit rfl,.vals _,.vals _,.vals _,.vals _,.append (.vals _) (.none eu),trivial⟩
     ·have tX:(my == 0)=false:=by rw [<-nL,beq_eq_false_iff_ne];exact Ac hz
      refine VS.aQ rfl tX ?_
      refine af ?_
      obtain ⟨e0,e1,e2,e3⟩:=gY (y:=y) (p:=e) (q:=gF) hm hz
      refine VO.dA rfl rfl (fk Tryz.func75) rfl nB (by intro h;cases h) (fun wb Pq SK=>wV rfl ?_)
      refine af ?_
      refine VS.back (2 * (e::gF).length + 0) (by rw [if_pos hm];omega) ⟨_,_,?_,?_,?_,?_,⟨(e.1,e.2 - ae e.2 m')::gF,aV,n',c',cf,[.int .i64 (e.1:Int),.bool s7,.slice p7 n7 c7,.bool t7,.slice y7 m7 d7]::ia,aj,m' - ae e.2 m',s' + ae e.2 m',[]++[(e.1,y,ae e.2 m')],.mL 155 aV,_,_,_,_,_,_,_,_,_,_,_,_,_,_,_,_,_,_,by rw [if_neg e0];rfl,rfl,rfl,⟨tJ,.inl jS,Pn,.cons ((aO B).kp hE7 aR) (SJ.kp (aO B) aR),DM,yo,ym,by simpa using wj⟩,BP.k,BQ.k,nQ.sub nk,Po.add nk,Fo,Lb,BO,fun p hp=> ?_,?_,?_,?_,.inr ⟨nB,rfl⟩,?_,.inr ⟨_,_,_,_,rfl,rfl,Cu.kp aR⟩⟩⟩
      ·exact bT
      ·exact ⟨rfl,rfl,rfl,rfl,rfl,congrArg (fun l=>some (fm,l++fC)) cA,trivial⟩
      ·rfl
      ·exact ⟨.lit rfl,.vals _,.vals _,.vals _,.vals _,.append (.vals _) (.none eu),trivial⟩
      ·rcases List.mem_cons.1 hp with rfl | hp
       ·exact ⟨SI,Cw,SH⟩
       ·exact EN p (by simp [hp])
      ·rw [eU,e1,iT y _ e0,List.append_nil]
      ·rw [eL,e2,gX _ e0]
      ·rw [eS,e3,iU _ e0];grind
      ·rw [if_neg e0];simp at jU ⊢;omega
    ·have mD:¬ sg > 0:=by rw [<-lB];exact fun h=>hm (gm.1 h)
     refine VS.aQ rfl (decide_eq_false mD) ?_
     have fU:=iT y (e::gF) hm
     have fL:=gX (e::gF) hm
     have fS:=iU (e::gF) hm
     refine af ?_
     refine VS.lz (bE _ _) rfl (fun wz β kz oz en=> ?_)
     obtain ⟨o1,o2⟩:=fj (en.own 154 _ _ rfl) 0 g rfl rfl
     obtain ⟨o3,o4⟩:=fj (en.own 155 _ _ rfl) 1 b rfl rfl
     rw [ag] at o4
     replace o3:β 155=b:=o3
     rw [fU] at eU
     rw [fL] at eL
     rw [fS,show s' + 0=s' by grind] at eS
     obtain ⟨o5,o6⟩:=fj (en.own 156 _ _ rfl) 2 ub rfl rfl
     replace o5:β 156=ub:=o5
     rw [List.map_append,ag,ag] at o6
     refine ⟨_,rfl,?_,oz.1,oz.2 ub cA,aV,n',c',cf,_,aj,.slice (some ⟨ub,0,none⟩) CU FH,?_,o4,?_,ub,CU,FH,oM,qx,.inr rfl,rfl,o6,?_⟩
     ·rw [eS];exact sY.k
     ·rw [<-o3,<-o5];exact o2
     ·rw [eL];exact jn.kp (aO B) aR
     ·rw [eU,List.nil_append,List.append_nil];exact Qn.kp (dR B) aR
  ·rcases Pp with ⟨nB,rfl⟩ | ⟨nB,rfl⟩
   ·have Kf:q'=[]:=List.eq_nil_of_length_eq_zero (by rw [<-jn.len];exact nB)
    subst Kf
    have fU:qI y [] m'=[]:=rfl
    have fL:nd [] m'=[]:=rfl
    have fS:ur [] m'=0:=rfl
    refine af ?_
    refine VS.lz (bE _ _) rfl (fun wz β kz oz en=> ?_)
    obtain ⟨o1,o2⟩:=fj (en.own 154 _ _ rfl) 0 g rfl rfl
    obtain ⟨o3,o4⟩:=fj (en.own 155 _ _ rfl) 1 b rfl rfl
    rw [ag] at o4
    replace o3:β 155=b:=o3
    rw [fU] at eU
    rw [fL] at eL
    rw [fS,show s' + 0=s' by grind] at eS
    have o5:=(en.own 47 _ _ rfl).new
    have o6:=(en.own 47 _ _ rfl).cls
    rw [List.map_append,ag] at o6
    have n1':β 47≠g:=fun e=>absurd (en.apart 154 47 (by intro h;cases h) (by intro h;cases h) (o1.trans e.symm)) bV
    have n2':β 47≠b:=fun e=>absurd (en.apart 155 47 (by intro h;cases h) (by intro h;cases h) (o3.trans e.symm)) bV
    have o7:w.heap.size≤β 47\/β 47=ub:=by
     have:=fX (show dm 77 [g,b,ub] w 47 (β 47) from o5)
     simpa [n1',n2'] using this
    refine ⟨_,rfl,?_,oz.1,oz.2 ub cA,aV,n',c',cf,iZ,aj,.slice (some ⟨β 47,0,none⟩) un uc,?_,o4,?_,⟨β 47,un,uc,rJ,oL.map (AV.leaf β),o7,rfl,o6,?_⟩⟩
    ·rw [eS];exact sY.k
    ·rw [<-o3];exact o2
    ·rw [eL];exact jn.kp (aO B) aR
    ·rw [eU,List.append_nil];exact (xg.kp aR).o β
   ·obtain ⟨e,gF,rfl⟩:∃ e gF,q'=e::gF:=by
     cases q' with
     | nil=>exact absurd jn.len nB
     | cons e gF=>exact ⟨e,gF,rfl⟩
    obtain ⟨cs,ia,rfl,hE,tV⟩:∃ cs ia,iZ=cs::ia/\dz B w' cs e/\ck (dz B) w' gF ia:=by
     have:=jn.el
     cases this with
     | cons h1 h2=>exact ⟨_,_,rfl,h1,h2⟩
    obtain ⟨s3,p3,n3,c3,t3,y3,m3,d3,rfl,SG⟩:=hE
    have yo:=jn.le
    have tJ:=jn.len
    have ym:=jn.cm
    have jS:cf.length=aV:=jn.pl.resolve_right aa
    obtain ⟨mJ,CK,GF⟩:=EN e cA
    refine af ?_
    obtain ⟨sg,lB⟩:∃ sg,ea m' 0=sg:=⟨_,rfl⟩
    refine VO.call rfl rfl (fk Tryz.func13) (fun bF cU bJ=>(eN _ m' kk bF (Kl.ki (hK m' nQ xf rK)) aa sg lB).mono ?_)
    rintro e w1 ⟨rfl,aK⟩
    skip
    refine ⟨_,rfl,aK,fun dC _ bb1=>wV rfl ?_⟩
    refine af ?_
    by_cases hm:0 < m'
    ·have mD:sg > 0:=by rw [<-lB];exact gm.2 hm
     rw [if_pos hm] at jU
     refine VS.aP rfl (decide_eq_true mD) ?_
     refine af ?_
     refine VO.cT rfl (([.bool s3,.slice p3 n3 c3,.bool t3,.slice y3 m3 d3]:List Value).map .val) rfl (bD jS 1 _ ⟨[],rfl⟩) (wV rfl ?_)
     refine af ?_
     have xJ:=cj e.2 m'
     have LB:0≤ae e.2 m':=by rcases xJ with ⟨h,_⟩ | ⟨h,_⟩ <;> rw [h] <;> assumption
     have nk:Iz D (ae e.2 m'):=by rcases xJ with ⟨h,_⟩ | ⟨h,_⟩ <;> rw [h] <;> assumption
     have CL:=dw e.2 m'
     have zT:=cI e.2 m'
     have nY:=hK _ nk LB (Rat.le_trans zT rK)
     refine VO.eK rfl (fk Tryz.func71) (fun cK β eg di ho=>((gV _ _ e.2 [m'] kk cK (SG.rd.ki (hK e.2 mJ CK GF)) (cX (ho.own 31 (.base (List.mem_singleton.2 rfl)) _ _ rfl) [] (vs:=[[.bool s1,.slice p1 n1 c1,.bool t1,.slice y1 m1 d1]]) (by rfl) rfl (bq.cons (Kl.ki (hK m' nQ xf rK)) bq.nil) (bB rfl) bV) aa (bB rfl)).mono (fun o w2 h=>And.intro h di.1.size)).mono ?_)
     rintro o w2 ⟨⟨r4,rfl,q4,z4,ba⟩,tW⟩
     rw [eF] at q4
     have BN:aH w2 w.heap.size r4 (ae e.2 m'):=q4.mono tW
     obtain ⟨s4,p4,n4,c4,t4,y4,m4,d4,rfl⟩:=BN.form
     refine ⟨_,rfl,ba,fun ed _ bb2=>wV rfl ?_⟩
     refine af ?_
     refine VO.cT rfl (([.int .i64 (e.1:Int)]:List Value).map .val) rfl (bD jS 0 _ ⟨_,rfl⟩) (wV rfl ?_)
     refine af ?_
     obtain ⟨zQ,zS⟩:=xg.el.ok (dR B)
     have MD:=xg.len
     refine VO.app (bE _ _) (t:=34) (e:=fm) (sz:=6) (n:=un) (c:=uc) (mm:=1) (known:=rJ.flatten.map .val) (spare:=oL) (del:=some 47) (news:=([.int .i64 (e.1:Int),.int .i64 (y:Int),.bool s4,.slice p4 n4 c4,.bool t4,.slice y4 m4 d4]:List Value).map .val) (dst:=47) rfl rfl rfl rfl rfl rfl rfl rfl (bB rfl) rfl (.inr ⟨47,rfl,rfl,rfl⟩) (.inr rfl) (by rw [List.length_map,zS,MD]) xg.fl xg.le xg.cm ⟨ai _,xg.sl,rfl⟩ ⟨bg zQ,xg.so,rfl⟩ rfl (by simp only [List.length_append,List.length_cons] at MD jU lD ⊢;omega)
      (fun w1 β k1 b1 ho=>⟨_,_,rfl,.inr ⟨β 46,0,rfl,de (rest:=[]) (ho.own 46 (.base (List.mem_append_right _ (List.mem_singleton.2 rfl))) _ _ rfl) rfl⟩⟩)
      (fun rB cap' fC ρ Ni Nj fF iI iQ ez pR eu=>VO.dG 155 rfl (cL (ai _) _ _) (wV rfl ?_))
     refine af ?_
     have Cu:yu B rB (un + 1) cap' (rJ++[[.int .i64 (e.1:Int),.int .i64 (y:Int),.bool s4,.slice p4 n4 c4,.bool t4,.slice y4 m4 d4]]:List (List Value)) fC (us0++(done++[(e.1,y,ae e.2 m')])):=⟨by simp [MD] <;> omega,by simpa [List.append_assoc] using ((xg.el.kp (dR B) aR).snoc (show qw B rB [.int .i64 (e.1:Int),.int .i64 (y:Int),.bool s4,.slice p4 n4 c4,.bool t4,.slice y4 m4 d4] (e.1,y,ae e.2 m') from ⟨s4,p4,n4,c4,t4,y4,m4,d4,rfl,(BN.mono hB).kp aR⟩)),pR,eu,iI,iQ,by simpa using ez⟩
     refine VO.call rfl rfl (fk Tryz.func16) (fun gf jl gD=>((fZ _ _ s' (ae e.2 m') kk kk gf (sY.rd.ki (hK s' Po hs0 hsM)) (BN.rd.ki nY) aa aa).mono (fun o w2 h=>And.intro h gD.1.size)).mono ?_)
     rintro o w5 ⟨⟨r5,rfl,q5,eE⟩,pV⟩
     obtain ⟨s5,p5,n5,c5,t5,y5,m5,d5,rfl⟩:=q5.form
     refine ⟨_,rfl,eE,fun jy _ qi=>wV rfl ?_⟩
     refine af ?_
     refine VO.call rfl rfl (fk Tryz.func72) (fun gj kx iz=>(cZ _ _ m' (ae e.2 m') kk kk gj (Kl.ki (hK m' nQ xf rK)) (BN.rd.ki nY) aa aa).mono ?_)
     rintro e w6 ⟨r6,rfl,q6,fx⟩
     obtain ⟨s6,p6,n6,c6,t6,y6,m6,d6,rfl⟩:=q6.form
     refine ⟨_,rfl,fx,fun jz _ oX=>wV rfl ?_⟩
     refine af ?_
     refine VO.cT rfl (([.bool s3,.slice p3 n3 c3,.bool t3,.slice y3 m3 d3]:List Value).map .val) rfl (bD jS 1 _ ⟨[],rfl⟩) (wV rfl ?_)
     refine af ?_
     refine VO.call rfl rfl (fk Tryz.func72) (fun mz qj lZ=>((cZ _ _ e.2 (ae e.2 m') kk kk mz (SG.rd.ki (hK e.2 mJ CK GF)) (BN.rd.ki nY) aa aa).mono (fun o w2 h=>And.intro h lZ.1.size)).mono ?_)
     rintro o w7 ⟨⟨r7,rfl,q7,lC⟩,LC⟩
     obtain ⟨s7,p7,n7,c7,t7,y7,m7,d7,rfl⟩:=q7.form
     refine ⟨_,rfl,lC,fun oC _ Bx=>wV rfl ?_⟩
     refine af ?_
     refine VO.cond rfl (by show aV + 1 + 4≤_;rw [List.length_map,List.length_append,List.length_append,List.flatten_cons,List.length_append,jS];show aV + 1 + 4≤aV + (6 - 1 + _ + _);omega) (VO.dG 155 rfl (vD jS) (wV rfl ?_))
     refine af ?_
     refine VO.cT rfl (([.bool s7,.slice p7 n7 c7,.bool t7,.slice y7 m7 d7]:List Value).map .val) rfl (bD jS 1 _ ⟨[],rfl⟩) (wV rfl ?_)
     refine af ?_
     have Cw:0≤e.2 - ae e.2 m':=by grind
     have SH:e.2 - ae e.2 m'≤M:=by grind
     have SI:Iz D (e.2 - ae e.2 m'):=mJ.sub nk
     obtain ⟨my,nL⟩:∃ my,ea (e.2 - ae e.2 m') 0=my:=⟨_,rfl⟩
     refine VO.call rfl rfl (fk Tryz.func13) (fun sB CP vo=>(eN _ (e.2 - ae e.2 m') kk sB (q7.ki (hK _ SI Cw SH)) aa my nL).mono ?_)
     rintro e w8 ⟨rfl,qe⟩
     skip
     refine ⟨_,rfl,qe,fun sC _ Kk=>wV rfl ?_⟩
     refine af ?_
     have hE7:dz B w8 [.int .i64 (e.1:Int),.bool s7,.slice p7 n7 c7,.bool t7,.slice y7 m7 d7] (e.1,e.2 - ae e.2 m'):=⟨s7,p7,n7,c7,t7,y7,m7,d7,rfl,(q7.mono (Nat.le_trans hB LC)).kp aR⟩
     have DM:=jn.so
     have Pn:=jn.po
     have wj:=jn.fl
     have Fo:0≤m' - ae e.2 m':=by grind
     have Lb:0≤s' + ae e.2 m':=by grind
     have BO:s' + ae e.2 m' + (m' - ae e.2 m')=m:=by grind
     have BP:=(q6.kr (w':=w8) aR)
     have BQ:aH w8 w.heap.size _ (s' + ae e.2 m'):=(q5.mono pV).kp aR
     have SJ:ck (dz B) w8 gF ia:=tV.kp (aO B) aR
     by_cases hz:e.2 - ae e.2 m'=0
     ·have tX:(my == 0)=true:=by rw [<-nL,hz];rfl
      refine VS.aP rfl tX ?_
      refine af ?_
      obtain ⟨e1,e2,e3⟩:=gZ (y:=y) (p:=e) (q:=gF) hm hz
      rw [e1,<-List.singleton_append,<-List.append_assoc] at eU
      rw [e2] at eL
      rw [e3] at eS
      refine VO.jQ rfl rfl (fk Tryz.func76) rfl aa yo ym (fun j hj=> ?_) (bB rfl) (fun w9 k9 b9=>wV rfl ?_)
      ·rcases List.mem_cons.1 hj with rfl | hj
       ·intro h;cases h
       ·cases List.mem_singleton.1 hj
        intro h;cases h
      refine af ?_
      have hO9:dL (dz B) 5 w9 (n' - 1) (if c'=1 then aV else aV + 5) (c' - 1) (cf++[.int .i64 (e.1:Int),.bool s7,.slice p7 n7 c7,.bool t7,.slice y7 m7 d7]) ia aj gF:=⟨by rw [tJ];rfl,pT jS,by rw [List.all_append,Pn];rfl,SJ.kp (aO B) aR,DM,by omega,by omega,pU wj⟩
      have iL:∀ (v8:AV) (wb:World),bt (KU UU) w9 wb->((n' - 1=0/\v8=.val (.pointer none))\/(n' - 1≠0/\v8=.mL 155 (if c'=1 then aV else aV + 5)))->vF B D M w rv y q m CU FH oM qx us0 (2 * gF.length + (if 0 < m' - ae e.2 m' then 1 else 0)) [(0,.box 154 0),(1,.val (.int .i64 (y:Int))),(5,.box 5 0),(6,.box 6 0),(7,.box 7 0),(8,v8)]
        ((154,(Runner,[.row 155 (if c'=1 then aV else aV + 5) (n' - 1) (c' - 1),.val rv,.row 47 0 (un + 1) cap']))::(155,(dD,((cf++([.int .i64 (e.1:Int),.bool s7,.slice p7 n7 c7,.bool t7,.slice y7 m7 d7]:List Value))++(ia.flatten++aj)).map AV.val))::(5,(26,([.bool s6,.slice p6 n6 c6,.bool t6,.slice y6 m6 d6]:List Value).map .val))::(6,(26,([.bool false,.slice none 0 0,.bool false,.slice none 0 0]:List Value).map .val))::(7,(26,([.bool s5,.slice p5 n5 c5,.bool t5,.slice y5 m5 d5]:List Value).map .val))::[(47,(fm,(rJ++[[.int .i64 (e.1:Int),.int .i64 (y:Int),.bool s4,.slice p4 n4 c4,.bool t4,.slice y4 m4 d4]]:List (List Value)).flatten.map AV.val++fC))]) wb:=fun v8 wb kb Pp=>
       ⟨gF,_,_,_,_,ia,aj,m' - ae e.2 m',s' + ae e.2 m',done++[(e.1,y,ae e.2 m')],v8,_,_,_,_,_,_,_,_,_,_,_,_,_,_,_,_,_,_,rfl,rfl,rfl,hO9.kp (aO B) aR,BP.k,BQ.k,nQ.sub nk,Po.add nk,Fo,Lb,BO,fun p hp=>EN p (by simp [hp]),eU,eL,by rw [eS];grind,Pp,by simp at jU ⊢;split <;> omega,.inr ⟨_,_,_,_,rfl,rfl,Cu.kp aR⟩⟩
      have hlt:2 * gF.length + (if 0 < m' - ae e.2 m' then 1 else 0) < 2 * (e::gF).length + (if 0 < m' then 1 else 0):=by
       rw [if_pos hm,List.length_cons];split <;> omega
      by_cases rT:n' - 1=0
      ·refine VO.dT (x:=.row 155 (if c'=1 then aV else aV + 5) (n' - 1) (c' - 1)) (p:=fun _=>none) (c:=c' - 1) rfl (fun β=>.inr ⟨_,congrArg (fun n=>Value.slice (some ⟨β 155,(if c'=1 then aV else aV + 5),none⟩) n (c' - 1)) rT⟩) rfl (fk Tryz.func75) rfl (fun wb Pq SK=>wV rfl ?_)
       refine af ?_
       refine VS.back _ hlt ⟨_,_,?_,?_,?_,?_,iL _ wb aR (.inl ⟨rT,rfl⟩)⟩
       ·exact bT
       ·exact ⟨rfl,congrArg (fun l=>some (dD,l)) (eG _ _ _ _),rfl,rfl,rfl,congrArg (fun l=>some (fm,l++fC)) cA,trivial⟩
       ·rfl
       ·exact ⟨.lit rfl,.vals _,.vals _,.vals _,.vals _,.append (.vals _) (.none eu),trivial⟩
      ·refine VO.dA rfl rfl (fk Tryz.func75) rfl rT (by intro h;cases h) (fun wb Pq SK=>wV rfl ?_)
       refine af ?_
       refine VS.back _ hlt ⟨_,_,?_,?_,?_,?_,iL _ wb aR (.inr ⟨rT,rfl⟩)⟩
       ·exact bT
       ·exact ⟨rfl,congrArg (fun l=>some (dD,l)) (eG _ _ _ _),rfl,rfl,rfl,congrArg (fun l=>some (fm,l++fC)) cA,trivial⟩
       ·rfl
       ·exact ⟨.lit rfl,.vals _,.vals _,.vals _,.vals _,.append (.vals _) (.none eu),trivial⟩
     ·have tX:(my == 0)=false:=by rw [<-nL,beq_eq_false_iff_ne];exact Ac hz
      refine VS.aQ rfl tX ?_
      refine af ?_
      obtain ⟨e0,e1,e2,e3⟩:=gY (y:=y) (p:=e) (q:=gF) hm hz
      refine VO.dA rfl rfl (fk Tryz.func75) rfl nB (by intro h;cases h) (fun wb Pq SK=>wV rfl ?_)
      refine af ?_
      refine VS.back (2 * (e::gF).length + 0) (by rw [if_pos hm];omega) ⟨_,_,?_,?_,?_,?_,⟨(e.1,e.2 - ae e.2 m')::gF,aV,n',c',cf,[.int .i64 (e.1:Int),.bool s7,.slice p7 n7 c7,.bool t7,.slice y7 m7 d7]::ia,aj,m' - ae e.2 m',s' + ae e.2 m',done++[(e.1,y,ae e.2 m')],.mL 155 aV,_,_,_,_,_,_,_,_,_,_,_,_,_,_,_,_,_,_,by rw [if_neg e0];rfl,rfl,rfl,⟨tJ,.inl jS,Pn,.cons ((aO B).kp hE7 aR) (SJ.kp (aO B) aR),DM,yo,ym,by simpa using wj⟩,BP.k,BQ.k,nQ.sub nk,Po.add nk,Fo,Lb,BO,fun p hp=> ?_,?_,?_,?_,.inr ⟨nB,rfl⟩,?_,.inr ⟨_,_,_,_,rfl,rfl,Cu.kp aR⟩⟩⟩
      ·exact bT
      ·exact ⟨rfl,rfl,rfl,rfl,rfl,congrArg (fun l=>some (fm,l++fC)) cA,trivial⟩
      ·rfl
      ·exact ⟨.lit rfl,.vals _,.vals _,.vals _,.vals _,.append (.vals _) (.none eu),trivial⟩
      ·rcases List.mem_cons.1 hp with rfl | hp
       ·exact ⟨SI,Cw,SH⟩
       ·exact EN p (by simp [hp])
      ·rw [eU,e1,iT y _ e0,List.append_nil]
      ·rw [eL,e2,gX _ e0]
      ·rw [eS,e3,iU _ e0];grind
      ·rw [if_neg e0];simp at jU ⊢;omega
    ·have mD:¬ sg > 0:=by rw [<-lB];exact fun h=>hm (gm.1 h)
     refine VS.aQ rfl (decide_eq_false mD) ?_
     have fU:=iT y (e::gF) hm
     have fL:=gX (e::gF) hm
     have fS:=iU (e::gF) hm
     refine af ?_
     refine VS.lz (bE _ _) rfl (fun wz β kz oz en=> ?_)
     obtain ⟨o1,o2⟩:=fj (en.own 154 _ _ rfl) 0 g rfl rfl
     obtain ⟨o3,o4⟩:=fj (en.own 155 _ _ rfl) 1 b rfl rfl
     rw [ag] at o4
     replace o3:β 155=b:=o3
     rw [fU] at eU
     rw [fL] at eL
     rw [fS,show s' + 0=s' by grind] at eS
     have o5:=(en.own 47 _ _ rfl).new
     have o6:=(en.own 47 _ _ rfl).cls
     rw [List.map_append,ag] at o6
     have n1':β 47≠g:=fun e=>absurd (en.apart 154 47 (by intro h;cases h) (by intro h;cases h) (o1.trans e.symm)) bV
     have n2':β 47≠b:=fun e=>absurd (en.apart 155 47 (by intro h;cases h) (by intro h;cases h) (o3.trans e.symm)) bV
     have o7:w.heap.size≤β 47\/β 47=ub:=by
      have:=fX (show dm 77 [g,b,ub] w 47 (β 47) from o5)
      simpa [n1',n2'] using this
     refine ⟨_,rfl,?_,oz.1,oz.2 ub cA,aV,n',c',cf,_,aj,.slice (some ⟨β 47,0,none⟩) un uc,?_,o4,?_,⟨β 47,un,uc,rJ,oL.map (AV.leaf β),o7,rfl,o6,?_⟩⟩
     ·rw [eS];exact sY.k
     ·rw [<-o3];exact o2
     ·rw [eL];exact jn.kp (aO B) aR
     ·rw [eU,List.append_nil];exact (xg.kp aR).o β
end
set_option maxRecDepth 4000
section
open Go.RowKit
attribute [local irreducible] aB VS
theorem SN {v off n c:Nat} {a y:AV} (h:aG a=true) (hy:aG y=true):[.row v off n c,a,y].all aG=true:=by
 rw [List.all_cons,List.all_cons,List.all_cons,h,hy];rfl
theorem BR {v off n c j:Nat} {a y:AV} (h:j∈ax [.row v off n c,a,y]):j=v\/j∈ax [a]\/j∈y.cQ:=by
 obtain ⟨z,hz,hj⟩:=aX.1 h
 simp only [List.mem_cons,List.not_mem_nil,or_false] at hz
 rcases hz with rfl | rfl | rfl
 ·exact .inl (by simpa [AV.cQ] using hj)
 ·exact .inr (.inl (aX.2 ⟨_,by simp,hj⟩))
 ·exact .inr (.inr hj)
theorem FJ {C:Cx} {β bW:Nat->Nat} {H:Hp} {ids:List Nat} {del:Option Nat} {ups:List (Nat×(TypeId×List AV))} {ad:List Nat} {w w':World} (hb:tB ad w w') (had:∀ b∈ad,(∃ x∈ups,bW x.1=b)\/∃ i,del=some i/\β i=b) (oq:∀ i,i∉ups.map (·.1)->bW i=β i) (gone:∀ i,del=some i->Reach H ids i/\H i≠none)
  (left:∀ i,del=some i->∃ t cs,aZ w' (β i) t (List.toArray cs)/\C.K.fz t=false/\cs.all aU=true) (own:∀ x∈ups,ly C bW w' x.1 x.2.1 x.2.2)
  (Oz:∀ x∈ups,(H x.1≠none/\del≠some x.1/\Reach H ids x.1/\bW x.1=β x.1)\/((H x.1=none\/del=some x.1)/\x.1 < 2 * C.N/\(w.heap.size≤bW x.1\/∃ i,del=some i/\bW x.1=β i)))
  (once:(ups.map (·.1)).Nodup) (tys:(ups.map (·.2.1)).Nodup) (closed:∀ x∈ups,∀ j∈ax x.2.2,j∈ups.map (·.1)\/(H j≠none/\del≠some j)):AX C β bW H ids del ups w w':=by
 refine ⟨hb.os,hb.tape,hb.output,hb.size,fun k hk hx jU _=>hb.ln k hk fun hm=> ?_,oq,gone,fun i hi=>.inl (.inr (left i hi)),own,Oz,once,fun x hx y hy he=> ?_,closed⟩
 ·rcases had k hm with ⟨x,Rj,e⟩ | ⟨i,hi,e⟩
  ·exact hx x Rj e.symm
  ·exact jU i hi e.symm
 ·have ht:x.2.1=y.2.1:=bM (own x hx).cls (he▸(own y hy).cls)
  obtain ⟨i,hi⟩:=List.mem_iff_getElem?.1 hx
  obtain ⟨j,hj⟩:=List.mem_iff_getElem?.1 hy
  have e1:(ups.map (·.2.1))[i]? =some x.2.1:=by rw [List.getElem?_map,hi];rfl
  have e2:(ups.map (·.2.1))[j]? =some x.2.1:=by rw [List.getElem?_map,hj,ht];rfl
  have:=(List.getElem?_inj (by rw [List.length_map];exact (List.getElem?_eq_some_iff.1 hi).1) tys).1 (e1.trans e2.symm)
  subst this
  rw [hi] at hj
  cases hj;rfl
theorem Pr (g y kk:Nat) (r u v:Value) (m:Rat) (w:World) (hg:aZ w g Runner #[.slice none 0 0,r,u]) (hv:bI w v m):
  Calls Tryz.prog 73 #[.pointer (some ⟨g,0,none⟩),.int .i64 (y:Int),v] w fun o w'=>∃ x,o=.returned x/\aH w' w.heap.size x 0/\aM w w':=by
 obtain ⟨s0,p0,n0,c0,t0,y0,m0,d0,rfl⟩:=hv.form
 refine ah (C:=bS Tryz.prog w _) (args:=[_,_,_]) Tryz.func73 rfl Tryz.ntmps73 (bB rfl) ?_
 refine ab ?_
 refine VO.call rfl rfl (fk Tryz.func44) (fun bF cU bJ=>((cd 0 bF aa aa).mono (fun o w2 h=>And.intro h bJ.size)).mono ?_)
 rintro o w1 ⟨⟨r9,rfl,q9,Qi⟩,LA⟩
 obtain ⟨s9,p9,n9,c9,t9,y9,m9,d9,rfl⟩:=q9.form
 refine ⟨_,rfl,Qi,fun Jd _ bb9=>wV rfl ?_⟩
 refine ab ?_
 have q9':aH w1 w.heap.size (.agg #[.bool s9,.slice p9 n9 c9,.bool t9,.slice y9 m9 d9]) 0:=q9.mono LA
 refine VO.call rfl rfl (fk Tryz.func75) (fun cK eg di=>(xV g 0 none r u cK (hg.bC di)).mono ?_)
 rintro e w2 ⟨rfl,ba⟩
 skip
 refine ⟨_,rfl,ba,fun ed _ bb2=>wV rfl ?_⟩
 refine ab ?_
 refine VS.loop (J:=fun m L M w'=>L=[(1,.val (.int .i64 (y:Int))),(5,.box 5 0),(6,.box 6 0),(7,.box 7 0),(8,.val (.pointer none))]/\M=[(5,(26,([.bool s0,.slice p0 n0 c0,.bool t0,.slice y0 m0 d0]:List Value).map .val)),(6,(26,([.bool false,.slice none 0 0,.bool false,.slice none 0 0]:List Value).map .val)),(7,(26,([.bool s9,.slice p9 n9 c9,.bool t9,.slice y9 m9 d9]:List Value).map .val))]/\aH w' w.heap.size (.agg #[.bool s9,.slice p9 n9 c9,.bool t9,.slice y9 m9 d9]) 0) 0 ⟨_,_,?_,?_,?_,?_,⟨rfl,rfl,q9'.k⟩⟩ ?_
 ·exact bT
 ·exact bT
 ·rfl
 ·exact ic
 rintro m' L M w3 ⟨rfl,rfl,hr3⟩
 refine ab ?_
 refine aY ?_;intro wz kz bz
 exact ⟨_,rfl,hr3.k,bz⟩
end
section
open Go.RowKit
section
variable {C:Cx} {F:Fr} {H:Hp} {w:World} {m:Option (List FuncId)} {full:Array Oper} {K:Fr->Hp->World->Prop} {o:Oper} {r:List Oper}
theorem VO.vG {B i y:Nat} {a u:AV} {val:Value} {mm:Rat} (kk:Nat) (hP:C.P=Tryz.prog) (e:stepOf C full F H o=.call (.fn 73 [.box i 0,.val (.int .i64 (y:Int)),.val val])) (hf:pA C.P 73) (h1:H i=some (Runner,[.val (.slice none 0 0),a,u])) (hv:∀ w1,bt C.K w w1->C.Old w1->bI w1 val mm) (hB:B≤C.w0.heap.size)
  (k:∀ w2 x,bt C.K w w2->C.Old w2->aH w2 B x 0->aB C m full r K (F.bu o.dst (.val x)) H w2):aB C m full (o::r) K F H w:=by
 refine VO.eK e hf fun w1 β a1 a2 a3=> ?_
 have o1:=a3.own i (.base (by simp [gI,AV.ids])) _ _ h1
 refine Calls.mono (show Calls C.P _ #[.pointer (some ⟨β i,0,none⟩),.int .i64 (y:Int),val] w1 _ from hP▸Pr (β i) y kk _ _ val mm w1 o1.cls (hv w1 a1 a2)) ?_
 rintro e w2 ⟨x,rfl,hx,hb⟩
 exact ⟨_,rfl,hb,fun b1 b2 b3=>k w2 x b1 b3 (hx.mono (Nat.le_trans hB (C.fe _ a2)))⟩
theorem VO.JA {B D i v d2 off n c y:Nat} {M mm:Rat} {a:AV} {pre spare:List Value} {vs:List (List Value)} {q:List Vq} {val:Value} (kk:Nat) (hP:C.P=Tryz.prog) (hK:C.K=KU UU)
  (e:stepOf C full F H o=.call (.fn 73 [.box i 0,.val (.int .i64 (y:Int)),.val val])) (hf:pA C.P 73) (h1:H i=some (Runner,[.row v off n c,a,.val (.slice none 0 0)])) (h2:H v=some (dD,(pre++(vs.flatten++spare)).map .val)) (h3:H d2=none) (hd2:d2 < 2 * C.N) (hiv:i≠v) (haok:aG a=true) (SP:∀ β:Nat->Nat,aU (a.leaf β)=true)
  (iM:∀ j∈ax [a],H j≠none) (hl:1≤lvl C.SU m o) (hO:∀ w1,bt C.K w w1->C.Old w1->dL (dz B) 5 w1 n off c pre vs spare q) (hv:∀ w1,bt C.K w w1->C.Old w1->bI w1 val mm) (hmI:Iz D mm) (CS:0≤mm) (hmM:mm≤M) (hq:∀ p∈q,Iz D p.2/\0≤p.2/\p.2≤M)
  (hKs:∀ x,Iz D x->0≤x->x≤M->eM x kk) (hk:kk≤100000) (lD:q.length≤1000) (hB:B≤C.w0.heap.size)
  (k1:∀ w2 x aV n' c' cf iZ aj,bt C.K w w2->C.Old w2->aH w2 B x (ur q mm)->qI y q mm=[]->dL (dz B) 5 w2 n' aV c' cf iZ aj (nd q mm)->
   aB C m full r K (F.bu o.dst (.val x)) ((H.put i (Runner,[.row v aV n' c',a,.val (.slice none 0 0)])).put v (dD,(cf++(iZ.flatten++aj)).map .val)) w2)
  (k2:∀ w2 x aV n' c' cf iZ aj un uc rJ oL,bt C.K w w2->C.Old w2->aH w2 B x (ur q mm)->dL (dz B) 5 w2 n' aV c' cf iZ aj (nd q mm)->dL (qw B) 6 w2 un 0 uc [] rJ oL (qI y q mm)->
   aB C m full r K (F.bu o.dst (.val x)) (((H.put i (Runner,[.row v aV n' c',a,.row d2 0 un uc])).put v (dD,(cf++(iZ.flatten++aj)).map .val)).put d2 (fm,(rJ.flatten++oL).map .val)) w2):aB C m full (o::r) K F H w:=by
 show one C m full o (aB C m full r K) F H w
 unfold one
 rw [e]
 intro w1 β a1 a2 a3
 have jE:Reach H (fq.fn 73 [.box i 0,.val (.int .i64 (y:Int)),.val val]).ids i:=.base (by simp [fq.ids,gI,AV.ids])
 have jW:Reach H (fq.fn 73 [.box i 0,.val (.int .i64 (y:Int)),.val val]).ids v:=.step jE h1 (by simp [ax,AV.cQ])
 have o1:=a3.own i jE _ _ h1
 have o2:=a3.own v jW _ _ h2
 have iQ:aZ w1 (β v) dD (pre++(vs.flatten++spare)).toArray:=by have:=o2.cls;rw [ag] at this;exact this
 have hBw:B≤w1.heap.size:=Nat.le_trans hB (C.fe _ a2)
 have hne:∀ j,H j≠none->j≠d2:=fun j hj e=>hj (e▸h3)
 have hid:i≠d2:=hne i (by rw [h1];simp)
 have Nk:v≠d2:=hne v (by rw [h2];simp)
 refine ⟨hf,Calls.mono (show Calls C.P _ #[.pointer (some ⟨β i,0,none⟩),.int .i64 (y:Int),val] w1 _ from hP▸SF B (β i) (β v) off n c y D kk M mm pre vs spare q (a.leaf β) val w1 o1.cls iQ (hO w1 a1 a2) (SP β) (hv w1 a1 a2) hmI CS hmM hq hKs hk lD hBw) ?_⟩
 rintro e w2 ⟨x,rfl,hx,hb,aV,n',c',cf,iZ,aj,uv,Qm,Ct,jn,⟨rfl,NZ⟩ | ⟨b',un,uc,rJ,oL,hbn,rfl,hu',xg⟩⟩
 ·refine ⟨β,.val x,none,[(i,(Runner,[.row v aV n' c',a,.val (.slice none 0 0)])),(v,(dD,(cf++(iZ.flatten++aj)).map .val))],rfl,fun i hi=>(by cases hi),.inl hl,.inr rfl,?_,fun p1 _ p3 _ _=>k1 w2 x aV n' c' cf iZ aj p1 p3 (hx.mono hBw) NZ jn⟩
  refine FJ hb (fun b Ct=> ?_) (fun _ _=>rfl) (fun i hi=>(by cases hi)) (fun i hi=>(by cases hi)) (fun x hx=> ?_) (fun x hx=> ?_) (by simpa using hiv) (by show [Runner,dD].Nodup;decide) (fun x hx j hj=> ?_)
  ·simp only [List.mem_cons,List.not_mem_nil,or_false] at Ct
   rcases Ct with rfl | rfl
   ·exact .inl ⟨_,List.mem_cons_self,rfl⟩
   ·exact .inl ⟨_,List.mem_cons_of_mem _ List.mem_cons_self,rfl⟩
  ·simp only [List.mem_cons,List.not_mem_nil,or_false] at hx
   rcases hx with rfl | rfl
   ·exact ⟨o1.new,o1.ty,Qm,SN haok rfl⟩
   ·exact ⟨o2.new,o2.ty,by rw [ag];exact Ct,bg (jn.all (aO B))⟩
  ·simp only [List.mem_cons,List.not_mem_nil,or_false] at hx
   rcases hx with rfl | rfl
   ·exact .inl ⟨by rw [h1];simp,by simp,jE,rfl⟩
   ·exact .inl ⟨by rw [h2];simp,by simp,jW,rfl⟩
  ·simp only [List.mem_cons,List.not_mem_nil,or_false] at hx
   rcases hx with rfl | rfl
   ·rcases BR hj with h | h | h
    ·exact .inl (by simp [h])
    ·exact .inr ⟨iM j h,by simp⟩
    ·cases h
   ·rw [ai] at hj;cases hj
 ·let bW:Nat->Nat:=fun j=>if j=d2 then b' else β j
  have e2:bW d2=b':=if_pos rfl
  have e1:∀ j,j≠d2->bW j=β j:=fun j hj=>if_neg hj
  have hag:a.leaf bW=a.leaf β:=AV.pw fun j hj=>e1 j (hne j (iM j (aX.2 ⟨a,by simp,hj⟩)))
  refine ⟨bW,.val x,none,[(i,(Runner,[.row v aV n' c',a,.row d2 0 un uc])),(v,(dD,(cf++(iZ.flatten++aj)).map .val)),(d2,(fm,(rJ.flatten++oL).map .val))],rfl,fun i hi=>(by cases hi),.inl aa,.inr rfl,?_,fun p1 _ p3 ρ _=>k2 w2 x aV n' c' cf iZ aj un uc rJ oL p1 p3 (hx.mono hBw) jn xg⟩
  refine FJ hb (fun b Ct=> ?_) (fun j hj=>e1 j (fun h=>hj (by simp [h]))) (fun i hi=>(by cases hi)) (fun i hi=>(by cases hi)) (fun x hx=> ?_) (fun x hx=> ?_) (by simp [hiv,hid,Nk]) (by show [Runner,dD,fm].Nodup;decide) (fun x hx j hj=> ?_)
  ·simp only [List.mem_cons,List.not_mem_nil,or_false] at Ct
   rcases Ct with rfl | rfl
   ·exact .inl ⟨_,List.mem_cons_self,e1 i hid⟩
   ·exact .inl ⟨_,List.mem_cons_of_mem _ List.mem_cons_self,e1 v Nk⟩
  ·simp only [List.mem_cons,List.not_mem_nil,or_false] at hx
   rcases hx with rfl | rfl | rfl
   ·refine ⟨by rw [e1 i hid];exact o1.new,o1.ty,?_,SN haok rfl⟩
    rw [e1 i hid]
    show aZ w2 (β i) Runner #[.slice (some ⟨bW v,aV,none⟩) n' c',a.leaf bW,.slice (some ⟨bW d2,0,none⟩) un uc]
    rw [e1 v Nk,e2,hag]
    exact Qm
   ·exact ⟨by rw [e1 v Nk];exact o2.new,o2.ty,by rw [e1 v Nk,ag];exact Ct,bg (jn.all (aO B))⟩
   ·refine ⟨?_,by rw [hK];rfl,by rw [e2,ag];exact hu',bg (by have:=xg.all (dR B);exact this)⟩
    rw [e2]
    exact C.sQ _ _ aa (by have:=C.fe _ a2;omega)
  ·simp only [List.mem_cons,List.not_mem_nil,or_false] at hx
   rcases hx with rfl | rfl | rfl
   ·exact .inl ⟨by rw [h1];simp,by simp,jE,e1 i hid⟩
   ·exact .inl ⟨by rw [h2];simp,by simp,jW,e1 v Nk⟩
   ·exact .inr ⟨.inl h3,hd2,.inl (by rw [e2];exact hbn)⟩
  ·simp only [List.mem_cons,List.not_mem_nil,or_false] at hx
   rcases hx with rfl | rfl | rfl
   ·rcases BR hj with h | h | h
    ·exact .inl (by simp [h])
    ·exact .inr ⟨iM j h,by simp⟩
    ·exact .inl (by have:j=d2:=by simpa [AV.cQ] using h
                    simp [this])
   ·rw [ai] at hj;cases hj
   ·rw [ai] at hj;cases hj
theorem VO.JB {B D i v d2 off n c y:Nat} {M mm:Rat} {a:AV} {pre spare:List Value} {vs:List (List Value)} {q:List Vq} {val:Value} {u CU FH:Nat} {oM:List (List Value)} {qx:List Value} {us0:List Uq} (kk:Nat) (hP:C.P=Tryz.prog) (hK:C.K=KU UU)
  (e:stepOf C full F H o=.call (.fn 73 [.box i 0,.val (.int .i64 (y:Int)),.val val])) (hf:pA C.P 73) (h1:H i=some (Runner,[.row v off n c,a,.row u 0 CU FH])) (h2:H v=some (dD,(pre++(vs.flatten++spare)).map .val)) (h4:H u=some (fm,(oM.flatten++qx).map .val)) (Qn:∀ w1,bt C.K w w1->C.Old w1->dL (qw B) 6 w1 CU 0 FH [] oM qx us0) (FI:us0.length≤1000) (hiu:i≠u) (hvu:v≠u) (h3:H d2=none) (hd2:d2 < 2 * C.N) (hiv:i≠v) (haok:aG a=true) (SP:∀ β:Nat->Nat,aU (a.leaf β)=true)
  (iM:∀ j∈ax [a],H j≠none/\j≠u) (hl:lvl C.SU m o=2) (hO:∀ w1,bt C.K w w1->C.Old w1->dL (dz B) 5 w1 n off c pre vs spare q) (hv:∀ w1,bt C.K w w1->C.Old w1->bI w1 val mm) (hmI:Iz D mm) (CS:0≤mm) (hmM:mm≤M) (hq:∀ p∈q,Iz D p.2/\0≤p.2/\p.2≤M)
  (hKs:∀ x,Iz D x->0≤x->x≤M->eM x kk) (hk:kk≤100000) (lD:q.length≤1000) (hB:B≤C.w0.heap.size)
  (k2:∀ w2 x aV n' c' cf iZ aj un uc rJ oL ρ,bt C.K w w2->C.Old w2->aH w2 B x (ur q mm)->dL (dz B) 5 w2 n' aV c' cf iZ aj (nd q mm)->dL (qw B) 6 w2 un 0 uc [] rJ oL (us0++qI y q mm)->
   aB C m full r K ((F.forget (some u) ρ).bu o.dst (.val x)) ((((H.forget (some u) ρ).put i (Runner,[.row v aV n' c',a,.row d2 0 un uc])).put v (dD,(cf++(iZ.flatten++aj)).map .val)).put d2 (fm,(rJ.flatten++oL).map .val)) w2):aB C m full (o::r) K F H w:=by
 show one C m full o (aB C m full r K) F H w
 unfold one
 rw [e]
 intro w1 β a1 a2 a3
 have jE:Reach H (fq.fn 73 [.box i 0,.val (.int .i64 (y:Int)),.val val]).ids i:=.base (by simp [fq.ids,gI,AV.ids])
 have jW:Reach H (fq.fn 73 [.box i 0,.val (.int .i64 (y:Int)),.val val]).ids v:=.step jE h1 (by simp [ax,AV.cQ])
 have o1:=a3.own i jE _ _ h1
 have o2:=a3.own v jW _ _ h2
 have iQ:aZ w1 (β v) dD (pre++(vs.flatten++spare)).toArray:=by have:=o2.cls;rw [ag] at this;exact this
 have hBw:B≤w1.heap.size:=Nat.le_trans hB (C.fe _ a2)
 have hne:∀ j,H j≠none->j≠d2:=fun j hj e=>hj (e▸h3)
 have hid:i≠d2:=hne i (by rw [h1];simp)
 have Nk:v≠d2:=hne v (by rw [h2];simp)
 have hr4:Reach H (fq.fn 73 [.box i 0,.val (.int .i64 (y:Int)),.val val]).ids u:=.step jE h1 (by simp [ax,AV.cQ])
 have o4:=a3.own u hr4 _ _ h4
 have wy:aZ w1 (β u) fm (oM.flatten++qx).toArray:=by have:=o4.cls;rw [ag] at this;exact this
 have hud:u≠d2:=hne u (by rw [h4];simp)
 refine ⟨hf,Calls.mono (show Calls C.P _ #[.pointer (some ⟨β i,0,none⟩),.int .i64 (y:Int),val] w1 _ from hP▸SL B (β i) (β v) off n c y D kk M mm pre vs spare q (a.leaf β) val (β u) CU FH oM qx us0 w1 o1.cls wy (Qn w1 a1 a2) FI iQ (hO w1 a1 a2) (SP β) (hv w1 a1 a2) hmI CS hmM hq hKs hk lD hBw) ?_⟩
 rintro e w2 ⟨x,rfl,hx,hb,⟨tl,cl,l1,l2,l3⟩,aV,n',c',cf,iZ,aj,uv,Qm,Ct,jn,b',un,uc,rJ,oL,hbn,rfl,hu',xg⟩
 ·let bW:Nat->Nat:=fun j=>if j=d2 then b' else β j
  have e2:bW d2=b':=if_pos rfl
  have e1:∀ j,j≠d2->bW j=β j:=fun j hj=>if_neg hj
  have hag:a.leaf bW=a.leaf β:=AV.pw fun j hj=>e1 j (hne j ((iM j (aX.2 ⟨a,by simp,hj⟩)).1))
  refine ⟨bW,.val x,some u,[(i,(Runner,[.row v aV n' c',a,.row d2 0 un uc])),(v,(dD,(cf++(iZ.flatten++aj)).map .val)),(d2,(fm,(rJ.flatten++oL).map .val))],rfl,fun i hi=>(by cases hi),.inl aa,.inl aa,?_,fun p1 _ p3 ρ _=>k2 w2 x aV n' c' cf iZ aj un uc rJ oL ρ p1 p3 (hx.mono hBw) jn xg⟩
  refine FJ hb (fun b Ct=> ?_) (fun j hj=>e1 j (fun h=>hj (by simp [h]))) (fun j hj=>by cases hj;exact ⟨hr4,by rw [h4];simp⟩) (fun j hj=>by cases hj;exact ⟨tl,cl,l1,by rw [hK];exact l2,l3⟩) (fun x hx=> ?_) (fun x hx=> ?_) (by simp [hiv,hid,Nk]) (by show [Runner,dD,fm].Nodup;decide) (fun x hx j hj=> ?_)
  ·simp only [List.mem_cons,List.not_mem_nil,or_false] at Ct
   rcases Ct with rfl | rfl | rfl
   ·exact .inl ⟨_,List.mem_cons_self,e1 i hid⟩
   ·exact .inl ⟨_,List.mem_cons_of_mem _ List.mem_cons_self,e1 v Nk⟩
   ·exact .inr ⟨u,rfl,rfl⟩
  ·simp only [List.mem_cons,List.not_mem_nil,or_false] at hx
   rcases hx with rfl | rfl | rfl
   ·refine ⟨by rw [e1 i hid];exact o1.new,o1.ty,?_,SN haok rfl⟩
    rw [e1 i hid]
    show aZ w2 (β i) Runner #[.slice (some ⟨bW v,aV,none⟩) n' c',a.leaf bW,.slice (some ⟨bW d2,0,none⟩) un uc]
    rw [e1 v Nk,e2,hag]
    exact Qm
   ·exact ⟨by rw [e1 v Nk];exact o2.new,o2.ty,by rw [e1 v Nk,ag];exact Ct,bg (jn.all (aO B))⟩
   ·refine ⟨?_,by rw [hK];rfl,by rw [e2,ag];exact hu',bg (by have:=xg.all (dR B);exact this)⟩
    rw [e2]
    rcases hbn with h | h
    ·exact C.sQ _ _ aa (by have:=C.fe _ a2;omega)
    ·rw [h];exact C.Dx u d2 _ o4.new aa
  ·simp only [List.mem_cons,List.not_mem_nil,or_false] at hx
   rcases hx with rfl | rfl | rfl
   ·exact .inl ⟨by rw [h1];simp,by simpa using fun h=>hiu h.symm,jE,e1 i hid⟩
   ·exact .inl ⟨by rw [h2];simp,by simpa using fun h=>hvu h.symm,jW,e1 v Nk⟩
   ·exact .inr ⟨.inl h3,hd2,hbn.imp (fun h=>by rw [e2];exact h) (fun h=>⟨u,rfl,by rw [e2];exact h⟩)⟩
  ·simp only [List.mem_cons,List.not_mem_nil,or_false] at hx
   rcases hx with rfl | rfl | rfl
   ·rcases BR hj with h | h | h
    ·exact .inl (by simp [h])
    ·exact .inr ⟨(iM j h).1,by simpa using fun h2=>(iM j h).2 h2.symm⟩
    ·exact .inl (by have:j=d2:=by simpa [AV.cQ] using h
                    simp [this])
   ·rw [ai] at hj;cases hj
   ·rw [ai] at hj;cases hj
end
end
set_option maxRecDepth 4000
section
open Go.RowKit
attribute [local irreducible] aB VS
theorem xh {D:Nat}:∀ {q:List Vq} {m:Rat},(∀ p∈q,Iz D p.2/\0≤p.2)->Iz D m->0≤m->Iz D (ur q m)/\0≤ur q m/\ur q m≤m
 | [],m,_,_,hm=>⟨Iz.zero,Rat.le_refl,hm⟩
 | p::q,m,h,hI,hm=>by
   obtain ⟨p1,p2⟩:=h p cA
   have hq:∀ x∈q,Iz D x.2/\0≤x.2:=fun x hx=>h x (by simp [hx])
   have xJ:=cj p.2 m
   have nB:0≤ae p.2 m:=by rcases xJ with ⟨e,_⟩ | ⟨e,_⟩ <;> rw [e] <;> assumption
   have nk:Iz D (ae p.2 m):=by rcases xJ with ⟨e,_⟩ | ⟨e,_⟩ <;> rw [e] <;> assumption
   have zT:=cI p.2 m
   by_cases h0:0 < m
   ·by_cases hz:p.2 - ae p.2 m=0
    ·obtain ⟨_,_,e3⟩:=gZ (y:=0) (p:=p) (q:=q) h0 hz
     obtain ⟨i1,i2,i3⟩:=xh (m:=m - ae p.2 m) hq (hI.sub nk) dt
     rw [e3]
     exact ⟨nk.add i1,by grind,by grind⟩
    ·obtain ⟨_,_,_,e3⟩:=gY (y:=0) (p:=p) (q:=q) h0 hz
     rw [e3]
     exact ⟨nk,nB,zT⟩
   ·rw [iU _ h0]
    exact ⟨Iz.zero,Rat.le_refl,hm⟩
theorem SQ {D:Nat} {M:Rat}:∀ {q:List Vq} {m:Rat},(∀ p∈q,Iz D p.2/\0≤p.2/\p.2≤M)->Iz D m->0≤m->∀ p∈nd q m,Iz D p.2/\0≤p.2/\p.2≤M/\∃ p'∈q,p'.1=p.1
 | [],m,_,_,_,p,hp=>by cases hp
 | x::q,m,h,hI,hm,p,hp=>by
   obtain ⟨p1,p2,p3⟩:=h x cA
   have hq:∀ x∈q,Iz D x.2/\0≤x.2/\x.2≤M:=fun x hx=>h x (by simp [hx])
   have xJ:=cj x.2 m
   have nB:0≤ae x.2 m:=by rcases xJ with ⟨e,_⟩ | ⟨e,_⟩ <;> rw [e] <;> assumption
   have nk:Iz D (ae x.2 m):=by rcases xJ with ⟨e,_⟩ | ⟨e,_⟩ <;> rw [e] <;> assumption
   have zT:=cI x.2 m
   have CL:=dw x.2 m
   by_cases h0:0 < m
   ·by_cases hz:x.2 - ae x.2 m=0
    ·obtain ⟨_,e2,_⟩:=gZ (y:=0) (p:=x) (q:=q) h0 hz
     rw [e2] at hp
     obtain ⟨i1,i2,i3,p',i4,i5⟩:=SQ (m:=m - ae x.2 m) hq (hI.sub nk) dt p hp
     exact ⟨i1,i2,i3,p',by simp [i4],i5⟩
    ·obtain ⟨_,_,e2,_⟩:=gY (y:=0) (p:=x) (q:=q) h0 hz
     rw [e2] at hp
     rcases List.mem_cons.1 hp with rfl | hp
     ·exact ⟨p1.sub nk,by show 0≤x.2 - ae x.2 m;grind,by show x.2 - ae x.2 m≤M;grind,x,by simp,rfl⟩
     ·obtain ⟨a,b,c⟩:=hq p hp
      exact ⟨a,b,c,p,by simp [hp],rfl⟩
   ·rw [gX _ h0] at hp
    obtain ⟨a,b,c⟩:=h p hp
    exact ⟨a,b,c,p,hp,rfl⟩
theorem BS (y:Nat):∀ (q:List Vq) (m:Rat),(qI y q m).length + (nd q m).length≤q.length + 1/\(nd q m).length≤q.length
 | [],_=>⟨Nat.zero_le _,Nat.le_refl _⟩
 | p::q,m=>by
   by_cases h0:0 < m
   ·by_cases hz:p.2 - ae p.2 m=0
    ·obtain ⟨e1,e2,_⟩:=gZ (y:=y) (p:=p) (q:=q) h0 hz
     have:=BS y q (m - ae p.2 m)
     rw [e1,e2,List.length_cons,List.length_cons];omega
    ·obtain ⟨_,e1,e2,_⟩:=gY (y:=y) (p:=p) (q:=q) h0 hz
     rw [e1,e2];simp;omega
   ·rw [iT y _ h0,gX _ h0];simp
structure BU (D:Nat) (M:Rat) (s:Jw):Prop where
 el:∀ p∈s.q,Iz D p.2/\0≤p.2/\p.2≤M + M/\p.1 < s.rows.length
 len:s.uses.length + s.q.length≤2 * s.rows.length
theorem exp_len (keep n:Nat) (s:Jw):(vB keep n s).rows.length=s.rows.length/\(vB keep n s).uses=s.uses/\(vB keep n s).q.length≤s.q.length/\∀ p∈(vB keep n s).q,p∈s.q:=by
 unfold vB
 split
 ·rename_i p q hq
  split
  ·exact ⟨List.length_modify ..,rfl,by rw [hq];simp,fun x hx=>by rw [hq];exact List.mem_cons_of_mem _ hx⟩
  ·exact ⟨rfl,rfl,Nat.le_refl _,fun x hx=>hx⟩
 ·exact ⟨rfl,rfl,Nat.le_refl _,fun x hx=>hx⟩
theorem np {D:Nat} {M L x:Rat} (hL:Iz D L) (hL0:0≤L) (tY:L≤M) (hx:Iz D x) (iV: -M≤x) (GI:x≤M):
  Iz D (ae x L)/\-M≤ae x L/\ae x L≤M/\Iz D (x - ae x L)/\0≤x - ae x L/\x - ae x L≤M + M/\Iz D (L - ae x L)/\0≤L - ae x L/\L - ae x L≤M + M:=by
 rcases cj x L with ⟨e,h⟩ | ⟨e,h⟩ <;> rw [e]
 ·exact ⟨hx,iV,GI,hx.sub hx,by grind,by grind,hL.sub hx,by grind,by grind⟩
 ·exact ⟨hL,by grind,tY,hx.sub hL,by grind,by grind,hL.sub hL,by grind,by grind⟩
theorem Nl {D:Nat} {M S F:Rat} {keep:Nat} {s:Jw} {e:Rat×Rat} (h:BU D M s) (hL:Iz D (aw S F e.2)) (tY:aw S F e.2≤M) (hx:Iz D e.1) (iV: -M≤e.1) (GI:e.1≤M):BU D M (eb S F keep s.rows.length s e)/\(eb S F keep s.rows.length s e).rows.length=s.rows.length + 1:=by
 obtain ⟨g1,g2,g3,g4,g5,g6,g7,g8,g9⟩:=np hL (lN S F e.2) tY hx iV GI
 unfold eb
 obtain ⟨e1,e2,e3,e4⟩:=exp_len keep s.rows.length ⟨mP s.rows.length (ey S F s.q e).aI (nd s.q (aw S F e.2 - ae e.1 (aw S F e.2))),s.rows++[ey S F s.q e],s.uses++qI s.rows.length s.q (aw S F e.2 - ae e.1 (aw S F e.2))⟩
 obtain ⟨u1,u2⟩:=BS s.rows.length s.q (aw S F e.2 - ae e.1 (aw S F e.2))
 have hl:(s.rows++[ey S F s.q e]).length=s.rows.length + 1:=by rw [List.length_append];rfl
 have hput:(mP s.rows.length (ey S F s.q e).aI (nd s.q (aw S F e.2 - ae e.1 (aw S F e.2)))).length≤(nd s.q (aw S F e.2 - ae e.1 (aw S F e.2))).length + 1:=by
  unfold mP;split
  ·rw [List.length_append];exact Nat.le_refl _
  ·omega
 refine ⟨⟨fun p hp=> ?_,?_⟩,by rw [e1];exact hl⟩
 ·rw [e1,hl]
  have hp':=e4 p hp
  have key:p∈nd s.q (aw S F e.2 - ae e.1 (aw S F e.2))\/p=(s.rows.length,e.1 - ae e.1 (aw S F e.2)):=by
   unfold mP at hp'
   dsimp only at hp'
   split at hp'
   ·rcases List.mem_append.1 hp' with h | h
    ·exact .inl h
    ·exact .inr (List.mem_singleton.1 h)
   ·exact .inl hp'
  rcases key with hk | rfl
  ·obtain ⟨a,b,c,p',d1,d2⟩:=SQ (fun p hp=>⟨(h.el p hp).1,(h.el p hp).2.1,(h.el p hp).2.2.1⟩) g7 g8 p hk
   have:=(h.el p' d1).2.2.2
   exact ⟨a,b,c,by omega⟩
  ·exact ⟨g4,g5,g6,Nat.lt_succ_self _⟩
 ·rw [e1,e2,hl]
  dsimp only at e3 ⊢
  rw [List.length_append]
  have:=h.len
  omega
def eB (B:Nat) (w:World) (cs:List Value) (r:aL):Prop:=
 ∃ a b c d e f g,cs=a++(b++(c++(d++(e++(f++g)))))/\R4 B w a r.bn/\R4 B w b r.allowed/\R4 B w c r.aI/\R4 B w d r.used/\R4 B w e r.ay/\R4 B w f r.aq/\R4 B w g r.closing
theorem R4.len {B:Nat} {w:World} {cs:List Value} {q:Rat} (h:R4 B w cs q):cs.length=4:=by obtain ⟨s,p,n,c,t,r,m,d,rfl,_⟩:=h;rfl
theorem R4.ok {B:Nat} {w:World} {cs:List Value} {q:Rat} (h:R4 B w cs q):cs.all aU=true:=by obtain ⟨s,p,n,c,t,r,m,d,rfl,_⟩:=h;rfl
theorem aA (B:Nat):gE (eB B) 28 where
 kp:=fun h k=>by
  obtain ⟨a,b,c,d,e,f,g,h0,h1,h2,h3,h4,h5,h6,h7⟩:=h
  exact ⟨a,b,c,d,e,f,g,h0,h1.kp k,h2.kp k,h3.kp k,h4.kp k,h5.kp k,h6.kp k,h7.kp k⟩
 len:=fun h=>by
  obtain ⟨a,b,c,d,e,f,g,rfl,h1,h2,h3,h4,h5,h6,h7⟩:=h
  simp [h1.len,h2.len,h3.len,h4.len,h5.len,h6.len,h7.len]
 ok:=fun h=>by
  obtain ⟨a,b,c,d,e,f,g,rfl,h1,h2,h3,h4,h5,h6,h7⟩:=h
  simp only [List.all_append,h1.ok,h2.ok,h3.ok,h4.ok,h5.ok,h6.ok,h7.ok,Bool.and_self]
structure qy {α:Type} (E:World->List Value->α->Prop) (sz:Nat) (w:World) (n c:Nat) (vs:List (List Value)) (sp:List AV) (es:List α):Prop where
 len:n=es.length
 el:ck E w es vs
 so:sp.all aG=true
 sl:ax sp=[]
 le:n≤c
 cm:c≤9223372036854775807
 fl:(vs.flatten.map AV.val++sp).length=c * sz
theorem qy.kp {α:Type} {E:World->List Value->α->Prop} {sz n c:Nat} (hE:gE E sz) {w w':World} {vs:List (List Value)} {sp:List AV} {es:List α} (h:qy E sz w n c vs sp es) (k:Kp UU w w'):qy E sz w' n c vs sp es:=⟨h.len,h.el.kp hE k,h.so,h.sl,h.le,h.cm,h.fl⟩
theorem qy.o {α:Type} {E:World->List Value->α->Prop} {sz n c:Nat} {w:World} {vs:List (List Value)} {sp:List AV} {es:List α} (h:qy E sz w n c vs sp es) (β:Nat->Nat):dL E sz w n 0 c [] vs (sp.map (AV.leaf β)) es:=
 ⟨h.len,.inl rfl,rfl,h.el,dv h.so,h.le,h.cm,by have:=h.fl;rw [List.length_append,List.length_map] at this;rw [List.length_append,List.length_map];exact this⟩
theorem dL.a {α:Type} {E:World->List Value->α->Prop} {sz n c:Nat} {w:World} {vs:List (List Value)} {sp:List Value} {es:List α} (h:dL E sz w n 0 c [] vs sp es):qy E sz w n c vs (sp.map .val) es:=
 ⟨h.len,h.el,bg h.so,ai _,h.le,h.cm,by rw [<-List.map_append,List.length_map];exact h.fl⟩
theorem dB {vs:List (List Value)} {sz:Nat} (h:∀ x∈vs,x.length=sz):vs.flatten.length=vs.length * sz:=by
 induction vs with
 | nil=>simp
 | cons x vs ih=>rw [List.flatten_cons,List.length_append,h x cA,ih (fun y hy=>h y (by simp [hy])),List.length_cons,Nat.add_mul];omega
theorem En {vs:List (List Value)} {sz i o:Nat} {x new:List Value} {sp:List AV} (h:∀ x∈vs,x.length=sz) (hi:vs[i]? =some x) (ho:o + new.length≤sz):
  (vs.flatten.map AV.val++sp).take (i * sz + o)++(new.map AV.val++(vs.flatten.map AV.val++sp).drop (i * sz + o + new.length))=(vs.set i (x.take o++(new++x.drop (o + new.length)))).flatten.map AV.val++sp:=by
 obtain ⟨hlt,hx⟩:=List.getElem?_eq_some_iff.1 hi
 have CR:vs=vs.take i++x::vs.drop (i + 1):=by rw [<-hx,<-List.drop_eq_getElem_cons hlt,List.take_append_drop]
 have fw:x.length=sz:=h x (List.mem_of_getElem? hi)
 have hal:(vs.take i).flatten.length=i * sz:=by
  rw [dB (fun y hy=>h y (List.mem_of_mem_take hy)),List.length_take,Nat.min_eq_left aa]
 have hset:vs.set i (x.take o++(new++x.drop (o + new.length)))=vs.take i++(x.take o++(new++x.drop (o + new.length)))::vs.drop (i + 1):=by rw [List.set_eq_take_append_cons_drop,if_pos hlt]
 rw [hset]
 conv=>lhs;rw [CR]
 generalize (vs.take i)=A at *
 generalize (vs.drop (i + 1))=C at *
 have e1:((A++x::C).flatten.map AV.val++sp)=(A.flatten.map AV.val)++((x.map AV.val)++(C.flatten.map AV.val++sp)):=by simp
 have hA:(A.flatten.map AV.val).length=i * sz:=by rw [List.length_map];exact hal
 rw [e1,<-hA,Nat.add_assoc,List.take_length_add_append,List.drop_length_add_append,List.take_append_of_le_length (by rw [List.length_map];omega),List.drop_append_of_le_length (by rw [List.length_map];omega)]
 simp
theorem ck.set {α:Type} {E:World->List Value->α->Prop} {w:World}:∀ {es:List α} {vs:List (List Value)} {i:Nat} {a:α} {cs:List Value},ck E w es vs->E w cs a->ck E w (es.set i a) (vs.set i cs)
 | _,_,i,_,_,.nil,_=>.nil
 | _,_,0,_,_,.cons _ h2,h=>.cons h h2
 | _,_,i + 1,_,_,.cons h1 h2,h=>.cons h1 (ck.set h2 h)
theorem ek {l:List aL} {i:Nat} {r:aL} {f:aL->aL} (h:l[i]? =some r):l.modify i f=l.set i (f r):=by
 apply List.ext_getElem?
 intro j
 by_cases e:i=j
 ·subst e
  rw [BJ rfl,List.getElem?_set,if_pos rfl,if_pos (List.getElem?_eq_some_iff.1 h).1,h];rfl
 ·rw [vC e,List.getElem?_set,if_neg e]
def SlE {α:Type} (E:World->List Value->α->Prop) (sz:Nat) (t:TypeId) (w:World) (b:Nat) (v:Value) (es:List α):Prop:=
 ∃ off n c pre vs spare,v=.slice (some ⟨b,off,none⟩) n c/\aZ w b t (pre++(vs.flatten++spare)).toArray/\dL E sz w n off c pre vs spare es
def SlZ {α:Type} (E:World->List Value->α->Prop) (sz:Nat) (t:TypeId) (w:World) (b:Nat) (v:Value) (es:List α):Prop:=
 ∃ n c vs spare,v=.slice (some ⟨b,0,none⟩) n c/\aZ w b t (vs.flatten++spare).toArray/\dL E sz w n 0 c [] vs spare es
def qk (B:Nat) (w:World) (g:Nat) (ad:List Nat) (s:Jw):Prop:=(∀ b∈ad,B≤b)/\∃ v r u,aZ w g Runner #[v,r,u]/\
 ((ad=[g]/\v=.slice none 0 0/\r=.slice none 0 0/\u=.slice none 0 0/\s.q=[]/\s.rows=[]/\s.uses=[])\/
  (∃ rb,ad=[g,rb]/\v=.slice none 0 0/\u=.slice none 0 0/\s.q=[]/\s.uses=[]/\SlZ (eB B) 28 eh w rb r s.rows)\/
  (∃ vb rb,ad=[g,vb,rb]/\u=.slice none 0 0/\s.uses=[]/\SlE (dz B) 5 dD w vb v s.q/\SlZ (eB B) 28 eh w rb r s.rows)\/
  (∃ vb rb ub,ad=[g,vb,rb,ub]/\SlE (dz B) 5 dD w vb v s.q/\SlZ (eB B) 28 eh w rb r s.rows/\SlZ (qw B) 6 fm w ub u s.uses))
def LD (w:World) (v:Value) (S F:Rat) (keep:Int) (ks:Nat):Prop:=∃ s p n c t y m d s' p' n' c' t' y' m' d',v=.agg #[.bool s,.slice p n c,.bool t,.slice y m d,.bool s',.slice p' n' c',.bool t',.slice y' m' d',.int .i64 keep]/\
 bA w (.agg #[.bool s,.slice p n c,.bool t,.slice y m d]) S ks/\bA w (.agg #[.bool s',.slice p' n' c',.bool t',.slice y' m' d']) F ks
def YrV (w:World) (v:Value) (e:Rat×Rat) (ks:Nat):Prop:=∃ s p n c t y m d s' p' n' c' t' y' m' d',v=.agg #[.bool s,.slice p n c,.bool t,.slice y m d,.bool s',.slice p' n' c',.bool t',.slice y' m' d']/\
 bA w (.agg #[.bool s,.slice p n c,.bool t,.slice y m d]) e.1 ks/\bA w (.agg #[.bool s',.slice p' n' c',.bool t',.slice y' m' d']) e.2 ks
theorem bA.up {w:World} {v:Value} {q:Rat} {j k:Nat} (h:bA w v q j) (hk:j≤k):bA w v q k:=by
 obtain ⟨s,xs,t,ys,h1,h2,h3,h4⟩:=h
 exact ⟨s,xs,t,ys,h1,h2,Nat.le_trans h3 hk,Nat.le_trans h4 hk⟩
set_option maxRecDepth 4000 in
theorem pW (v u:Value) (S F:Rat) (keep:Int) (e:Rat×Rat) (ks:Nat) (w:World) (hv:LD w v S F keep ks) (hu:YrV w u e ks) (DR:1≤ks) (hk:ks≤100000):
  Calls Tryz.prog 70 #[v,u] w fun o w'=>∃ x,o=.returned x/\aH w' w.heap.size x (aw S F e.2)/\aM w w':=by
 obtain ⟨sS,pS,nS,cS,tS,yS,mS,dS,sF,pF,nF,cF,tF,yF,mF,dF,rfl,hS,hF⟩:=hv
 obtain ⟨sN,pN,nN,cN,tN,yN,mN,dN,sE,pE,nE,cE,tE,yE,mE,dE,rfl,hN,hE⟩:=hu
 refine ah (C:=bS Tryz.prog w _) (args:=[_,_]) Tryz.func70 rfl Tryz.ntmps70 (bB rfl) ?_
 refine ab ?_
 refine VO.call rfl rfl (fk Tryz.func105) (fun bF cU bJ=>(Ls _ _ S e.2 ks ks bF (hS.k) (hE.k) aa aa).mono ?_)
 rintro e w1 ⟨r1,rfl,q1,aK⟩
 obtain ⟨s1,p1,n1,c1,t1,y1,m1,d1,rfl⟩:=q1.form
 refine ⟨_,rfl,aK,fun dC _ bb1=>wV rfl ?_⟩
 refine ab ?_
 have z1:=(hS.sz DR).mul (hE.sz DR)
 refine VO.call rfl rfl (fk Tryz.func44) (fun cK eg di=>(cd 0 cK aa aa).mono ?_)
 rintro e w2 ⟨r2,rfl,q2,ba⟩
 obtain ⟨s2,p2,n2,c2,t2,y2,m2,d2,rfl⟩:=q2.form
 refine ⟨_,rfl,ba,fun ed _ bb2=>wV rfl ?_⟩
 refine ab ?_
 refine VO.eK rfl (fk Tryz.func104) (fun fh β fE fG ho=>((Lt _ _ F [S * e.2,0] (ks + ks) fh ((hF.k).up aa) (cX (ho.own 13 (.base (List.mem_singleton.2 rfl)) _ _ rfl) [] (vs:=[[.bool s1,.slice p1 n1 c1,.bool t1,.slice y1 m1 d1],[.bool s2,.slice p2 n2 c2,.bool t2,.slice y2 m2 d2]]) (by rfl) rfl (bq.cons (q1.ki z1) (bq.cons (q2.ki (eM.zero.mono (show 1≤ks + ks by omega))) bq.nil)) (bB rfl) bV) aa (bB rfl)).mono (fun o w2 h=>And.intro h fG.size)).mono ?_)
 rintro o w3 ⟨⟨r3,rfl,q3,z3,cG⟩,CV⟩
 obtain ⟨s3,p3,n3,c3,t3,y3,m3,d3,rfl⟩:=q3.form
 refine ⟨_,rfl,cG,fun gT _ bb3=>wV rfl ?_⟩
 refine ab ?_
 refine aY ?_;intro wz kz bz
 exact ⟨_,rfl,(q3.mono CV).k,bz⟩
set_option maxRecDepth 4000
theorem gn {B N i g:Nat} {ad:List Nat} {w:World} (hB:B≤w.heap.size) (had:∀ b∈ad,B≤b) (h:dm N ad w i g):B≤g:=by
 rcases fX h with h | h
 ·omega
 ·exact had g h
theorem mG {vs:List (List Value)} {sz i o:Nat} {x new:List Value} {sp:List AV} (h:∀ x∈vs,x.length=sz) (hi:vs[i]? =some x) (ho:o + new.length≤sz):
  (vs.flatten.map AV.val++sp).take (0 + ((i:Nat):Int).toNat * sz + o)++(new.map AV.val++(vs.flatten.map AV.val++sp).drop (0 + ((i:Nat):Int).toNat * sz + o + new.length))=(vs.set i (x.take o++(new++x.drop (o + new.length)))).flatten.map AV.val++sp:=by
 rw [Int.toNat_natCast,Nat.zero_add]
 exact En h hi ho
theorem rL {B:Nat} {w:World} {cs new:List Value} {r:aL} {x:Rat} (h:eB B w cs r) (hx:R4 B w new x):eB B w (cs.take 20++(new++cs.drop (20 + new.length))) { r with aq:=x }:=by
 obtain ⟨a,b,c,d,e,f,g,rfl,h1,h2,h3,h4,h5,h6,h7⟩:=h
 refine ⟨a,b,c,d,e,new,g,?_,h1,h2,h3,h4,h5,hx,h7⟩
 have l1:=h1.len
 have l2:=h2.len
 have l3:=h3.len
 have l4:=h4.len
 have l5:=h5.len
 have l6:=h6.len
 rw [hx.len]
 have e1:a++(b++(c++(d++(e++(f++g)))))=(a++b++c++d++e)++(f++g):=by simp
 have e2:(a++b++c++d++e).length=20:=by simp [l1,l2,l3,l4,l5]
 have e3:a++(b++(c++(d++(e++(f++g)))))=(a++b++c++d++e++f)++g:=by simp
 have e4:(a++b++c++d++e++f).length=24:=by simp [l1,l2,l3,l4,l5,l6]
 have t1:(a++(b++(c++(d++(e++(f++g)))))).take 20=a++b++c++d++e:=by rw [e1,<-e2,List.take_left'];rfl
 have t2:(a++(b++(c++(d++(e++(f++g)))))).drop 24=g:=by rw [e3,<-e4,List.drop_left'];rfl
 rw [t1,t2]
 simp
theorem vH {cs new:List Value} (h:cs.length=28) (hn:new.length=4):(cs.take 20++(new++cs.drop (20 + new.length))).length=28:=by
 rw [List.length_append,List.length_append,List.length_take,List.length_drop,h,hn];rfl
theorem mH {vs:List (List Value)} {sz i:Nat} {x:List Value} (h:∀ y∈vs,y.length=sz) (hx:x.length=sz):∀ y∈vs.set i x,y.length=sz:=fun y hy=>by
 rcases List.mem_or_eq_of_mem_set hy with e | e
 ·exact h y e
 ·rw [e];exact hx
set_option maxRecDepth 4000 in
theorem iYear_A {B g keep D kk ks:Nat} {M S F:Rat} {e:Rat×Rat} {q:List Vq} {rows:List aL} {uses:List Uq} {v u:Value} {w:World} (hg:aZ w g Runner #[.slice none 0 0,.slice none 0 0,.slice none 0 0])
  (yv:LD w v S F keep ks) (Qo:YrV w u e ks) (vI:1≤ks) (CW:ks≤kk) (Ee:kk≤100000) (Eo:Iz D (aw S F e.2)) (tY:aw S F e.2≤M) (Qp:Iz D e.1) (iV: -M≤e.1) (GI:e.1≤M) (hK:∀ x,Iz D x->-(M + M)≤x->x≤M + M->eM x kk)
  (Ad:BU D M ⟨[],[],[]⟩) (xW:([]:List aL).length≤64) (sZ:keep≤40) (hB:B≤w.heap.size) (eT:∀ b∈[g],B≤b):
  Calls Tryz.prog 39 #[.pointer (some ⟨g,0,none⟩),v,.int .i64 (([]:List aL).length:Int),u] w fun o w'=>o=.returned (iX [])/\tB [g] w w'/\∃ SR,qk B w' g SR (eb S F keep ([]:List aL).length ⟨[],[],[]⟩ e):=by
 have hL0:=lN S F e.2
 have hM0:0≤M:=by grind
 obtain ⟨g1,g2,g3,g4,g5,g6,g7,g8,g9⟩:=np Eo hL0 tY Qp iV GI
 have xX:B≤g:=eT g cA
 have hlen:=Ad.len
 obtain ⟨sS,pS,nS,cS,tS,yS,mS,dS,sF,pF,nF,cF,tF,yF,mF,dF,rfl,hS,hF⟩:=yv
 obtain ⟨sN,pN,nN,cN,tN,yN,mN,dN,sE,pE,nE,cE,tE,yE,mE,dE,rfl,hN,hE⟩:=Qo
 have sG:jZ (KU UU) 99 [g] [(Runner,[.val (.slice none 0 0),.val (.slice none 0 0),.val (.slice none 0 0)])] w:=by
  refine ⟨rfl,by simp,fun j g' c' hj hc=> ?_,fun c' hc=> ?_,fun c' hc k hk=> ?_⟩
  ·match j,hj,hc with
   | 0,hj,hc=>cases hj;cases hc;exact hg
   | j + 1,hj,_=>simp at hj
  ·simp only [List.mem_cons,List.not_mem_nil,or_false] at hc
   subst hc
   exact ⟨rfl,rfl⟩
  ·simp only [List.mem_cons,List.not_mem_nil,or_false] at hc
   subst hc
   cases hk
 refine fi Tryz.prog w _ (KU UU) (fun t=>Nat.beq t 22) table (fun _ _=>trivial) (ad:=[g]) (us:=[_,_,_]) Tryz.func39 rfl Tryz.ntmps39 (bB rfl) sG (bB rfl) ?_
 refine af ?_
 refine VO.call rfl rfl (fk Tryz.func70) (fun bF cU bJ=>((pW _ _ S F keep e ks bF ⟨_,_,_,_,_,_,_,_,_,_,_,_,_,_,_,_,rfl,hS.k,hF.k⟩ ⟨_,_,_,_,_,_,_,_,_,_,_,_,_,_,_,_,rfl,hN.k,hE.k⟩ vI aa).mono (fun o w2 h=>And.intro h bJ.1.size)).mono ?_)
 rintro o w1 ⟨⟨r1,rfl,q1,aK⟩,LG⟩
 obtain ⟨s1,p1,n1,c1,t1,y1,m1,d1,rfl⟩:=q1.form
 refine ⟨_,rfl,aK,fun dC _ bb1=>wV rfl ?_⟩
 replace q1:=q1.mono (Nat.le_trans hB LG)
 refine af ?_
 refine VO.call rfl rfl (fk Tryz.func44) (fun cK eg di=>((cd 0 cK aa aa).mono (fun o w2 h=>And.intro h di.1.size)).mono ?_)
 rintro o w2 ⟨⟨r2,rfl,q2,ba⟩,tW⟩
 obtain ⟨s2,p2,n2,c2,t2,y2,m2,d2,rfl⟩:=q2.form
 refine ⟨_,rfl,ba,fun ed _ bb2=>wV rfl ?_⟩
 replace q2:=q2.mono (Nat.le_trans hB tW)
 refine af ?_
 refine VO.call rfl rfl (fk Tryz.func44) (fun fh fE fG=>((cd 0 fh aa aa).mono (fun o w2 h=>And.intro h fG.1.size)).mono ?_)
 rintro o w3 ⟨⟨r3,rfl,q3,cG⟩,CV⟩
 obtain ⟨s3,p3,n3,c3,t3,y3,m3,d3,rfl⟩:=q3.form
 refine ⟨_,rfl,cG,fun gT _ bb3=>wV rfl ?_⟩
 replace q3:=q3.mono (Nat.le_trans hB CV)
 refine af ?_
 refine VO.eK rfl (fk Tryz.func71) (fun iP β jT jX ho=>((gV _ _ e.1 [aw S F e.2] kk iP ((hN.k).up aa) (cX (ho.own 20 (.base (List.mem_singleton.2 rfl)) _ _ rfl) [] (vs:=[[.bool s1,.slice p1 n1 c1,.bool t1,.slice y1 m1 d1]]) (by rfl) rfl (bq.cons (q1.ki (hK _ Eo dt dt)) bq.nil) (bB rfl) bV) aa (bB rfl)).mono (fun o w2 h=>And.intro h jX.1.size)).mono ?_)
 rintro o w4 ⟨⟨r4,rfl,q4,z4,eV⟩,LH⟩
 rw [eF] at q4
 obtain ⟨s4,p4,n4,c4,t4,y4,m4,d4,rfl⟩:=q4.form
 refine ⟨_,rfl,eV,fun lh _ sT=>wV rfl ?_⟩
 replace q4:=q4.mono (Nat.le_trans hB LH)
 refine af ?_
 refine VO.call rfl rfl (fk Tryz.func72) (fun gf jl gD=>((cZ _ _ e.1 (ae e.1 (aw S F e.2)) kk kk gf ((hN.k).up aa) (q4.ki (hK _ g1 dt dt)) aa aa).mono (fun o w2 h=>And.intro h gD.1.size)).mono ?_)
 rintro o w5 ⟨⟨r5,rfl,q5,eE⟩,pV⟩
 obtain ⟨s5,p5,n5,c5,t5,y5,m5,d5,rfl⟩:=q5.form
 refine ⟨_,rfl,eE,fun jy _ qi=>wV rfl ?_⟩
 replace q5:=q5.mono (Nat.le_trans hB pV)
 refine af ?_
 refine VO.call rfl rfl (fk Tryz.func72) (fun gj kx iz=>((cZ _ _ (aw S F e.2) (ae e.1 (aw S F e.2)) kk kk gj (q1.ki (hK _ Eo dt dt)) (q4.ki (hK _ g1 dt dt)) aa aa).mono (fun o w2 h=>And.intro h iz.1.size)).mono ?_)
 rintro o w6 ⟨⟨r6,rfl,q6,fx⟩,LI⟩
 obtain ⟨s6,p6,n6,c6,t6,y6,m6,d6,rfl⟩:=q6.form
 refine ⟨_,rfl,fx,fun jz _ oX=>wV rfl ?_⟩
 replace q6:=q6.mono (Nat.le_trans hB LI)
 refine af ?_
 have oN:eb S F keep ([]:List aL).length ⟨[],[],[]⟩ e=vB keep ([]:List aL).length ⟨mP ([]:List aL).length (e.1 - ae e.1 (aw S F e.2)) (nd [] (aw S F e.2 - ae e.1 (aw S F e.2))),[]++[ey S F [] e],[]++qI ([]:List aL).length [] (aw S F e.2 - ae e.1 (aw S F e.2))⟩:=rfl
 refine VO.vG (B:=B) (mm:=aw S F e.2 - ae e.1 (aw S F e.2)) kk rfl rfl (fk Tryz.func73) rfl (fun sR LJ Nm=>q6.kr) hB (fun w7 r7 k7 b7 q7=> ?_)
 obtain ⟨s7,p7,n7,c7,t7,y7,m7,d7,rfl⟩:=q7.form
 refine wV rfl ?_
 refine af ?_
 have CX:([]:List Uq)++qI ([]:List aL).length [] (aw S F e.2 - ae e.1 (aw S F e.2))=[]:=rfl
 obtain ⟨u1,u2,u3⟩:=xh (q:=[]) (m:=aw S F e.2 - ae e.1 (aw S F e.2)) (fun p hp=>(by cases hp)) g7 g8
 refine VO.call rfl rfl (fk Tryz.func16) (fun sB CP vo=>((fZ _ _ (ae e.1 (aw S F e.2)) ((0:Rat)) kk kk sB (q4.ki (hK _ g1 dt dt)) (q7.ki (hK _ u1 dt dt)) aa aa).mono (fun o w2 h=>And.intro h vo.1.size)).mono ?_)
 rintro o w8 ⟨⟨r8,rfl,q8,qe⟩,CY⟩
 obtain ⟨s8,p8,n8,c8,t8,y8,m8,d8,rfl⟩:=q8.form
 refine ⟨_,rfl,qe,fun sC _ Kk=>wV rfl ?_⟩
 replace q8:=q8.mono (Nat.le_trans hB CY)
 refine af ?_
 have Sr:((0:Int):Rat)=0:=rfl
 have FK:eB B w8 [.bool s1,.slice p1 n1 c1,.bool t1,.slice y1 m1 d1,.bool s4,.slice p4 n4 c4,.bool t4,.slice y4 m4 d4,.bool s5,.slice p5 n5 c5,.bool t5,.slice y5 m5 d5,.bool s7,.slice p7 n7 c7,.bool t7,.slice y7 m7 d7,.bool s8,.slice p8 n8 c8,.bool t8,.slice y8 m8 d8,.bool s2,.slice p2 n2 c2,.bool t2,.slice y2 m2 d2,.bool s3,.slice p3 n3 c3,.bool t3,.slice y3 m3 d3] (ey S F [] e):=⟨[.bool s1,.slice p1 n1 c1,.bool t1,.slice y1 m1 d1],[.bool s4,.slice p4 n4 c4,.bool t4,.slice y4 m4 d4],[.bool s5,.slice p5 n5 c5,.bool t5,.slice y5 m5 d5],[.bool s7,.slice p7 n7 c7,.bool t7,.slice y7 m7 d7],[.bool s8,.slice p8 n8 c8,.bool t8,.slice y8 m8 d8],[.bool s2,.slice p2 n2 c2,.bool t2,.slice y2 m2 d2],[.bool s3,.slice p3 n3 c3,.bool t3,.slice y3 m3 d3],rfl,⟨_,_,_,_,_,_,_,_,rfl,q1.k⟩,⟨_,_,_,_,_,_,_,_,rfl,q4.k⟩,⟨_,_,_,_,_,_,_,_,rfl,q5.k⟩,⟨_,_,_,_,_,_,_,_,rfl,q7.k⟩,⟨_,_,_,_,_,_,_,_,rfl,q8.k⟩,⟨_,_,_,_,_,_,_,_,rfl,q2.k⟩,⟨_,_,_,_,_,_,_,_,rfl,q3.k⟩⟩
 refine VO.app (bE _ _) (t:=33) (e:=eh) (sz:=28) (n:=0) (c:=0) (mm:=1) (known:=[]) (spare:=[]) (del:=none) (news:=([.bool s1,.slice p1 n1 c1,.bool t1,.slice y1 m1 d1,.bool s4,.slice p4 n4 c4,.bool t4,.slice y4 m4 d4,.bool s5,.slice p5 n5 c5,.bool t5,.slice y5 m5 d5,.bool s7,.slice p7 n7 c7,.bool t7,.slice y7 m7 d7,.bool s8,.slice p8 n8 c8,.bool t8,.slice y8 m8 d8,.bool s2,.slice p2 n2 c2,.bool t2,.slice y2 m2 d2,.bool s3,.slice p3 n3 c3,.bool t3,.slice y3 m3 d3]:List Value).map .val) (dst:=52) rfl rfl rfl rfl rfl rfl rfl rfl (bB rfl) rfl (.inl ⟨rfl,rfl,rfl,rfl,rfl,rfl,by omega⟩) (.inl rfl) rfl rfl (Nat.le_refl _) aa ⟨rfl,rfl,rfl⟩ ⟨rfl,rfl,rfl⟩ rfl aa
  (fun w1 β k1 b1 ho=>⟨_,_,rfl,.inr ⟨β 51,0,rfl,de (rest:=[]) (ho.own 51 (.base (List.mem_append_right _ (List.mem_singleton.2 rfl))) _ _ rfl) rfl⟩⟩)
  (fun rB iD oc ρ Ni Nj fF iI iQ ez FL jR=>wV rfl ?_)
 (repeat (first | refine wN ?_ | refine wP rfl ?_ | refine DY rfl ?_ | refine wO rfl rfl ?_))
 obtain ⟨qK,vJ⟩:∃ qK,qK=0 + 1:=⟨_,rfl⟩
 obtain ⟨tZ,vK⟩:∃ tZ,tZ=([[.bool s1,.slice p1 n1 c1,.bool t1,.slice y1 m1 d1,.bool s4,.slice p4 n4 c4,.bool t4,.slice y4 m4 d4,.bool s5,.slice p5 n5 c5,.bool t5,.slice y5 m5 d5,.bool s7,.slice p7 n7 c7,.bool t7,.slice y7 m7 d7,.bool s8,.slice p8 n8 c8,.bool t8,.slice y8 m8 d8,.bool s2,.slice p2 n2 c2,.bool t2,.slice y2 m2 d2,.bool s3,.slice p3 n3 c3,.bool t3,.slice y3 m3 d3]]:List (List Value)):=⟨_,rfl⟩
 have fH:qy (eB B) 28 rB qK iD tZ oc ([]++[ey S F [] e]):=by rw [vJ,vK];exact ⟨rfl,.cons ((aA B).kp FK aR) .nil,FL,jR,iI,iQ,by simpa using ez⟩
 refine VS.narrow [(0,.box 198 0),(2,.val (.int .i64 (([]:List aL).length:Int))),(5,.box 5 0),(8,.box 8 0)] [(198,(Runner,[.val (.slice none 0 0),.row 52 0 qK iD,.val (.slice none 0 0)])),(52,(eh,tZ.flatten.map AV.val++oc)),(5,(28,([.bool sS,.slice pS nS cS,.bool tS,.slice yS mS dS,.bool sF,.slice pF nF cF,.bool tF,.slice yF mF dF,.int .i64 (keep:Int)]:List Value).map AV.val)),(8,(eh,([.bool s1,.slice p1 n1 c1,.bool t1,.slice y1 m1 d1,.bool s4,.slice p4 n4 c4,.bool t4,.slice y4 m4 d4,.bool s5,.slice p5 n5 c5,.bool t5,.slice y5 m5 d5,.bool s7,.slice p7 n7 c7,.bool t7,.slice y7 m7 d7,.bool s8,.slice p8 n8 c8,.bool t8,.slice y8 m8 d8,.bool s2,.slice p2 n2 c2,.bool t2,.slice y2 m2 d2,.bool s3,.slice p3 n3 c3,.bool t3,.slice y3 m3 d3]:List Value).map AV.val))] ⟨rfl,rfl,rfl,rfl,trivial⟩ ⟨by rw [vJ];rfl,by rw [vK];rfl,rfl,rfl,trivial⟩ rfl ⟨.lit rfl,.append (.vals _) (.none jR),.vals _,.vals _,trivial⟩ ?_
 refine VS.draw (bE _ _) (lV _ _) [74] (by kernel_rfl) (VO.run 80 rfl ?_)
 refine VO.Jz (B:=B) (d2:=62) (d:=e.1 - ae e.1 (aw S F e.2)) kk rfl rfl rfl (fk Tryz.func74) rfl rfl (by show 62 < 2 * 99;omega) (fun j hj=> ?_) (bB rfl) (fun sR LJ Nm=>q5.kr) (hK _ g4 dt dt) Ee hB (fun CZ k19 b19 Ms=>wV rfl ?_) (fun CZ qG Nn Np k19 b19 Ms gL=>wV rfl ?_)
 ·have:j=52:=by simpa [ax,AV.cQ] using hj
  subst this;intro h;cases h
 ·have zF:mP ([]:List aL).length (e.1 - ae e.1 (aw S F e.2)) (nd [] (aw S F e.2 - ae e.1 (aw S F e.2)))=[]:=if_neg Ms
  refine af ?_
  refine VO.dT (x:=.val (.slice none 0 0)) (p:=fun _=>none) (c:=0) rfl (fun β=>.inr ⟨none,rfl⟩) rfl (fk Tryz.func75) rfl (fun Km SS SV=>wV rfl ?_)
  refine af ?_
  have sH:eb S F keep ([]:List aL).length ⟨[],[],[]⟩ e=⟨[],[]++[ey S F [] e],[]⟩:=by rw [oN,zF,CX];rfl
  refine af ?_
  refine VS.mO (bE _ _) rfl (fun wz β kz oz en=> ?_)
  obtain ⟨o1,o2⟩:=fj (en.own 198 _ _ rfl) 0 g rfl rfl
  have oR:=(en.own 52 _ _ rfl).cls
  rw [List.map_append,ag] at oR
  have nR:=gn hB eT (show dm 99 [g] w 52 (β 52) from (en.own 52 _ _ rfl).new)
  rw [sH]
  refine ⟨rfl,oz.1,[g,β 52],⟨fun b hb=> ?_,_,_,_,o2,?_⟩⟩
  ·simp only [List.mem_cons,List.not_mem_nil,or_false] at hb
   rcases hb with rfl | rfl
   ·exact xX
   ·exact nR
  ·exact .inr (.inl ⟨β 52,rfl,rfl,rfl,rfl,rfl,⟨_,_,_,_,rfl,oR,(fH.kp (aA B) aR).o β⟩⟩)
 ·obtain ⟨q2,vL⟩:∃ q2:List Vq,q2=[(([]:List aL).length,e.1 - ae e.1 (aw S F e.2))]:=⟨_,rfl⟩
  rw [<-vL] at gL
  have zF:mP ([]:List aL).length (e.1 - ae e.1 (aw S F e.2)) (nd [] (aw S F e.2 - ae e.1 (aw S F e.2)))=q2:=by rw [vL];exact if_pos Ms
  obtain ⟨nz,SW⟩:∃ nz,nz=1:=⟨_,rfl⟩
  obtain ⟨gG,JC⟩:∃ gG,gG=0:=⟨_,rfl⟩
  obtain ⟨mQ,JD⟩:∃ mQ:List Value,mQ=[]:=⟨_,rfl⟩
  have gL:dL (dz B) 5 CZ nz gG qG mQ Nn Np q2:=by rw [SW,JC,JD];exact gL
  refine VO.nil ?_
  refine VS.narrow [(0,.box 198 0),(2,.val (.int .i64 (([]:List aL).length:Int))),(5,.box 5 0),(8,.box 8 0)] [(198,(Runner,[.row 62 gG nz qG,.row 52 0 qK iD,.val (.slice none 0 0)])),(52,(eh,tZ.flatten.map AV.val++oc)),(5,(28,([.bool sS,.slice pS nS cS,.bool tS,.slice yS mS dS,.bool sF,.slice pF nF cF,.bool tF,.slice yF mF dF,.int .i64 (keep:Int)]:List Value).map AV.val)),(8,(eh,([.bool s1,.slice p1 n1 c1,.bool t1,.slice y1 m1 d1,.bool s4,.slice p4 n4 c4,.bool t4,.slice y4 m4 d4,.bool s5,.slice p5 n5 c5,.bool t5,.slice y5 m5 d5,.bool s7,.slice p7 n7 c7,.bool t7,.slice y7 m7 d7,.bool s8,.slice p8 n8 c8,.bool t8,.slice y8 m8 d8,.bool s2,.slice p2 n2 c2,.bool t2,.slice y2 m2 d2,.bool s3,.slice p3 n3 c3,.bool t3,.slice y3 m3 d3]:List Value).map AV.val)),(62,(dD,(mQ++(Nn.flatten++Np)).map AV.val))] ⟨rfl,rfl,rfl,rfl,trivial⟩ ⟨by rw [JC,SW];rfl,rfl,rfl,rfl,by rw [JD];rfl,trivial⟩ rfl ⟨.lit rfl,.append (.vals _) (.none jR),.vals _,.vals _,.vals _,trivial⟩ ?_
  refine af ?_
  by_cases nY:nz=0
  ·refine VO.dT (x:=.row 62 gG nz qG) (p:=fun _=>none) (c:=qG) rfl (fun β=>.inr ⟨_,congrArg (fun n=>Value.slice (some ⟨β 62,gG,none⟩) n qG) nY⟩) rfl (fk Tryz.func75) rfl (fun Km SS SV=>wV rfl ?_)
   refine af ?_
   have FM:q2=[]:=List.eq_nil_of_length_eq_zero (by rw [<-gL.len];exact nY)
   have sH:eb S F keep ([]:List aL).length ⟨[],[],[]⟩ e=⟨q2,[]++[ey S F [] e],[]⟩:=by rw [oN,zF,CX,FM];rfl
   refine af ?_
   refine VS.mO (bE _ _) rfl (fun wz β kz oz en=> ?_)
   obtain ⟨o1,o2⟩:=fj (en.own 198 _ _ rfl) 0 g rfl rfl
   have oR:=(en.own 52 _ _ rfl).cls
   rw [List.map_append,ag] at oR
   have nR:=gn hB eT (show dm 99 [g] w 52 (β 52) from (en.own 52 _ _ rfl).new)
   have oV:=(en.own 62 _ _ rfl).cls
   rw [ag] at oV
   have nV:=gn hB eT (show dm 99 [g] w 62 (β 62) from (en.own 62 _ _ rfl).new)
   rw [sH]
   refine ⟨rfl,oz.1,[g,β 62,β 52],⟨fun b hb=> ?_,_,_,_,o2,?_⟩⟩
   ·simp only [List.mem_cons,List.not_mem_nil,or_false] at hb
    rcases hb with rfl | rfl | rfl
    ·exact xX
    ·exact nV
    ·exact nR
   ·exact .inr (.inr (.inl ⟨β 62,β 52,rfl,rfl,rfl,⟨_,_,_,_,_,_,rfl,oV,gL.kp (aO B) aR⟩,⟨_,_,_,_,rfl,oR,(fH.kp (aA B) aR).o β⟩⟩))
  obtain ⟨pp,qt,zO⟩:∃ pp qt,q2=pp::qt:=by
   cases q2 with
   | nil=>exact absurd gL.len nY
   | cons pp qt=>exact ⟨pp,qt,rfl⟩
  subst zO
  obtain ⟨FN,Ae,rfl,hE4,vM⟩:∃ FN Ae,Nn=FN::Ae/\dz B CZ FN pp/\ck (dz B) CZ qt Ae:=by
   have:=gL.el
   cases this with
   | cons h1 h2=>exact ⟨_,_,rfl,h1,h2⟩
  obtain ⟨s9,p9,n9,c9,t9,y9,m9,d9,rfl,Ps⟩:=hE4
  have FO:=gL.le
  have FP:=gL.len
  have FQ:=gL.cm
  have lO:mQ.length=gG:=gL.pl.resolve_right aa
  refine VO.dA rfl rfl (fk Tryz.func75) rfl nY (by intro h;cases h) (fun Km SS SV=>wV rfl ?_)
  refine af ?_
  refine VO.cT rfl (([.int .i64 (pp.1:Int)]:List Value).map .val) rfl (bD lO 0 _ ⟨_,rfl⟩) (wV rfl ?_)
  refine af ?_
  have Nq:IntKind.i64.wrap ((([]:List aL).length:Int) - (keep:Int))=(([]:List aL).length:Int) - (keep:Int):=IntWalk.i64_in _ aa
  by_cases hx:pp.1 + keep=([]:List aL).length
  ·refine VS.aP rfl (by rw [Nq,beq_iff_eq];omega) ?_
   refine af ?_
   refine VO.cT rfl (([.int .i64 (pp.1:Int)]:List Value).map .val) rfl (bD lO 0 _ ⟨_,rfl⟩) (wV rfl ?_)
   refine af ?_
   refine VO.cT rfl (([.bool s9,.slice p9 n9 c9,.bool t9,.slice y9 m9 d9]:List Value).map .val) rfl (bD lO 1 _ ⟨[],rfl⟩) (wV rfl ?_)
   refine af ?_
   have gp:=fH.len
   have DT:pp.1 < qK:=by rw [gp,List.length_append,List.length_singleton];omega
   refine VO.cond rfl du (wV rfl ?_)
   obtain ⟨rq,Ep⟩:∃ rq,([]++[ey S F [] e])[pp.1]? =some rq:=⟨_,List.getElem?_eq_getElem (by rw [<-gp];exact DT)⟩
   obtain ⟨yw,qz,uw⟩:=fH.el.at pp.1 rq Ep
   have je:=fH.fl
   have Pt:=fH.le
   refine VO.cond rfl (by show 0 + ((pp.1:Int)).toNat * 28 + 20 + 4≤_;rw [je,Int.toNat_natCast];omega) (VO.dG 52 rfl (mG (new:=[.bool s9,.slice p9 n9 c9,.bool t9,.slice y9 m9 d9]) (o:=20) (fH.el.lens (aA B)) qz (bB rfl)) (wV rfl ?_))
   refine af ?_
   have hR3:qy (eB B) 28 Km qK iD (tZ.set pp.1 (yw.take 20++([.bool s9,.slice p9 n9 c9,.bool t9,.slice y9 m9 d9]++yw.drop (20 + ([.bool s9,.slice p9 n9 c9,.bool t9,.slice y9 m9 d9]:List Value).length)))) oc (([]++[ey S F [] e]).modify pp.1 (fun r=>{ r with aq:=pp.2 })):=
    ⟨by rw [List.length_modify];exact gp,by rw [ek Ep];exact (fH.el.kp (aA B) aR).set (rL ((aA B).kp uw aR) ⟨_,_,_,_,_,_,_,_,rfl,Ps.kp aR⟩),fH.so,fH.sl,fH.le,fH.cm,by
     rw [List.length_append,List.length_map,dB (mH (fH.el.lens (aA B)) (vH ((aA B).len uw) rfl)),List.length_set]
     rw [List.length_append,List.length_map,dB (fH.el.lens (aA B))] at je
     exact je⟩
   refine VO.jQ rfl rfl (fk Tryz.func76) rfl aa FO FQ (fun j hj=> ?_) (bB rfl) (fun Pu k21 b21=>wV rfl ?_)
   ·simp only [ax,AV.cQ,List.flatMap_cons,List.flatMap_nil,List.mem_append,List.mem_cons,List.not_mem_nil,or_false,List.append_nil] at hj
    rcases hj with rfl | rfl <;> (intro h;cases h)
   refine af ?_
   have hV4:dL (dz B) 5 Pu (nz - 1) (if qG=1 then gG else gG + 5) (qG - 1) (mQ++[.int .i64 (pp.1:Int),.bool s9,.slice p9 n9 c9,.bool t9,.slice y9 m9 d9]) Ae Np qt:=⟨by rw [FP];rfl,pT lO,by rw [List.all_append,gL.po];rfl,vM.kp (aO B) aR,gL.so,by omega,by omega,pU gL.fl⟩
   have sH:eb S F keep ([]:List aL).length ⟨[],[],[]⟩ e=⟨qt,([]++[ey S F [] e]).modify pp.1 (fun r=>{ r with aq:=pp.2 }),[]⟩:=by
    rw [oN,zF,CX]
    exact if_pos hx
   refine af ?_
   refine VS.mO (bE _ _) rfl (fun wz β kz oz en=> ?_)
   obtain ⟨o1,o2⟩:=fj (en.own 198 _ _ rfl) 0 g rfl rfl
   have oR:=(en.own 52 _ _ rfl).cls
   rw [List.map_append,ag] at oR
   have nR:=gn hB eT (show dm 99 [g] w 52 (β 52) from (en.own 52 _ _ rfl).new)
   have oV:=(en.own 62 _ _ rfl).cls
   rw [eG,ag] at oV
   have nV:=gn hB eT (show dm 99 [g] w 62 (β 62) from (en.own 62 _ _ rfl).new)
   rw [sH]
   refine ⟨rfl,oz.1,[g,β 62,β 52],⟨fun b hb=> ?_,_,_,_,o2,?_⟩⟩
   ·simp only [List.mem_cons,List.not_mem_nil,or_false] at hb
    rcases hb with rfl | rfl | rfl
    ·exact xX
    ·exact nV
    ·exact nR
   ·exact .inr (.inr (.inl ⟨β 62,β 52,rfl,rfl,rfl,⟨_,_,_,_,_,_,rfl,oV,hV4.kp (aO B) aR⟩,⟨_,_,_,_,rfl,oR,(hR3.kp (aA B) aR).o β⟩⟩))
  ·refine VS.aQ rfl (by rw [Nq,beq_eq_false_iff_ne];omega) ?_
   have sH:eb S F keep ([]:List aL).length ⟨[],[],[]⟩ e=⟨pp::qt,[]++[ey S F [] e],[]⟩:=by
    rw [oN,zF,CX]
    exact if_neg hx
   refine af ?_
   refine VS.mO (bE _ _) rfl (fun wz β kz oz en=> ?_)
   obtain ⟨o1,o2⟩:=fj (en.own 198 _ _ rfl) 0 g rfl rfl
   have oR:=(en.own 52 _ _ rfl).cls
   rw [List.map_append,ag] at oR
   have nR:=gn hB eT (show dm 99 [g] w 52 (β 52) from (en.own 52 _ _ rfl).new)
   have oV:=(en.own 62 _ _ rfl).cls
   rw [ag] at oV
   have nV:=gn hB eT (show dm 99 [g] w 62 (β 62) from (en.own 62 _ _ rfl).new)
   rw [sH]
   refine ⟨rfl,oz.1,[g,β 62,β 52],⟨fun b hb=> ?_,_,_,_,o2,?_⟩⟩
   ·simp only [List.mem_cons,List.not_mem_nil,or_false] at hb
    rcases hb with rfl | rfl | rfl
    ·exact xX
    ·exact nV
    ·exact nR
   ·exact .inr (.inr (.inl ⟨β 62,β 52,rfl,rfl,rfl,⟨_,_,_,_,_,_,rfl,oV,gL.kp (aO B) aR⟩,⟨_,_,_,_,rfl,oR,(fH.kp (aA B) aR).o β⟩⟩))
set_option maxRecDepth 4000
set_option maxRecDepth 4000 in
theorem iYear_B {B g keep D kk ks:Nat} {M S F:Rat} {e:Rat×Rat} {rb nr cr:Nat} {kG:List (List Value)} {nt:List Value} {q:List Vq} {rows:List aL} {uses:List Uq} {v u:Value} {w:World} (hg:aZ w g Runner #[.slice none 0 0,.slice (some ⟨rb,0,none⟩) nr cr,.slice none 0 0]) (Er:aZ w rb eh (kG.flatten++nt).toArray) (hR:dL (eB B) 28 w nr 0 cr [] kG nt rows)
  (yv:LD w v S F keep ks) (Qo:YrV w u e ks) (vI:1≤ks) (CW:ks≤kk) (Ee:kk≤100000) (Eo:Iz D (aw S F e.2)) (tY:aw S F e.2≤M) (Qp:Iz D e.1) (iV: -M≤e.1) (GI:e.1≤M) (hK:∀ x,Iz D x->-(M + M)≤x->x≤M + M->eM x kk)
  (Ad:BU D M ⟨[],rows,[]⟩) (xW:(rows:List aL).length≤64) (sZ:keep≤40) (hB:B≤w.heap.size) (eT:∀ b∈[g,rb],B≤b):
  Calls Tryz.prog 39 #[.pointer (some ⟨g,0,none⟩),v,.int .i64 ((rows:List aL).length:Int),u] w fun o w'=>o=.returned (iX [])/\tB [g,rb] w w'/\∃ SR,qk B w' g SR (eb S F keep (rows:List aL).length ⟨[],rows,[]⟩ e):=by
 have hL0:=lN S F e.2
 have hM0:0≤M:=by grind
 obtain ⟨g1,g2,g3,g4,g5,g6,g7,g8,g9⟩:=np Eo hL0 tY Qp iV GI
 have xX:B≤g:=eT g cA
 have hlen:=Ad.len
 obtain ⟨sS,pS,nS,cS,tS,yS,mS,dS,sF,pF,nF,cF,tF,yF,mF,dF,rfl,hS,hF⟩:=yv
 obtain ⟨sN,pN,nN,cN,tN,yN,mN,dN,sE,pE,nE,cE,tE,yE,mE,dE,rfl,hN,hE⟩:=Qo
 have sG:jZ (KU UU) 99 [g,rb] [(Runner,[.val (.slice none 0 0),.row 199 0 nr cr,.val (.slice none 0 0)]),(eh,(kG.flatten++nt).map .val)] w:=by
  have Pv:g≠rb:=fun e=>by subst e;exact absurd (bM hg Er) bV
  refine ⟨rfl,by simp [Pv],fun j g' c' hj hc=> ?_,fun c' hc=> ?_,fun c' hc k hk=> ?_⟩
  ·match j,hj,hc with
   | 0,hj,hc=>cases hj;cases hc;exact hg
   | 1,hj,hc=>cases hj;cases hc;rw [ag];exact Er
   | j + 2,hj,_=>simp at hj
  ·simp only [List.mem_cons,List.not_mem_nil,or_false] at hc
   rcases hc with rfl | rfl
   ·exact ⟨rfl,rfl⟩
   ·exact ⟨rfl,bg (hR.all (aA B))⟩
  ·simp only [List.mem_cons,List.not_mem_nil,or_false] at hc
   rcases hc with rfl | rfl
   ·have:k=199:=by simpa [ax,AV.cQ] using hk
    subst this;exact ⟨by omega,by show 199 < 2 * 99 + 2;omega⟩
   ·rw [ai] at hk;cases hk
 refine fi Tryz.prog w _ (KU UU) (fun t=>Nat.beq t 22) table (fun _ _=>trivial) (ad:=[g,rb]) (us:=[_,_,_]) Tryz.func39 rfl Tryz.ntmps39 (bB rfl) sG (bB rfl) ?_
 refine af ?_
 refine VO.call rfl rfl (fk Tryz.func70) (fun bF cU bJ=>((pW _ _ S F keep e ks bF ⟨_,_,_,_,_,_,_,_,_,_,_,_,_,_,_,_,rfl,hS.k,hF.k⟩ ⟨_,_,_,_,_,_,_,_,_,_,_,_,_,_,_,_,rfl,hN.k,hE.k⟩ vI aa).mono (fun o w2 h=>And.intro h bJ.1.size)).mono ?_)
 rintro o w1 ⟨⟨r1,rfl,q1,aK⟩,LG⟩
 obtain ⟨s1,p1,n1,c1,t1,y1,m1,d1,rfl⟩:=q1.form
 refine ⟨_,rfl,aK,fun dC _ bb1=>wV rfl ?_⟩
 replace q1:=q1.mono (Nat.le_trans hB LG)
 refine af ?_
 refine VO.call rfl rfl (fk Tryz.func44) (fun cK eg di=>((cd 0 cK aa aa).mono (fun o w2 h=>And.intro h di.1.size)).mono ?_)
 rintro o w2 ⟨⟨r2,rfl,q2,ba⟩,tW⟩
 obtain ⟨s2,p2,n2,c2,t2,y2,m2,d2,rfl⟩:=q2.form
 refine ⟨_,rfl,ba,fun ed _ bb2=>wV rfl ?_⟩
 replace q2:=q2.mono (Nat.le_trans hB tW)
 refine af ?_
 refine VO.call rfl rfl (fk Tryz.func44) (fun fh fE fG=>((cd 0 fh aa aa).mono (fun o w2 h=>And.intro h fG.1.size)).mono ?_)
 rintro o w3 ⟨⟨r3,rfl,q3,cG⟩,CV⟩
 obtain ⟨s3,p3,n3,c3,t3,y3,m3,d3,rfl⟩:=q3.form
 refine ⟨_,rfl,cG,fun gT _ bb3=>wV rfl ?_⟩
 replace q3:=q3.mono (Nat.le_trans hB CV)
 refine af ?_
 refine VO.eK rfl (fk Tryz.func71) (fun iP β jT jX ho=>((gV _ _ e.1 [aw S F e.2] kk iP ((hN.k).up aa) (cX (ho.own 20 (.base (List.mem_singleton.2 rfl)) _ _ rfl) [] (vs:=[[.bool s1,.slice p1 n1 c1,.bool t1,.slice y1 m1 d1]]) (by rfl) rfl (bq.cons (q1.ki (hK _ Eo dt dt)) bq.nil) (bB rfl) bV) aa (bB rfl)).mono (fun o w2 h=>And.intro h jX.1.size)).mono ?_)
 rintro o w4 ⟨⟨r4,rfl,q4,z4,eV⟩,LH⟩
 rw [eF] at q4
 obtain ⟨s4,p4,n4,c4,t4,y4,m4,d4,rfl⟩:=q4.form
 refine ⟨_,rfl,eV,fun lh _ sT=>wV rfl ?_⟩
 replace q4:=q4.mono (Nat.le_trans hB LH)
 refine af ?_
 refine VO.call rfl rfl (fk Tryz.func72) (fun gf jl gD=>((cZ _ _ e.1 (ae e.1 (aw S F e.2)) kk kk gf ((hN.k).up aa) (q4.ki (hK _ g1 dt dt)) aa aa).mono (fun o w2 h=>And.intro h gD.1.size)).mono ?_)
 rintro o w5 ⟨⟨r5,rfl,q5,eE⟩,pV⟩
 obtain ⟨s5,p5,n5,c5,t5,y5,m5,d5,rfl⟩:=q5.form
 refine ⟨_,rfl,eE,fun jy _ qi=>wV rfl ?_⟩
 replace q5:=q5.mono (Nat.le_trans hB pV)
 refine af ?_
 refine VO.call rfl rfl (fk Tryz.func72) (fun gj kx iz=>((cZ _ _ (aw S F e.2) (ae e.1 (aw S F e.2)) kk kk gj (q1.ki (hK _ Eo dt dt)) (q4.ki (hK _ g1 dt dt)) aa aa).mono (fun o w2 h=>And.intro h iz.1.size)).mono ?_)
 rintro o w6 ⟨⟨r6,rfl,q6,fx⟩,LI⟩
 obtain ⟨s6,p6,n6,c6,t6,y6,m6,d6,rfl⟩:=q6.form
 refine ⟨_,rfl,fx,fun jz _ oX=>wV rfl ?_⟩
 replace q6:=q6.mono (Nat.le_trans hB LI)
 refine af ?_
 have oN:eb S F keep (rows:List aL).length ⟨[],rows,[]⟩ e=vB keep (rows:List aL).length ⟨mP (rows:List aL).length (e.1 - ae e.1 (aw S F e.2)) (nd [] (aw S F e.2 - ae e.1 (aw S F e.2))),rows++[ey S F [] e],[]++qI (rows:List aL).length [] (aw S F e.2 - ae e.1 (aw S F e.2))⟩:=rfl
 refine VO.vG (B:=B) (mm:=aw S F e.2 - ae e.1 (aw S F e.2)) kk rfl rfl (fk Tryz.func73) rfl (fun sR LJ Nm=>q6.kr) hB (fun w7 r7 k7 b7 q7=> ?_)
 obtain ⟨s7,p7,n7,c7,t7,y7,m7,d7,rfl⟩:=q7.form
 refine wV rfl ?_
 refine af ?_
 have CX:([]:List Uq)++qI (rows:List aL).length [] (aw S F e.2 - ae e.1 (aw S F e.2))=[]:=rfl
 obtain ⟨u1,u2,u3⟩:=xh (q:=[]) (m:=aw S F e.2 - ae e.1 (aw S F e.2)) (fun p hp=>(by cases hp)) g7 g8
 refine VO.call rfl rfl (fk Tryz.func16) (fun sB CP vo=>((fZ _ _ (ae e.1 (aw S F e.2)) ((0:Rat)) kk kk sB (q4.ki (hK _ g1 dt dt)) (q7.ki (hK _ u1 dt dt)) aa aa).mono (fun o w2 h=>And.intro h vo.1.size)).mono ?_)
 rintro o w8 ⟨⟨r8,rfl,q8,qe⟩,CY⟩
 obtain ⟨s8,p8,n8,c8,t8,y8,m8,d8,rfl⟩:=q8.form
 refine ⟨_,rfl,qe,fun sC _ Kk=>wV rfl ?_⟩
 replace q8:=q8.mono (Nat.le_trans hB CY)
 refine af ?_
 have Sr:((0:Int):Rat)=0:=rfl
 have FK:eB B w8 [.bool s1,.slice p1 n1 c1,.bool t1,.slice y1 m1 d1,.bool s4,.slice p4 n4 c4,.bool t4,.slice y4 m4 d4,.bool s5,.slice p5 n5 c5,.bool t5,.slice y5 m5 d5,.bool s7,.slice p7 n7 c7,.bool t7,.slice y7 m7 d7,.bool s8,.slice p8 n8 c8,.bool t8,.slice y8 m8 d8,.bool s2,.slice p2 n2 c2,.bool t2,.slice y2 m2 d2,.bool s3,.slice p3 n3 c3,.bool t3,.slice y3 m3 d3] (ey S F [] e):=⟨[.bool s1,.slice p1 n1 c1,.bool t1,.slice y1 m1 d1],[.bool s4,.slice p4 n4 c4,.bool t4,.slice y4 m4 d4],[.bool s5,.slice p5 n5 c5,.bool t5,.slice y5 m5 d5],[.bool s7,.slice p7 n7 c7,.bool t7,.slice y7 m7 d7],[.bool s8,.slice p8 n8 c8,.bool t8,.slice y8 m8 d8],[.bool s2,.slice p2 n2 c2,.bool t2,.slice y2 m2 d2],[.bool s3,.slice p3 n3 c3,.bool t3,.slice y3 m3 d3],rfl,⟨_,_,_,_,_,_,_,_,rfl,q1.k⟩,⟨_,_,_,_,_,_,_,_,rfl,q4.k⟩,⟨_,_,_,_,_,_,_,_,rfl,q5.k⟩,⟨_,_,_,_,_,_,_,_,rfl,q7.k⟩,⟨_,_,_,_,_,_,_,_,rfl,q8.k⟩,⟨_,_,_,_,_,_,_,_,rfl,q2.k⟩,⟨_,_,_,_,_,_,_,_,rfl,q3.k⟩⟩
 obtain ⟨jE,jW⟩:=hR.el.ok (aA B)
 have pc:=hR.len
 refine VO.app (bE _ _) (t:=33) (e:=eh) (sz:=28) (n:=nr) (c:=cr) (mm:=1) (known:=kG.flatten.map .val) (spare:=nt.map .val) (del:=some 199) (news:=([.bool s1,.slice p1 n1 c1,.bool t1,.slice y1 m1 d1,.bool s4,.slice p4 n4 c4,.bool t4,.slice y4 m4 d4,.bool s5,.slice p5 n5 c5,.bool t5,.slice y5 m5 d5,.bool s7,.slice p7 n7 c7,.bool t7,.slice y7 m7 d7,.bool s8,.slice p8 n8 c8,.bool t8,.slice y8 m8 d8,.bool s2,.slice p2 n2 c2,.bool t2,.slice y2 m2 d2,.bool s3,.slice p3 n3 c3,.bool t3,.slice y3 m3 d3]:List Value).map .val) (dst:=52) rfl rfl rfl rfl rfl rfl rfl rfl (bB rfl) rfl (.inr ⟨199,rfl,congrArg (fun l=>some (eh,l)) (List.map_append ..),rfl⟩) (.inl rfl) (by rw [List.length_map,jW,pc]) (by rw [<-List.map_append,List.length_map];exact hR.fl) hR.le hR.cm ⟨ai _,ai _,rfl⟩ ⟨bg jE,bg hR.so,rfl⟩ rfl aa
  (fun w1 β k1 b1 ho=>⟨_,_,rfl,.inr ⟨β 51,0,rfl,de (rest:=[]) (ho.own 51 (.base (List.mem_append_right _ (List.mem_singleton.2 rfl))) _ _ rfl) rfl⟩⟩)
  (fun rB iD oc ρ Ni Nj fF iI iQ ez FL jR=>wV rfl ?_)
 (repeat (first | refine wN ?_ | refine wP rfl ?_ | refine DY rfl ?_ | refine wO rfl rfl ?_))
 obtain ⟨qK,vJ⟩:∃ qK,qK=nr + 1:=⟨_,rfl⟩
 obtain ⟨tZ,vK⟩:∃ tZ,tZ=(kG++[[.bool s1,.slice p1 n1 c1,.bool t1,.slice y1 m1 d1,.bool s4,.slice p4 n4 c4,.bool t4,.slice y4 m4 d4,.bool s5,.slice p5 n5 c5,.bool t5,.slice y5 m5 d5,.bool s7,.slice p7 n7 c7,.bool t7,.slice y7 m7 d7,.bool s8,.slice p8 n8 c8,.bool t8,.slice y8 m8 d8,.bool s2,.slice p2 n2 c2,.bool t2,.slice y2 m2 d2,.bool s3,.slice p3 n3 c3,.bool t3,.slice y3 m3 d3]]:List (List Value)):=⟨_,rfl⟩
 have fH:qy (eB B) 28 rB qK iD tZ oc (rows++[ey S F [] e]):=by rw [vJ,vK];exact ⟨by rw [pc,List.length_append];rfl,(hR.el.kp (aA B) aR).snoc ((aA B).kp FK aR),FL,jR,iI,iQ,by simpa using ez⟩
 refine VS.narrow [(0,.box 198 0),(2,.val (.int .i64 ((rows:List aL).length:Int))),(5,.box 5 0),(8,.box 8 0)] [(198,(Runner,[.val (.slice none 0 0),.row 52 0 qK iD,.val (.slice none 0 0)])),(52,(eh,tZ.flatten.map AV.val++oc)),(5,(28,([.bool sS,.slice pS nS cS,.bool tS,.slice yS mS dS,.bool sF,.slice pF nF cF,.bool tF,.slice yF mF dF,.int .i64 (keep:Int)]:List Value).map AV.val)),(8,(eh,([.bool s1,.slice p1 n1 c1,.bool t1,.slice y1 m1 d1,.bool s4,.slice p4 n4 c4,.bool t4,.slice y4 m4 d4,.bool s5,.slice p5 n5 c5,.bool t5,.slice y5 m5 d5,.bool s7,.slice p7 n7 c7,.bool t7,.slice y7 m7 d7,.bool s8,.slice p8 n8 c8,.bool t8,.slice y8 m8 d8,.bool s2,.slice p2 n2 c2,.bool t2,.slice y2 m2 d2,.bool s3,.slice p3 n3 c3,.bool t3,.slice y3 m3 d3]:List Value).map AV.val))] ⟨rfl,rfl,rfl,rfl,trivial⟩ ⟨by rw [vJ];rfl,by rw [vK];exact congrArg (fun l=>some (eh,l++oc)) cA,rfl,rfl,trivial⟩ rfl ⟨.lit rfl,.append (.vals _) (.none jR),.vals _,.vals _,trivial⟩ ?_
 refine VS.draw (bE _ _) (lV _ _) [74] (by kernel_rfl) (VO.run 80 rfl ?_)
 refine VO.Jz (B:=B) (d2:=62) (d:=e.1 - ae e.1 (aw S F e.2)) kk rfl rfl rfl (fk Tryz.func74) rfl rfl (by show 62 < 2 * 99;omega) (fun j hj=> ?_) (bB rfl) (fun sR LJ Nm=>q5.kr) (hK _ g4 dt dt) Ee hB (fun CZ k19 b19 Ms=>wV rfl ?_) (fun CZ qG Nn Np k19 b19 Ms gL=>wV rfl ?_)
 ·have:j=52:=by simpa [ax,AV.cQ] using hj
  subst this;intro h;cases h
 ·have zF:mP (rows:List aL).length (e.1 - ae e.1 (aw S F e.2)) (nd [] (aw S F e.2 - ae e.1 (aw S F e.2)))=[]:=if_neg Ms
  refine af ?_
  refine VO.dT (x:=.val (.slice none 0 0)) (p:=fun _=>none) (c:=0) rfl (fun β=>.inr ⟨none,rfl⟩) rfl (fk Tryz.func75) rfl (fun Km SS SV=>wV rfl ?_)
  refine af ?_
  have sH:eb S F keep (rows:List aL).length ⟨[],rows,[]⟩ e=⟨[],rows++[ey S F [] e],[]⟩:=by rw [oN,zF,CX];rfl
  refine af ?_
  refine VS.mO (bE _ _) rfl (fun wz β kz oz en=> ?_)
  obtain ⟨o1,o2⟩:=fj (en.own 198 _ _ rfl) 0 g rfl rfl
  have oR:=(en.own 52 _ _ rfl).cls
  rw [List.map_append,ag] at oR
  have nR:=gn hB eT (show dm 99 [g,rb] w 52 (β 52) from (en.own 52 _ _ rfl).new)
  rw [sH]
  refine ⟨rfl,oz.1,[g,β 52],⟨fun b hb=> ?_,_,_,_,o2,?_⟩⟩
  ·simp only [List.mem_cons,List.not_mem_nil,or_false] at hb
   rcases hb with rfl | rfl
   ·exact xX
   ·exact nR
  ·exact .inr (.inl ⟨β 52,rfl,rfl,rfl,rfl,rfl,⟨_,_,_,_,rfl,oR,(fH.kp (aA B) aR).o β⟩⟩)
 ·obtain ⟨q2,vL⟩:∃ q2:List Vq,q2=[((rows:List aL).length,e.1 - ae e.1 (aw S F e.2))]:=⟨_,rfl⟩
  rw [<-vL] at gL
  have zF:mP (rows:List aL).length (e.1 - ae e.1 (aw S F e.2)) (nd [] (aw S F e.2 - ae e.1 (aw S F e.2)))=q2:=by rw [vL];exact if_pos Ms
  obtain ⟨nz,SW⟩:∃ nz,nz=1:=⟨_,rfl⟩
  obtain ⟨gG,JC⟩:∃ gG,gG=0:=⟨_,rfl⟩
  obtain ⟨mQ,JD⟩:∃ mQ:List Value,mQ=[]:=⟨_,rfl⟩
  have gL:dL (dz B) 5 CZ nz gG qG mQ Nn Np q2:=by rw [SW,JC,JD];exact gL
  refine VO.nil ?_
  refine VS.narrow [(0,.box 198 0),(2,.val (.int .i64 ((rows:List aL).length:Int))),(5,.box 5 0),(8,.box 8 0)] [(198,(Runner,[.row 62 gG nz qG,.row 52 0 qK iD,.val (.slice none 0 0)])),(52,(eh,tZ.flatten.map AV.val++oc)),(5,(28,([.bool sS,.slice pS nS cS,.bool tS,.slice yS mS dS,.bool sF,.slice pF nF cF,.bool tF,.slice yF mF dF,.int .i64 (keep:Int)]:List Value).map AV.val)),(8,(eh,([.bool s1,.slice p1 n1 c1,.bool t1,.slice y1 m1 d1,.bool s4,.slice p4 n4 c4,.bool t4,.slice y4 m4 d4,.bool s5,.slice p5 n5 c5,.bool t5,.slice y5 m5 d5,.bool s7,.slice p7 n7 c7,.bool t7,.slice y7 m7 d7,.bool s8,.slice p8 n8 c8,.bool t8,.slice y8 m8 d8,.bool s2,.slice p2 n2 c2,.bool t2,.slice y2 m2 d2,.bool s3,.slice p3 n3 c3,.bool t3,.slice y3 m3 d3]:List Value).map AV.val)),(62,(dD,(mQ++(Nn.flatten++Np)).map AV.val))] ⟨rfl,rfl,rfl,rfl,trivial⟩ ⟨by rw [JC,SW];rfl,rfl,rfl,rfl,by rw [JD];rfl,trivial⟩ rfl ⟨.lit rfl,.append (.vals _) (.none jR),.vals _,.vals _,.vals _,trivial⟩ ?_
  refine af ?_
  by_cases nY:nz=0
  ·refine VO.dT (x:=.row 62 gG nz qG) (p:=fun _=>none) (c:=qG) rfl (fun β=>.inr ⟨_,congrArg (fun n=>Value.slice (some ⟨β 62,gG,none⟩) n qG) nY⟩) rfl (fk Tryz.func75) rfl (fun Km SS SV=>wV rfl ?_)
   refine af ?_
   have FM:q2=[]:=List.eq_nil_of_length_eq_zero (by rw [<-gL.len];exact nY)
   have sH:eb S F keep (rows:List aL).length ⟨[],rows,[]⟩ e=⟨q2,rows++[ey S F [] e],[]⟩:=by rw [oN,zF,CX,FM];rfl
   refine af ?_
   refine VS.mO (bE _ _) rfl (fun wz β kz oz en=> ?_)
   obtain ⟨o1,o2⟩:=fj (en.own 198 _ _ rfl) 0 g rfl rfl
   have oR:=(en.own 52 _ _ rfl).cls
   rw [List.map_append,ag] at oR
   have nR:=gn hB eT (show dm 99 [g,rb] w 52 (β 52) from (en.own 52 _ _ rfl).new)
   have oV:=(en.own 62 _ _ rfl).cls
   rw [ag] at oV
   have nV:=gn hB eT (show dm 99 [g,rb] w 62 (β 62) from (en.own 62 _ _ rfl).new)
   rw [sH]
   refine ⟨rfl,oz.1,[g,β 62,β 52],⟨fun b hb=> ?_,_,_,_,o2,?_⟩⟩
   ·simp only [List.mem_cons,List.not_mem_nil,or_false] at hb
    rcases hb with rfl | rfl | rfl
    ·exact xX
    ·exact nV
    ·exact nR
   ·exact .inr (.inr (.inl ⟨β 62,β 52,rfl,rfl,rfl,⟨_,_,_,_,_,_,rfl,oV,gL.kp (aO B) aR⟩,⟨_,_,_,_,rfl,oR,(fH.kp (aA B) aR).o β⟩⟩))
  obtain ⟨pp,qt,zO⟩:∃ pp qt,q2=pp::qt:=by
   cases q2 with
   | nil=>exact absurd gL.len nY
   | cons pp qt=>exact ⟨pp,qt,rfl⟩
  subst zO
  obtain ⟨FN,Ae,rfl,hE4,vM⟩:∃ FN Ae,Nn=FN::Ae/\dz B CZ FN pp/\ck (dz B) CZ qt Ae:=by
   have:=gL.el
   cases this with
   | cons h1 h2=>exact ⟨_,_,rfl,h1,h2⟩
  obtain ⟨s9,p9,n9,c9,t9,y9,m9,d9,rfl,Ps⟩:=hE4
  have FO:=gL.le
  have FP:=gL.len
  have FQ:=gL.cm
  have lO:mQ.length=gG:=gL.pl.resolve_right aa
  refine VO.dA rfl rfl (fk Tryz.func75) rfl nY (by intro h;cases h) (fun Km SS SV=>wV rfl ?_)
  refine af ?_
  refine VO.cT rfl (([.int .i64 (pp.1:Int)]:List Value).map .val) rfl (bD lO 0 _ ⟨_,rfl⟩) (wV rfl ?_)
  refine af ?_
  have Nq:IntKind.i64.wrap (((rows:List aL).length:Int) - (keep:Int))=((rows:List aL).length:Int) - (keep:Int):=IntWalk.i64_in _ aa
  by_cases hx:pp.1 + keep=(rows:List aL).length
  ·refine VS.aP rfl (by rw [Nq,beq_iff_eq];omega) ?_
   refine af ?_
   refine VO.cT rfl (([.int .i64 (pp.1:Int)]:List Value).map .val) rfl (bD lO 0 _ ⟨_,rfl⟩) (wV rfl ?_)
   refine af ?_
   refine VO.cT rfl (([.bool s9,.slice p9 n9 c9,.bool t9,.slice y9 m9 d9]:List Value).map .val) rfl (bD lO 1 _ ⟨[],rfl⟩) (wV rfl ?_)
   refine af ?_
   have gp:=fH.len
   have DT:pp.1 < qK:=by rw [gp,List.length_append,List.length_singleton];omega
   refine VO.cond rfl du (wV rfl ?_)
   obtain ⟨rq,Ep⟩:∃ rq,(rows++[ey S F [] e])[pp.1]? =some rq:=⟨_,List.getElem?_eq_getElem (by rw [<-gp];exact DT)⟩
   obtain ⟨yw,qz,uw⟩:=fH.el.at pp.1 rq Ep
   have je:=fH.fl
   have Pt:=fH.le
   refine VO.cond rfl (by show 0 + ((pp.1:Int)).toNat * 28 + 20 + 4≤_;rw [je,Int.toNat_natCast];omega) (VO.dG 52 rfl (mG (new:=[.bool s9,.slice p9 n9 c9,.bool t9,.slice y9 m9 d9]) (o:=20) (fH.el.lens (aA B)) qz (bB rfl)) (wV rfl ?_))
   refine af ?_
   have hR3:qy (eB B) 28 Km qK iD (tZ.set pp.1 (yw.take 20++([.bool s9,.slice p9 n9 c9,.bool t9,.slice y9 m9 d9]++yw.drop (20 + ([.bool s9,.slice p9 n9 c9,.bool t9,.slice y9 m9 d9]:List Value).length)))) oc ((rows++[ey S F [] e]).modify pp.1 (fun r=>{ r with aq:=pp.2 })):=
    ⟨by rw [List.length_modify];exact gp,by rw [ek Ep];exact (fH.el.kp (aA B) aR).set (rL ((aA B).kp uw aR) ⟨_,_,_,_,_,_,_,_,rfl,Ps.kp aR⟩),fH.so,fH.sl,fH.le,fH.cm,by
     rw [List.length_append,List.length_map,dB (mH (fH.el.lens (aA B)) (vH ((aA B).len uw) rfl)),List.length_set]
     rw [List.length_append,List.length_map,dB (fH.el.lens (aA B))] at je
     exact je⟩
   refine VO.jQ rfl rfl (fk Tryz.func76) rfl aa FO FQ (fun j hj=> ?_) (bB rfl) (fun Pu k21 b21=>wV rfl ?_)
   ·simp only [ax,AV.cQ,List.flatMap_cons,List.flatMap_nil,List.mem_append,List.mem_cons,List.not_mem_nil,or_false,List.append_nil] at hj
    rcases hj with rfl | rfl <;> (intro h;cases h)
   refine af ?_
   have hV4:dL (dz B) 5 Pu (nz - 1) (if qG=1 then gG else gG + 5) (qG - 1) (mQ++[.int .i64 (pp.1:Int),.bool s9,.slice p9 n9 c9,.bool t9,.slice y9 m9 d9]) Ae Np qt:=⟨by rw [FP];rfl,pT lO,by rw [List.all_append,gL.po];rfl,vM.kp (aO B) aR,gL.so,by omega,by omega,pU gL.fl⟩
   have sH:eb S F keep (rows:List aL).length ⟨[],rows,[]⟩ e=⟨qt,(rows++[ey S F [] e]).modify pp.1 (fun r=>{ r with aq:=pp.2 }),[]⟩:=by
    rw [oN,zF,CX]
    exact if_pos hx
   refine af ?_
   refine VS.mO (bE _ _) rfl (fun wz β kz oz en=> ?_)
   obtain ⟨o1,o2⟩:=fj (en.own 198 _ _ rfl) 0 g rfl rfl
   have oR:=(en.own 52 _ _ rfl).cls
   rw [List.map_append,ag] at oR
   have nR:=gn hB eT (show dm 99 [g,rb] w 52 (β 52) from (en.own 52 _ _ rfl).new)
   have oV:=(en.own 62 _ _ rfl).cls
   rw [eG,ag] at oV
   have nV:=gn hB eT (show dm 99 [g,rb] w 62 (β 62) from (en.own 62 _ _ rfl).new)
   rw [sH]
   refine ⟨rfl,oz.1,[g,β 62,β 52],⟨fun b hb=> ?_,_,_,_,o2,?_⟩⟩
   ·simp only [List.mem_cons,List.not_mem_nil,or_false] at hb
    rcases hb with rfl | rfl | rfl
    ·exact xX
    ·exact nV
    ·exact nR
   ·exact .inr (.inr (.inl ⟨β 62,β 52,rfl,rfl,rfl,⟨_,_,_,_,_,_,rfl,oV,hV4.kp (aO B) aR⟩,⟨_,_,_,_,rfl,oR,(hR3.kp (aA B) aR).o β⟩⟩))
  ·refine VS.aQ rfl (by rw [Nq,beq_eq_false_iff_ne];omega) ?_
   have sH:eb S F keep (rows:List aL).length ⟨[],rows,[]⟩ e=⟨pp::qt,rows++[ey S F [] e],[]⟩:=by
    rw [oN,zF,CX]
    exact if_neg hx
   refine af ?_
   refine VS.mO (bE _ _) rfl (fun wz β kz oz en=> ?_)
   obtain ⟨o1,o2⟩:=fj (en.own 198 _ _ rfl) 0 g rfl rfl
   have oR:=(en.own 52 _ _ rfl).cls
   rw [List.map_append,ag] at oR
   have nR:=gn hB eT (show dm 99 [g,rb] w 52 (β 52) from (en.own 52 _ _ rfl).new)
   have oV:=(en.own 62 _ _ rfl).cls
   rw [ag] at oV
   have nV:=gn hB eT (show dm 99 [g,rb] w 62 (β 62) from (en.own 62 _ _ rfl).new)
   rw [sH]
   refine ⟨rfl,oz.1,[g,β 62,β 52],⟨fun b hb=> ?_,_,_,_,o2,?_⟩⟩
   ·simp only [List.mem_cons,List.not_mem_nil,or_false] at hb
    rcases hb with rfl | rfl | rfl
    ·exact xX
    ·exact nV
    ·exact nR
   ·exact .inr (.inr (.inl ⟨β 62,β 52,rfl,rfl,rfl,⟨_,_,_,_,_,_,rfl,oV,gL.kp (aO B) aR⟩,⟨_,_,_,_,rfl,oR,(fH.kp (aA B) aR).o β⟩⟩))
set_option maxRecDepth 4000
set_option maxRecDepth 4000 in
theorem iYear_C {B g keep D kk ks:Nat} {M S F:Rat} {e:Rat×Rat} {vb off nq cq:Nat} {pre SX:List Value} {SY:List (List Value)} {rb nr cr:Nat} {kG:List (List Value)} {nt:List Value} {q:List Vq} {rows:List aL} {uses:List Uq} {v u:Value} {w:World} (hg:aZ w g Runner #[.slice (some ⟨vb,off,none⟩) nq cq,.slice (some ⟨rb,0,none⟩) nr cr,.slice none 0 0]) (GJ:aZ w vb dD (pre++(SY.flatten++SX)).toArray) (hV:dL (dz B) 5 w nq off cq pre SY SX q) (Er:aZ w rb eh (kG.flatten++nt).toArray) (hR:dL (eB B) 28 w nr 0 cr [] kG nt rows)
  (yv:LD w v S F keep ks) (Qo:YrV w u e ks) (vI:1≤ks) (CW:ks≤kk) (Ee:kk≤100000) (Eo:Iz D (aw S F e.2)) (tY:aw S F e.2≤M) (Qp:Iz D e.1) (iV: -M≤e.1) (GI:e.1≤M) (hK:∀ x,Iz D x->-(M + M)≤x->x≤M + M->eM x kk)
  (Ad:BU D M ⟨q,rows,[]⟩) (xW:(rows:List aL).length≤64) (sZ:keep≤40) (hB:B≤w.heap.size) (eT:∀ b∈[g,vb,rb],B≤b):
  Calls Tryz.prog 39 #[.pointer (some ⟨g,0,none⟩),v,.int .i64 ((rows:List aL).length:Int),u] w fun o w'=>o=.returned (iX [])/\tB [g,vb,rb] w w'/\∃ SR,qk B w' g SR (eb S F keep (rows:List aL).length ⟨q,rows,[]⟩ e):=by
 have hL0:=lN S F e.2
 have hM0:0≤M:=by grind
 obtain ⟨g1,g2,g3,g4,g5,g6,g7,g8,g9⟩:=np Eo hL0 tY Qp iV GI
 have xX:B≤g:=eT g cA
 have hlen:=Ad.len
 obtain ⟨sS,pS,nS,cS,tS,yS,mS,dS,sF,pF,nF,cF,tF,yF,mF,dF,rfl,hS,hF⟩:=yv
 obtain ⟨sN,pN,nN,cN,tN,yN,mN,dN,sE,pE,nE,cE,tE,yE,mE,dE,rfl,hN,hE⟩:=Qo
 have lD:q.length≤1000:=by dsimp only at hlen;omega
 have sG:jZ (KU UU) 99 [g,vb,rb] [(Runner,[.row 199 off nq cq,.row 200 0 nr cr,.val (.slice none 0 0)]),(dD,(pre++(SY.flatten++SX)).map .val),(eh,(kG.flatten++nt).map .val)] w:=by
  have Pv:g≠vb:=fun e=>by subst e;exact absurd (bM hg GJ) bV
  have h02:g≠rb:=fun e=>by subst e;exact absurd (bM hg Er) bV
  have Ed:vb≠rb:=fun e=>by subst e;exact absurd (bM GJ Er) bV
  refine ⟨rfl,by simp [Pv,h02,Ed],fun j g' c' hj hc=> ?_,fun c' hc=> ?_,fun c' hc k hk=> ?_⟩
  ·match j,hj,hc with
   | 0,hj,hc=>cases hj;cases hc;exact hg
   | 1,hj,hc=>cases hj;cases hc;rw [ag];exact GJ
   | 2,hj,hc=>cases hj;cases hc;rw [ag];exact Er
   | j + 3,hj,_=>simp at hj
  ·simp only [List.mem_cons,List.not_mem_nil,or_false] at hc
   rcases hc with rfl | rfl | rfl
   ·exact ⟨rfl,rfl⟩
   ·exact ⟨rfl,bg (hV.all (aO B))⟩
   ·exact ⟨rfl,bg (hR.all (aA B))⟩
  ·simp only [List.mem_cons,List.not_mem_nil,or_false] at hc
   rcases hc with rfl | rfl | rfl
   ·have:k=199\/k=200:=by simpa [ax,AV.cQ] using hk
    rcases this with rfl | rfl
    ·exact ⟨by omega,by show 199 < 2 * 99 + 3;omega⟩
    ·exact ⟨by omega,by show 200 < 2 * 99 + 3;omega⟩
   ·rw [ai] at hk;cases hk
   ·rw [ai] at hk;cases hk
 refine fi Tryz.prog w _ (KU UU) (fun t=>Nat.beq t 22) table (fun _ _=>trivial) (ad:=[g,vb,rb]) (us:=[_,_,_]) Tryz.func39 rfl Tryz.ntmps39 (bB rfl) sG (bB rfl) ?_
 refine af ?_
 refine VO.call rfl rfl (fk Tryz.func70) (fun bF cU bJ=>((pW _ _ S F keep e ks bF ⟨_,_,_,_,_,_,_,_,_,_,_,_,_,_,_,_,rfl,hS.k,hF.k⟩ ⟨_,_,_,_,_,_,_,_,_,_,_,_,_,_,_,_,rfl,hN.k,hE.k⟩ vI aa).mono (fun o w2 h=>And.intro h bJ.1.size)).mono ?_)
 rintro o w1 ⟨⟨r1,rfl,q1,aK⟩,LG⟩
 obtain ⟨s1,p1,n1,c1,t1,y1,m1,d1,rfl⟩:=q1.form
 refine ⟨_,rfl,aK,fun dC _ bb1=>wV rfl ?_⟩
 replace q1:=q1.mono (Nat.le_trans hB LG)
 refine af ?_
 refine VO.call rfl rfl (fk Tryz.func44) (fun cK eg di=>((cd 0 cK aa aa).mono (fun o w2 h=>And.intro h di.1.size)).mono ?_)
 rintro o w2 ⟨⟨r2,rfl,q2,ba⟩,tW⟩
 obtain ⟨s2,p2,n2,c2,t2,y2,m2,d2,rfl⟩:=q2.form
 refine ⟨_,rfl,ba,fun ed _ bb2=>wV rfl ?_⟩
 replace q2:=q2.mono (Nat.le_trans hB tW)
 refine af ?_
 refine VO.call rfl rfl (fk Tryz.func44) (fun fh fE fG=>((cd 0 fh aa aa).mono (fun o w2 h=>And.intro h fG.1.size)).mono ?_)
 rintro o w3 ⟨⟨r3,rfl,q3,cG⟩,CV⟩
 obtain ⟨s3,p3,n3,c3,t3,y3,m3,d3,rfl⟩:=q3.form
 refine ⟨_,rfl,cG,fun gT _ bb3=>wV rfl ?_⟩
 replace q3:=q3.mono (Nat.le_trans hB CV)
 refine af ?_
 refine VO.eK rfl (fk Tryz.func71) (fun iP β jT jX ho=>((gV _ _ e.1 [aw S F e.2] kk iP ((hN.k).up aa) (cX (ho.own 20 (.base (List.mem_singleton.2 rfl)) _ _ rfl) [] (vs:=[[.bool s1,.slice p1 n1 c1,.bool t1,.slice y1 m1 d1]]) (by rfl) rfl (bq.cons (q1.ki (hK _ Eo dt dt)) bq.nil) (bB rfl) bV) aa (bB rfl)).mono (fun o w2 h=>And.intro h jX.1.size)).mono ?_)
 rintro o w4 ⟨⟨r4,rfl,q4,z4,eV⟩,LH⟩
 rw [eF] at q4
 obtain ⟨s4,p4,n4,c4,t4,y4,m4,d4,rfl⟩:=q4.form
 refine ⟨_,rfl,eV,fun lh _ sT=>wV rfl ?_⟩
 replace q4:=q4.mono (Nat.le_trans hB LH)
 refine af ?_
 refine VO.call rfl rfl (fk Tryz.func72) (fun gf jl gD=>((cZ _ _ e.1 (ae e.1 (aw S F e.2)) kk kk gf ((hN.k).up aa) (q4.ki (hK _ g1 dt dt)) aa aa).mono (fun o w2 h=>And.intro h gD.1.size)).mono ?_)
 rintro o w5 ⟨⟨r5,rfl,q5,eE⟩,pV⟩
 obtain ⟨s5,p5,n5,c5,t5,y5,m5,d5,rfl⟩:=q5.form
 refine ⟨_,rfl,eE,fun jy _ qi=>wV rfl ?_⟩
 replace q5:=q5.mono (Nat.le_trans hB pV)
 refine af ?_
 refine VO.call rfl rfl (fk Tryz.func72) (fun gj kx iz=>((cZ _ _ (aw S F e.2) (ae e.1 (aw S F e.2)) kk kk gj (q1.ki (hK _ Eo dt dt)) (q4.ki (hK _ g1 dt dt)) aa aa).mono (fun o w2 h=>And.intro h iz.1.size)).mono ?_)
 rintro o w6 ⟨⟨r6,rfl,q6,fx⟩,LI⟩
 obtain ⟨s6,p6,n6,c6,t6,y6,m6,d6,rfl⟩:=q6.form
 refine ⟨_,rfl,fx,fun jz _ oX=>wV rfl ?_⟩
 replace q6:=q6.mono (Nat.le_trans hB LI)
 refine af ?_
 have oN:eb S F keep (rows:List aL).length ⟨q,rows,[]⟩ e=vB keep (rows:List aL).length ⟨mP (rows:List aL).length (e.1 - ae e.1 (aw S F e.2)) (nd q (aw S F e.2 - ae e.1 (aw S F e.2))),rows++[ey S F q e],[]++qI (rows:List aL).length q (aw S F e.2 - ae e.1 (aw S F e.2))⟩:=rfl
 refine VO.JA (B:=B) (D:=D) (v:=199) (d2:=36) (M:=M + M) (mm:=aw S F e.2 - ae e.1 (aw S F e.2)) (q:=q) kk rfl rfl rfl (fk Tryz.func73) rfl rfl rfl (by show 36 < 2 * 99;omega) bV rfl (fun _=>rfl) (fun j hj=> ?_) (bB rfl) (fun sR LJ Nm=>hV.kp (aO B) aR) (fun sR LJ Nm=>q6.kr) g7 g8 g9 (fun p hp=>⟨(Ad.el p hp).1,(Ad.el p hp).2.1,(Ad.el p hp).2.2.1⟩) (fun x h1 h2 h3=>hK x h1 dt h3) Ee lD hB (fun w7 r7 SZ nq1 cq1 Ta Tb Tc k7 b7 q7 hun hV1=> ?_) (fun w7 r7 SZ nq1 cq1 Ta Tb Tc un uc vsu1 spu1 k7 b7 q7 hV1 hU1=> ?_)
 ·have:j=200:=by simpa [ax,AV.cQ] using hj
  subst this;intro h;cases h
 ·obtain ⟨s7,p7,n7,c7,t7,y7,m7,d7,rfl⟩:=q7.form
  refine wV rfl ?_
  refine af ?_
  have CX:([]:List Uq)++qI rows.length q (aw S F e.2 - ae e.1 (aw S F e.2))=[]:=hun
  obtain ⟨u1,u2,u3⟩:=xh (q:=q) (m:=aw S F e.2 - ae e.1 (aw S F e.2)) (fun p hp=>⟨(Ad.el p hp).1,(Ad.el p hp).2.1⟩) g7 g8
  refine VO.call rfl rfl (fk Tryz.func16) (fun sB CP vo=>((fZ _ _ (ae e.1 (aw S F e.2)) (ur q (aw S F e.2 - ae e.1 (aw S F e.2))) kk kk sB (q4.ki (hK _ g1 dt dt)) (q7.ki (hK _ u1 dt dt)) aa aa).mono (fun o w2 h=>And.intro h vo.1.size)).mono ?_)
  rintro o w8 ⟨⟨r8,rfl,q8,qe⟩,CY⟩
  obtain ⟨s8,p8,n8,c8,t8,y8,m8,d8,rfl⟩:=q8.form
  refine ⟨_,rfl,qe,fun sC _ Kk=>wV rfl ?_⟩
  replace q8:=q8.mono (Nat.le_trans hB CY)
  refine af ?_
  have Sr:((0:Int):Rat)=0:=rfl
  have FK:eB B w8 [.bool s1,.slice p1 n1 c1,.bool t1,.slice y1 m1 d1,.bool s4,.slice p4 n4 c4,.bool t4,.slice y4 m4 d4,.bool s5,.slice p5 n5 c5,.bool t5,.slice y5 m5 d5,.bool s7,.slice p7 n7 c7,.bool t7,.slice y7 m7 d7,.bool s8,.slice p8 n8 c8,.bool t8,.slice y8 m8 d8,.bool s2,.slice p2 n2 c2,.bool t2,.slice y2 m2 d2,.bool s3,.slice p3 n3 c3,.bool t3,.slice y3 m3 d3] (ey S F q e):=⟨[.bool s1,.slice p1 n1 c1,.bool t1,.slice y1 m1 d1],[.bool s4,.slice p4 n4 c4,.bool t4,.slice y4 m4 d4],[.bool s5,.slice p5 n5 c5,.bool t5,.slice y5 m5 d5],[.bool s7,.slice p7 n7 c7,.bool t7,.slice y7 m7 d7],[.bool s8,.slice p8 n8 c8,.bool t8,.slice y8 m8 d8],[.bool s2,.slice p2 n2 c2,.bool t2,.slice y2 m2 d2],[.bool s3,.slice p3 n3 c3,.bool t3,.slice y3 m3 d3],rfl,⟨_,_,_,_,_,_,_,_,rfl,q1.k⟩,⟨_,_,_,_,_,_,_,_,rfl,q4.k⟩,⟨_,_,_,_,_,_,_,_,rfl,q5.k⟩,⟨_,_,_,_,_,_,_,_,rfl,q7.k⟩,⟨_,_,_,_,_,_,_,_,rfl,q8.k⟩,⟨_,_,_,_,_,_,_,_,rfl,q2.k⟩,⟨_,_,_,_,_,_,_,_,rfl,q3.k⟩⟩
  obtain ⟨jE,jW⟩:=hR.el.ok (aA B)
  have pc:=hR.len
  refine VO.app (bE _ _) (t:=33) (e:=eh) (sz:=28) (n:=nr) (c:=cr) (mm:=1) (known:=kG.flatten.map .val) (spare:=nt.map .val) (del:=some 200) (news:=([.bool s1,.slice p1 n1 c1,.bool t1,.slice y1 m1 d1,.bool s4,.slice p4 n4 c4,.bool t4,.slice y4 m4 d4,.bool s5,.slice p5 n5 c5,.bool t5,.slice y5 m5 d5,.bool s7,.slice p7 n7 c7,.bool t7,.slice y7 m7 d7,.bool s8,.slice p8 n8 c8,.bool t8,.slice y8 m8 d8,.bool s2,.slice p2 n2 c2,.bool t2,.slice y2 m2 d2,.bool s3,.slice p3 n3 c3,.bool t3,.slice y3 m3 d3]:List Value).map .val) (dst:=52) rfl rfl rfl rfl rfl rfl rfl rfl (bB rfl) rfl (.inr ⟨200,rfl,congrArg (fun l=>some (eh,l)) (List.map_append ..),rfl⟩) (.inl rfl) (by rw [List.length_map,jW,pc]) (by rw [<-List.map_append,List.length_map];exact hR.fl) hR.le hR.cm ⟨ai _,ai _,rfl⟩ ⟨bg jE,bg hR.so,rfl⟩ rfl aa
   (fun w1 β k1 b1 ho=>⟨_,_,rfl,.inr ⟨β 51,0,rfl,de (rest:=[]) (ho.own 51 (.base (List.mem_append_right _ (List.mem_singleton.2 rfl))) _ _ rfl) rfl⟩⟩)
   (fun rB iD oc ρ Ni Nj fF iI iQ ez FL jR=>VO.dG 199 rfl (cL (ai _) _ _) (wV rfl ?_))
  (repeat (first | refine wN ?_ | refine wP rfl ?_ | refine DY rfl ?_ | refine wO rfl rfl ?_))
  obtain ⟨qK,vJ⟩:∃ qK,qK=nr + 1:=⟨_,rfl⟩
  obtain ⟨tZ,vK⟩:∃ tZ,tZ=(kG++[[.bool s1,.slice p1 n1 c1,.bool t1,.slice y1 m1 d1,.bool s4,.slice p4 n4 c4,.bool t4,.slice y4 m4 d4,.bool s5,.slice p5 n5 c5,.bool t5,.slice y5 m5 d5,.bool s7,.slice p7 n7 c7,.bool t7,.slice y7 m7 d7,.bool s8,.slice p8 n8 c8,.bool t8,.slice y8 m8 d8,.bool s2,.slice p2 n2 c2,.bool t2,.slice y2 m2 d2,.bool s3,.slice p3 n3 c3,.bool t3,.slice y3 m3 d3]]:List (List Value)):=⟨_,rfl⟩
  have fH:qy (eB B) 28 rB qK iD tZ oc (rows++[ey S F q e]):=by rw [vJ,vK];exact ⟨by rw [pc,List.length_append];rfl,(hR.el.kp (aA B) aR).snoc ((aA B).kp FK aR),FL,jR,iI,iQ,by simpa using ez⟩
  refine VS.narrow [(0,.box 198 0),(2,.val (.int .i64 ((rows:List aL).length:Int))),(5,.box 5 0),(8,.box 8 0)] [(198,(Runner,[.row 199 SZ nq1 cq1,.row 52 0 qK iD,.val (.slice none 0 0)])),(52,(eh,tZ.flatten.map AV.val++oc)),(5,(28,([.bool sS,.slice pS nS cS,.bool tS,.slice yS mS dS,.bool sF,.slice pF nF cF,.bool tF,.slice yF mF dF,.int .i64 (keep:Int)]:List Value).map AV.val)),(8,(eh,([.bool s1,.slice p1 n1 c1,.bool t1,.slice y1 m1 d1,.bool s4,.slice p4 n4 c4,.bool t4,.slice y4 m4 d4,.bool s5,.slice p5 n5 c5,.bool t5,.slice y5 m5 d5,.bool s7,.slice p7 n7 c7,.bool t7,.slice y7 m7 d7,.bool s8,.slice p8 n8 c8,.bool t8,.slice y8 m8 d8,.bool s2,.slice p2 n2 c2,.bool t2,.slice y2 m2 d2,.bool s3,.slice p3 n3 c3,.bool t3,.slice y3 m3 d3]:List Value).map AV.val)),(199,(dD,(Ta++(Tb.flatten++Tc)).map AV.val))] ⟨rfl,rfl,rfl,rfl,trivial⟩ ⟨by rw [vJ];rfl,by rw [vK];exact congrArg (fun l=>some (eh,l++oc)) cA,rfl,rfl,rfl,trivial⟩ rfl ⟨.lit rfl,.append (.vals _) (.none jR),.vals _,.vals _,.vals _,trivial⟩ ?_
  refine VS.draw (bE _ _) (lV _ _) [1000000 + 74] (by kernel_rfl) (VO.run 80 rfl ?_)
  have Td:nq1≤1000:=by rw [hV1.len];have:=(BS rows.length q (aw S F e.2 - ae e.1 (aw S F e.2))).2;omega
  refine VO.BM (B:=B) (v:=199) (d2:=62) (d:=e.1 - ae e.1 (aw S F e.2)) (q:=nd q (aw S F e.2 - ae e.1 (aw S F e.2))) kk rfl rfl rfl (fk Tryz.func74) rfl rfl rfl (by show 62 < 2 * 99;omega) bV (fun j hj=> ?_) rfl (fun sR LJ Nm=>hV1.kp (aO B) aR) (fun sR LJ Nm=>q5.kr) (hK _ g4 dt dt) Ee Td hB (fun CZ gG nz qG mQ Nn Np ρ19 k19 b19 gL=> ?_)
  ·have:j=52:=by simpa [ax,AV.cQ] using hj
   subst this;exact ⟨(by intro h;cases h),by decide⟩
  obtain ⟨q2,vL⟩:∃ q2:List Vq,q2=mP rows.length (e.1 - ae e.1 (aw S F e.2)) (nd q (aw S F e.2 - ae e.1 (aw S F e.2))):=⟨_,rfl⟩
  rw [<-vL] at gL
  have zF:=vL.symm
  refine VO.dG 52 rfl (cL (by rw [cR,ai,jR];rfl) _ _) (wV rfl ?_)
  refine af ?_
  by_cases nY:nz=0
  ·refine VO.dT (x:=.row 62 gG nz qG) (p:=fun _=>none) (c:=qG) rfl (fun β=>.inr ⟨_,congrArg (fun n=>Value.slice (some ⟨β 62,gG,none⟩) n qG) nY⟩) rfl (fk Tryz.func75) rfl (fun Km SS SV=>wV rfl ?_)
   refine af ?_
   have FM:q2=[]:=List.eq_nil_of_length_eq_zero (by rw [<-gL.len];exact nY)
   have sH:eb S F keep (rows:List aL).length ⟨q,rows,[]⟩ e=⟨q2,rows++[ey S F q e],[]⟩:=by rw [oN,zF,CX,FM];rfl
   refine af ?_
   refine VS.mO (bE _ _) rfl (fun wz β kz oz en=> ?_)
   obtain ⟨o1,o2⟩:=fj (en.own 198 _ _ rfl) 0 g rfl rfl
   have oR:=(en.own 52 _ _ rfl).cls
   rw [List.map_append,ag] at oR
   have nR:=gn hB eT (show dm 99 [g,vb,rb] w 52 (β 52) from (en.own 52 _ _ rfl).new)
   have oV:=(en.own 62 _ _ rfl).cls
   rw [ag] at oV
   have nV:=gn hB eT (show dm 99 [g,vb,rb] w 62 (β 62) from (en.own 62 _ _ rfl).new)
   rw [sH]
   refine ⟨rfl,oz.1,[g,β 62,β 52],⟨fun b hb=> ?_,_,_,_,o2,?_⟩⟩
   ·simp only [List.mem_cons,List.not_mem_nil,or_false] at hb
    rcases hb with rfl | rfl | rfl
    ·exact xX
    ·exact nV
    ·exact nR
   ·exact .inr (.inr (.inl ⟨β 62,β 52,rfl,rfl,rfl,⟨_,_,_,_,_,_,rfl,oV,gL.kp (aO B) aR⟩,⟨_,_,_,_,rfl,oR,(fH.kp (aA B) aR).o β⟩⟩))
  obtain ⟨pp,qt,zO⟩:∃ pp qt,q2=pp::qt:=by
   cases q2 with
   | nil=>exact absurd gL.len nY
   | cons pp qt=>exact ⟨pp,qt,rfl⟩
  subst zO
  obtain ⟨FN,Ae,rfl,hE4,vM⟩:∃ FN Ae,Nn=FN::Ae/\dz B CZ FN pp/\ck (dz B) CZ qt Ae:=by
   have:=gL.el
   cases this with
   | cons h1 h2=>exact ⟨_,_,rfl,h1,h2⟩
  obtain ⟨s9,p9,n9,c9,t9,y9,m9,d9,rfl,Ps⟩:=hE4
  have FO:=gL.le
  have FP:=gL.len
  have FQ:=gL.cm
  have lO:mQ.length=gG:=gL.pl.resolve_right aa
  refine VO.dA rfl rfl (fk Tryz.func75) rfl nY (by intro h;cases h) (fun Km SS SV=>wV rfl ?_)
  refine af ?_
  refine VO.cT rfl (([.int .i64 (pp.1:Int)]:List Value).map .val) rfl (bD lO 0 _ ⟨_,rfl⟩) (wV rfl ?_)
  refine af ?_
  have Nq:IntKind.i64.wrap (((rows:List aL).length:Int) - (keep:Int))=((rows:List aL).length:Int) - (keep:Int):=IntWalk.i64_in _ aa
  by_cases hx:pp.1 + keep=(rows:List aL).length
  ·refine VS.aP rfl (by rw [Nq,beq_iff_eq];omega) ?_
   refine af ?_
   refine VO.cT rfl (([.int .i64 (pp.1:Int)]:List Value).map .val) rfl (bD lO 0 _ ⟨_,rfl⟩) (wV rfl ?_)
   refine af ?_
   refine VO.cT rfl (([.bool s9,.slice p9 n9 c9,.bool t9,.slice y9 m9 d9]:List Value).map .val) rfl (bD lO 1 _ ⟨[],rfl⟩) (wV rfl ?_)
   refine af ?_
   have gp:=fH.len
   have DT:pp.1 < qK:=by rw [gp,List.length_append,List.length_singleton];omega
   refine VO.cond rfl du (wV rfl ?_)
   obtain ⟨rq,Ep⟩:∃ rq,(rows++[ey S F q e])[pp.1]? =some rq:=⟨_,List.getElem?_eq_getElem (by rw [<-gp];exact DT)⟩
   obtain ⟨yw,qz,uw⟩:=fH.el.at pp.1 rq Ep
   have je:=fH.fl
   have Pt:=fH.le
   refine VO.cond rfl (by show 0 + ((pp.1:Int)).toNat * 28 + 20 + 4≤_;rw [je,Int.toNat_natCast];omega) (VO.dG 52 rfl (mG (new:=[.bool s9,.slice p9 n9 c9,.bool t9,.slice y9 m9 d9]) (o:=20) (fH.el.lens (aA B)) qz (bB rfl)) (wV rfl ?_))
   refine af ?_
   have hR3:qy (eB B) 28 Km qK iD (tZ.set pp.1 (yw.take 20++([.bool s9,.slice p9 n9 c9,.bool t9,.slice y9 m9 d9]++yw.drop (20 + ([.bool s9,.slice p9 n9 c9,.bool t9,.slice y9 m9 d9]:List Value).length)))) oc ((rows++[ey S F q e]).modify pp.1 (fun r=>{ r with aq:=pp.2 })):=
    ⟨by rw [List.length_modify];exact gp,by rw [ek Ep];exact (fH.el.kp (aA B) aR).set (rL ((aA B).kp uw aR) ⟨_,_,_,_,_,_,_,_,rfl,Ps.kp aR⟩),fH.so,fH.sl,fH.le,fH.cm,by
     rw [List.length_append,List.length_map,dB (mH (fH.el.lens (aA B)) (vH ((aA B).len uw) rfl)),List.length_set]
     rw [List.length_append,List.length_map,dB (fH.el.lens (aA B))] at je
     exact je⟩
   refine VO.jQ rfl rfl (fk Tryz.func76) rfl aa FO FQ (fun j hj=> ?_) (bB rfl) (fun Pu k21 b21=>wV rfl ?_)
   ·simp only [ax,AV.cQ,List.flatMap_cons,List.flatMap_nil,List.mem_append,List.mem_cons,List.not_mem_nil,or_false,List.append_nil] at hj
    rcases hj with rfl | rfl <;> (intro h;cases h)
   refine af ?_
   have hV4:dL (dz B) 5 Pu (nz - 1) (if qG=1 then gG else gG + 5) (qG - 1) (mQ++[.int .i64 (pp.1:Int),.bool s9,.slice p9 n9 c9,.bool t9,.slice y9 m9 d9]) Ae Np qt:=⟨by rw [FP];rfl,pT lO,by rw [List.all_append,gL.po];rfl,vM.kp (aO B) aR,gL.so,by omega,by omega,pU gL.fl⟩
   have sH:eb S F keep (rows:List aL).length ⟨q,rows,[]⟩ e=⟨qt,(rows++[ey S F q e]).modify pp.1 (fun r=>{ r with aq:=pp.2 }),[]⟩:=by
    rw [oN,zF,CX]
    exact if_pos hx
   refine af ?_
   refine VS.mO (bE _ _) rfl (fun wz β kz oz en=> ?_)
   obtain ⟨o1,o2⟩:=fj (en.own 198 _ _ rfl) 0 g rfl rfl
   have oR:=(en.own 52 _ _ rfl).cls
   rw [List.map_append,ag] at oR
   have nR:=gn hB eT (show dm 99 [g,vb,rb] w 52 (β 52) from (en.own 52 _ _ rfl).new)
   have oV:=(en.own 62 _ _ rfl).cls
   rw [eG,ag] at oV
   have nV:=gn hB eT (show dm 99 [g,vb,rb] w 62 (β 62) from (en.own 62 _ _ rfl).new)
   rw [sH]
   refine ⟨rfl,oz.1,[g,β 62,β 52],⟨fun b hb=> ?_,_,_,_,o2,?_⟩⟩
   ·simp only [List.mem_cons,List.not_mem_nil,or_false] at hb
    rcases hb with rfl | rfl | rfl
    ·exact xX
    ·exact nV
    ·exact nR
   ·exact .inr (.inr (.inl ⟨β 62,β 52,rfl,rfl,rfl,⟨_,_,_,_,_,_,rfl,oV,hV4.kp (aO B) aR⟩,⟨_,_,_,_,rfl,oR,(hR3.kp (aA B) aR).o β⟩⟩))
  ·refine VS.aQ rfl (by rw [Nq,beq_eq_false_iff_ne];omega) ?_
   have sH:eb S F keep (rows:List aL).length ⟨q,rows,[]⟩ e=⟨pp::qt,rows++[ey S F q e],[]⟩:=by
    rw [oN,zF,CX]
    exact if_neg hx
   refine af ?_
   refine VS.mO (bE _ _) rfl (fun wz β kz oz en=> ?_)
   obtain ⟨o1,o2⟩:=fj (en.own 198 _ _ rfl) 0 g rfl rfl
   have oR:=(en.own 52 _ _ rfl).cls
   rw [List.map_append,ag] at oR
   have nR:=gn hB eT (show dm 99 [g,vb,rb] w 52 (β 52) from (en.own 52 _ _ rfl).new)
   have oV:=(en.own 62 _ _ rfl).cls
   rw [ag] at oV
   have nV:=gn hB eT (show dm 99 [g,vb,rb] w 62 (β 62) from (en.own 62 _ _ rfl).new)
   rw [sH]
   refine ⟨rfl,oz.1,[g,β 62,β 52],⟨fun b hb=> ?_,_,_,_,o2,?_⟩⟩
   ·simp only [List.mem_cons,List.not_mem_nil,or_false] at hb
    rcases hb with rfl | rfl | rfl
    ·exact xX
    ·exact nV
    ·exact nR
   ·exact .inr (.inr (.inl ⟨β 62,β 52,rfl,rfl,rfl,⟨_,_,_,_,_,_,rfl,oV,gL.kp (aO B) aR⟩,⟨_,_,_,_,rfl,oR,(fH.kp (aA B) aR).o β⟩⟩))
 ·obtain ⟨s7,p7,n7,c7,t7,y7,m7,d7,rfl⟩:=q7.form
  refine wV rfl ?_
  refine af ?_
  obtain ⟨Qq,Hw⟩:∃ Qq,Qq=qI rows.length q (aw S F e.2 - ae e.1 (aw S F e.2)):=⟨_,rfl⟩
  rw [<-Hw] at hU1
  have CX:([]:List Uq)++qI rows.length q (aw S F e.2 - ae e.1 (aw S F e.2))=Qq:=Hw.symm
  have Cu:=hU1
  obtain ⟨u1,u2,u3⟩:=xh (q:=q) (m:=aw S F e.2 - ae e.1 (aw S F e.2)) (fun p hp=>⟨(Ad.el p hp).1,(Ad.el p hp).2.1⟩) g7 g8
  refine VO.call rfl rfl (fk Tryz.func16) (fun sB CP vo=>((fZ _ _ (ae e.1 (aw S F e.2)) (ur q (aw S F e.2 - ae e.1 (aw S F e.2))) kk kk sB (q4.ki (hK _ g1 dt dt)) (q7.ki (hK _ u1 dt dt)) aa aa).mono (fun o w2 h=>And.intro h vo.1.size)).mono ?_)
  rintro o w8 ⟨⟨r8,rfl,q8,qe⟩,CY⟩
  obtain ⟨s8,p8,n8,c8,t8,y8,m8,d8,rfl⟩:=q8.form
  refine ⟨_,rfl,qe,fun sC _ Kk=>wV rfl ?_⟩
  replace q8:=q8.mono (Nat.le_trans hB CY)
  refine af ?_
  have Sr:((0:Int):Rat)=0:=rfl
  have FK:eB B w8 [.bool s1,.slice p1 n1 c1,.bool t1,.slice y1 m1 d1,.bool s4,.slice p4 n4 c4,.bool t4,.slice y4 m4 d4,.bool s5,.slice p5 n5 c5,.bool t5,.slice y5 m5 d5,.bool s7,.slice p7 n7 c7,.bool t7,.slice y7 m7 d7,.bool s8,.slice p8 n8 c8,.bool t8,.slice y8 m8 d8,.bool s2,.slice p2 n2 c2,.bool t2,.slice y2 m2 d2,.bool s3,.slice p3 n3 c3,.bool t3,.slice y3 m3 d3] (ey S F q e):=⟨[.bool s1,.slice p1 n1 c1,.bool t1,.slice y1 m1 d1],[.bool s4,.slice p4 n4 c4,.bool t4,.slice y4 m4 d4],[.bool s5,.slice p5 n5 c5,.bool t5,.slice y5 m5 d5],[.bool s7,.slice p7 n7 c7,.bool t7,.slice y7 m7 d7],[.bool s8,.slice p8 n8 c8,.bool t8,.slice y8 m8 d8],[.bool s2,.slice p2 n2 c2,.bool t2,.slice y2 m2 d2],[.bool s3,.slice p3 n3 c3,.bool t3,.slice y3 m3 d3],rfl,⟨_,_,_,_,_,_,_,_,rfl,q1.k⟩,⟨_,_,_,_,_,_,_,_,rfl,q4.k⟩,⟨_,_,_,_,_,_,_,_,rfl,q5.k⟩,⟨_,_,_,_,_,_,_,_,rfl,q7.k⟩,⟨_,_,_,_,_,_,_,_,rfl,q8.k⟩,⟨_,_,_,_,_,_,_,_,rfl,q2.k⟩,⟨_,_,_,_,_,_,_,_,rfl,q3.k⟩⟩
  obtain ⟨jE,jW⟩:=hR.el.ok (aA B)
  have pc:=hR.len
  refine VO.app (bE _ _) (t:=33) (e:=eh) (sz:=28) (n:=nr) (c:=cr) (mm:=1) (known:=kG.flatten.map .val) (spare:=nt.map .val) (del:=some 200) (news:=([.bool s1,.slice p1 n1 c1,.bool t1,.slice y1 m1 d1,.bool s4,.slice p4 n4 c4,.bool t4,.slice y4 m4 d4,.bool s5,.slice p5 n5 c5,.bool t5,.slice y5 m5 d5,.bool s7,.slice p7 n7 c7,.bool t7,.slice y7 m7 d7,.bool s8,.slice p8 n8 c8,.bool t8,.slice y8 m8 d8,.bool s2,.slice p2 n2 c2,.bool t2,.slice y2 m2 d2,.bool s3,.slice p3 n3 c3,.bool t3,.slice y3 m3 d3]:List Value).map .val) (dst:=52) rfl rfl rfl rfl rfl rfl rfl rfl (bB rfl) rfl (.inr ⟨200,rfl,congrArg (fun l=>some (eh,l)) (List.map_append ..),rfl⟩) (.inl rfl) (by rw [List.length_map,jW,pc]) (by rw [<-List.map_append,List.length_map];exact hR.fl) hR.le hR.cm ⟨ai _,ai _,rfl⟩ ⟨bg jE,bg hR.so,rfl⟩ rfl aa
   (fun w1 β k1 b1 ho=>⟨_,_,rfl,.inr ⟨β 51,0,rfl,de (rest:=[]) (ho.own 51 (.base (List.mem_append_right _ (List.mem_singleton.2 rfl))) _ _ rfl) rfl⟩⟩)
   (fun rB iD oc ρ Ni Nj fF iI iQ ez FL jR=>VO.dG 199 rfl (cL (ai _) _ _) (VO.dG 36 rfl (cL (ai _) _ _) (wV rfl ?_)))
  (repeat (first | refine wN ?_ | refine wP rfl ?_ | refine DY rfl ?_ | refine wO rfl rfl ?_))
  obtain ⟨qK,vJ⟩:∃ qK,qK=nr + 1:=⟨_,rfl⟩
  obtain ⟨tZ,vK⟩:∃ tZ,tZ=(kG++[[.bool s1,.slice p1 n1 c1,.bool t1,.slice y1 m1 d1,.bool s4,.slice p4 n4 c4,.bool t4,.slice y4 m4 d4,.bool s5,.slice p5 n5 c5,.bool t5,.slice y5 m5 d5,.bool s7,.slice p7 n7 c7,.bool t7,.slice y7 m7 d7,.bool s8,.slice p8 n8 c8,.bool t8,.slice y8 m8 d8,.bool s2,.slice p2 n2 c2,.bool t2,.slice y2 m2 d2,.bool s3,.slice p3 n3 c3,.bool t3,.slice y3 m3 d3]]:List (List Value)):=⟨_,rfl⟩
  have fH:qy (eB B) 28 rB qK iD tZ oc (rows++[ey S F q e]):=by rw [vJ,vK];exact ⟨by rw [pc,List.length_append];rfl,(hR.el.kp (aA B) aR).snoc ((aA B).kp FK aR),FL,jR,iI,iQ,by simpa using ez⟩
  refine VS.narrow [(0,.box 198 0),(2,.val (.int .i64 ((rows:List aL).length:Int))),(5,.box 5 0),(8,.box 8 0)] [(198,(Runner,[.row 199 SZ nq1 cq1,.row 52 0 qK iD,.row 36 0 un uc])),(52,(eh,tZ.flatten.map AV.val++oc)),(5,(28,([.bool sS,.slice pS nS cS,.bool tS,.slice yS mS dS,.bool sF,.slice pF nF cF,.bool tF,.slice yF mF dF,.int .i64 (keep:Int)]:List Value).map AV.val)),(8,(eh,([.bool s1,.slice p1 n1 c1,.bool t1,.slice y1 m1 d1,.bool s4,.slice p4 n4 c4,.bool t4,.slice y4 m4 d4,.bool s5,.slice p5 n5 c5,.bool t5,.slice y5 m5 d5,.bool s7,.slice p7 n7 c7,.bool t7,.slice y7 m7 d7,.bool s8,.slice p8 n8 c8,.bool t8,.slice y8 m8 d8,.bool s2,.slice p2 n2 c2,.bool t2,.slice y2 m2 d2,.bool s3,.slice p3 n3 c3,.bool t3,.slice y3 m3 d3]:List Value).map AV.val)),(199,(dD,(Ta++(Tb.flatten++Tc)).map AV.val)),(36,(fm,(vsu1.flatten++spu1).map AV.val))] ⟨rfl,rfl,rfl,rfl,trivial⟩ ⟨by rw [vJ];rfl,by rw [vK];exact congrArg (fun l=>some (eh,l++oc)) cA,rfl,rfl,rfl,rfl,trivial⟩ rfl ⟨.lit rfl,.append (.vals _) (.none jR),.vals _,.vals _,.vals _,.vals _,trivial⟩ ?_
  refine VS.draw (bE _ _) (lV _ _) [1000000 + 74] (by kernel_rfl) (VO.run 80 rfl ?_)
  have Td:nq1≤1000:=by rw [hV1.len];have:=(BS rows.length q (aw S F e.2 - ae e.1 (aw S F e.2))).2;omega
  refine VO.BM (B:=B) (v:=199) (d2:=62) (d:=e.1 - ae e.1 (aw S F e.2)) (q:=nd q (aw S F e.2 - ae e.1 (aw S F e.2))) kk rfl rfl rfl (fk Tryz.func74) rfl rfl rfl (by show 62 < 2 * 99;omega) bV (fun j hj=> ?_) rfl (fun sR LJ Nm=>hV1.kp (aO B) aR) (fun sR LJ Nm=>q5.kr) (hK _ g4 dt dt) Ee Td hB (fun CZ gG nz qG mQ Nn Np ρ19 k19 b19 gL=> ?_)
  ·have:j=52\/j=36:=by simpa [ax,AV.cQ] using hj
   rcases this with rfl | rfl <;> exact ⟨(by intro h;cases h),by decide⟩
  obtain ⟨q2,vL⟩:∃ q2:List Vq,q2=mP rows.length (e.1 - ae e.1 (aw S F e.2)) (nd q (aw S F e.2 - ae e.1 (aw S F e.2))):=⟨_,rfl⟩
  rw [<-vL] at gL
  have zF:=vL.symm
  refine VO.dG 52 rfl (cL (by rw [cR,ai,jR];rfl) _ _) (VO.dG 36 rfl (cL (ai _) _ _) (wV rfl ?_))
  refine af ?_
  by_cases nY:nz=0
  ·refine VO.dT (x:=.row 62 gG nz qG) (p:=fun _=>none) (c:=qG) rfl (fun β=>.inr ⟨_,congrArg (fun n=>Value.slice (some ⟨β 62,gG,none⟩) n qG) nY⟩) rfl (fk Tryz.func75) rfl (fun Km SS SV=>wV rfl ?_)
   refine af ?_
   have FM:q2=[]:=List.eq_nil_of_length_eq_zero (by rw [<-gL.len];exact nY)
   have sH:eb S F keep (rows:List aL).length ⟨q,rows,[]⟩ e=⟨q2,rows++[ey S F q e],Qq⟩:=by rw [oN,zF,CX,FM];rfl
   refine af ?_
   refine VS.mO (bE _ _) rfl (fun wz β kz oz en=> ?_)
   obtain ⟨o1,o2⟩:=fj (en.own 198 _ _ rfl) 0 g rfl rfl
   have oR:=(en.own 52 _ _ rfl).cls
   rw [List.map_append,ag] at oR
   have nR:=gn hB eT (show dm 99 [g,vb,rb] w 52 (β 52) from (en.own 52 _ _ rfl).new)
   have oV:=(en.own 62 _ _ rfl).cls
   rw [ag] at oV
   have nV:=gn hB eT (show dm 99 [g,vb,rb] w 62 (β 62) from (en.own 62 _ _ rfl).new)
   have oU:=(en.own 36 _ _ rfl).cls
   rw [ag] at oU
   have nU:=gn hB eT (show dm 99 [g,vb,rb] w 36 (β 36) from (en.own 36 _ _ rfl).new)
   rw [sH]
   refine ⟨rfl,oz.1,[g,β 62,β 52,β 36],⟨fun b hb=> ?_,_,_,_,o2,?_⟩⟩
   ·simp only [List.mem_cons,List.not_mem_nil,or_false] at hb
    rcases hb with rfl | rfl | rfl | rfl
    ·exact xX
    ·exact nV
    ·exact nR
    ·exact nU
   ·exact .inr (.inr (.inr ⟨β 62,β 52,β 36,rfl,⟨_,_,_,_,_,_,rfl,oV,gL.kp (aO B) aR⟩,⟨_,_,_,_,rfl,oR,(fH.kp (aA B) aR).o β⟩,⟨_,_,_,_,rfl,oU,Cu.kp (dR B) aR⟩⟩))
  obtain ⟨pp,qt,zO⟩:∃ pp qt,q2=pp::qt:=by
   cases q2 with
   | nil=>exact absurd gL.len nY
   | cons pp qt=>exact ⟨pp,qt,rfl⟩
  subst zO
  obtain ⟨FN,Ae,rfl,hE4,vM⟩:∃ FN Ae,Nn=FN::Ae/\dz B CZ FN pp/\ck (dz B) CZ qt Ae:=by
   have:=gL.el
   cases this with
   | cons h1 h2=>exact ⟨_,_,rfl,h1,h2⟩
  obtain ⟨s9,p9,n9,c9,t9,y9,m9,d9,rfl,Ps⟩:=hE4
  have FO:=gL.le
  have FP:=gL.len
  have FQ:=gL.cm
  have lO:mQ.length=gG:=gL.pl.resolve_right aa
  refine VO.dA rfl rfl (fk Tryz.func75) rfl nY (by intro h;cases h) (fun Km SS SV=>wV rfl ?_)
  refine af ?_
  refine VO.cT rfl (([.int .i64 (pp.1:Int)]:List Value).map .val) rfl (bD lO 0 _ ⟨_,rfl⟩) (wV rfl ?_)
  refine af ?_
  have Nq:IntKind.i64.wrap (((rows:List aL).length:Int) - (keep:Int))=((rows:List aL).length:Int) - (keep:Int):=IntWalk.i64_in _ aa
  by_cases hx:pp.1 + keep=(rows:List aL).length
  ·refine VS.aP rfl (by rw [Nq,beq_iff_eq];omega) ?_
   refine af ?_
   refine VO.cT rfl (([.int .i64 (pp.1:Int)]:List Value).map .val) rfl (bD lO 0 _ ⟨_,rfl⟩) (wV rfl ?_)
   refine af ?_
   refine VO.cT rfl (([.bool s9,.slice p9 n9 c9,.bool t9,.slice y9 m9 d9]:List Value).map .val) rfl (bD lO 1 _ ⟨[],rfl⟩) (wV rfl ?_)
   refine af ?_
   have gp:=fH.len
   have DT:pp.1 < qK:=by rw [gp,List.length_append,List.length_singleton];omega
   refine VO.cond rfl du (wV rfl ?_)
   obtain ⟨rq,Ep⟩:∃ rq,(rows++[ey S F q e])[pp.1]? =some rq:=⟨_,List.getElem?_eq_getElem (by rw [<-gp];exact DT)⟩
   obtain ⟨yw,qz,uw⟩:=fH.el.at pp.1 rq Ep
   have je:=fH.fl
   have Pt:=fH.le
   refine VO.cond rfl (by show 0 + ((pp.1:Int)).toNat * 28 + 20 + 4≤_;rw [je,Int.toNat_natCast];omega) (VO.dG 52 rfl (mG (new:=[.bool s9,.slice p9 n9 c9,.bool t9,.slice y9 m9 d9]) (o:=20) (fH.el.lens (aA B)) qz (bB rfl)) (wV rfl ?_))
   refine af ?_
   have hR3:qy (eB B) 28 Km qK iD (tZ.set pp.1 (yw.take 20++([.bool s9,.slice p9 n9 c9,.bool t9,.slice y9 m9 d9]++yw.drop (20 + ([.bool s9,.slice p9 n9 c9,.bool t9,.slice y9 m9 d9]:List Value).length)))) oc ((rows++[ey S F q e]).modify pp.1 (fun r=>{ r with aq:=pp.2 })):=
    ⟨by rw [List.length_modify];exact gp,by rw [ek Ep];exact (fH.el.kp (aA B) aR).set (rL ((aA B).kp uw aR) ⟨_,_,_,_,_,_,_,_,rfl,Ps.kp aR⟩),fH.so,fH.sl,fH.le,fH.cm,by
     rw [List.length_append,List.length_map,dB (mH (fH.el.lens (aA B)) (vH ((aA B).len uw) rfl)),List.length_set]
     rw [List.length_append,List.length_map,dB (fH.el.lens (aA B))] at je
     exact je⟩
   refine VO.jQ rfl rfl (fk Tryz.func76) rfl aa FO FQ (fun j hj=> ?_) (bB rfl) (fun Pu k21 b21=>wV rfl ?_)
   ·simp only [ax,AV.cQ,List.flatMap_cons,List.flatMap_nil,List.mem_append,List.mem_cons,List.not_mem_nil,or_false,List.append_nil] at hj
    rcases hj with rfl | rfl | rfl <;> (intro h;cases h)
   refine af ?_
   have hV4:dL (dz B) 5 Pu (nz - 1) (if qG=1 then gG else gG + 5) (qG - 1) (mQ++[.int .i64 (pp.1:Int),.bool s9,.slice p9 n9 c9,.bool t9,.slice y9 m9 d9]) Ae Np qt:=⟨by rw [FP];rfl,pT lO,by rw [List.all_append,gL.po];rfl,vM.kp (aO B) aR,gL.so,by omega,by omega,pU gL.fl⟩
   have sH:eb S F keep (rows:List aL).length ⟨q,rows,[]⟩ e=⟨qt,(rows++[ey S F q e]).modify pp.1 (fun r=>{ r with aq:=pp.2 }),Qq⟩:=by
    rw [oN,zF,CX]
    exact if_pos hx
   refine af ?_
   refine VS.mO (bE _ _) rfl (fun wz β kz oz en=> ?_)
   obtain ⟨o1,o2⟩:=fj (en.own 198 _ _ rfl) 0 g rfl rfl
   have oR:=(en.own 52 _ _ rfl).cls
   rw [List.map_append,ag] at oR
   have nR:=gn hB eT (show dm 99 [g,vb,rb] w 52 (β 52) from (en.own 52 _ _ rfl).new)
   have oV:=(en.own 62 _ _ rfl).cls
   rw [eG,ag] at oV
   have nV:=gn hB eT (show dm 99 [g,vb,rb] w 62 (β 62) from (en.own 62 _ _ rfl).new)
   have oU:=(en.own 36 _ _ rfl).cls
   rw [ag] at oU
   have nU:=gn hB eT (show dm 99 [g,vb,rb] w 36 (β 36) from (en.own 36 _ _ rfl).new)
   rw [sH]
   refine ⟨rfl,oz.1,[g,β 62,β 52,β 36],⟨fun b hb=> ?_,_,_,_,o2,?_⟩⟩
   ·simp only [List.mem_cons,List.not_mem_nil,or_false] at hb
    rcases hb with rfl | rfl | rfl | rfl
    ·exact xX
    ·exact nV
    ·exact nR
    ·exact nU
   ·exact .inr (.inr (.inr ⟨β 62,β 52,β 36,rfl,⟨_,_,_,_,_,_,rfl,oV,hV4.kp (aO B) aR⟩,⟨_,_,_,_,rfl,oR,(hR3.kp (aA B) aR).o β⟩,⟨_,_,_,_,rfl,oU,Cu.kp (dR B) aR⟩⟩))
  ·refine VS.aQ rfl (by rw [Nq,beq_eq_false_iff_ne];omega) ?_
   have sH:eb S F keep (rows:List aL).length ⟨q,rows,[]⟩ e=⟨pp::qt,rows++[ey S F q e],Qq⟩:=by
    rw [oN,zF,CX]
    exact if_neg hx
   refine af ?_
   refine VS.mO (bE _ _) rfl (fun wz β kz oz en=> ?_)
   obtain ⟨o1,o2⟩:=fj (en.own 198 _ _ rfl) 0 g rfl rfl
   have oR:=(en.own 52 _ _ rfl).cls
   rw [List.map_append,ag] at oR
   have nR:=gn hB eT (show dm 99 [g,vb,rb] w 52 (β 52) from (en.own 52 _ _ rfl).new)
   have oV:=(en.own 62 _ _ rfl).cls
   rw [ag] at oV
   have nV:=gn hB eT (show dm 99 [g,vb,rb] w 62 (β 62) from (en.own 62 _ _ rfl).new)
   have oU:=(en.own 36 _ _ rfl).cls
   rw [ag] at oU
   have nU:=gn hB eT (show dm 99 [g,vb,rb] w 36 (β 36) from (en.own 36 _ _ rfl).new)
   rw [sH]
   refine ⟨rfl,oz.1,[g,β 62,β 52,β 36],⟨fun b hb=> ?_,_,_,_,o2,?_⟩⟩
   ·simp only [List.mem_cons,List.not_mem_nil,or_false] at hb
    rcases hb with rfl | rfl | rfl | rfl
    ·exact xX
    ·exact nV
    ·exact nR
    ·exact nU
   ·exact .inr (.inr (.inr ⟨β 62,β 52,β 36,rfl,⟨_,_,_,_,_,_,rfl,oV,gL.kp (aO B) aR⟩,⟨_,_,_,_,rfl,oR,(fH.kp (aA B) aR).o β⟩,⟨_,_,_,_,rfl,oU,Cu.kp (dR B) aR⟩⟩))
set_option maxRecDepth 4000
set_option maxRecDepth 4000 in
theorem iYear_D {B g keep D kk ks:Nat} {M S F:Rat} {e:Rat×Rat} {vb off nq cq:Nat} {pre SX:List Value} {SY:List (List Value)} {rb nr cr:Nat} {kG:List (List Value)} {nt:List Value} {ub nu cu:Nat} {xj:List (List Value)} {xY:List Value} {q:List Vq} {rows:List aL} {uses:List Uq} {v u:Value} {w:World} (hg:aZ w g Runner #[.slice (some ⟨vb,off,none⟩) nq cq,.slice (some ⟨rb,0,none⟩) nr cr,.slice (some ⟨ub,0,none⟩) nu cu]) (GJ:aZ w vb dD (pre++(SY.flatten++SX)).toArray) (hV:dL (dz B) 5 w nq off cq pre SY SX q) (Er:aZ w rb eh (kG.flatten++nt).toArray) (hR:dL (eB B) 28 w nr 0 cr [] kG nt rows) (hcU:aZ w ub fm (xj.flatten++xY).toArray) (hU:dL (qw B) 6 w nu 0 cu [] xj xY uses)
  (yv:LD w v S F keep ks) (Qo:YrV w u e ks) (vI:1≤ks) (CW:ks≤kk) (Ee:kk≤100000) (Eo:Iz D (aw S F e.2)) (tY:aw S F e.2≤M) (Qp:Iz D e.1) (iV: -M≤e.1) (GI:e.1≤M) (hK:∀ x,Iz D x->-(M + M)≤x->x≤M + M->eM x kk)
  (Ad:BU D M ⟨q,rows,uses⟩) (xW:(rows:List aL).length≤64) (sZ:keep≤40) (hB:B≤w.heap.size) (eT:∀ b∈[g,vb,rb,ub],B≤b):
  Calls Tryz.prog 39 #[.pointer (some ⟨g,0,none⟩),v,.int .i64 ((rows:List aL).length:Int),u] w fun o w'=>o=.returned (iX [])/\tB [g,vb,rb,ub] w w'/\∃ SR,qk B w' g SR (eb S F keep (rows:List aL).length ⟨q,rows,uses⟩ e):=by
 have hL0:=lN S F e.2
 have hM0:0≤M:=by grind
 obtain ⟨g1,g2,g3,g4,g5,g6,g7,g8,g9⟩:=np Eo hL0 tY Qp iV GI
 have xX:B≤g:=eT g cA
 have hlen:=Ad.len
 obtain ⟨sS,pS,nS,cS,tS,yS,mS,dS,sF,pF,nF,cF,tF,yF,mF,dF,rfl,hS,hF⟩:=yv
 obtain ⟨sN,pN,nN,cN,tN,yN,mN,dN,sE,pE,nE,cE,tE,yE,mE,dE,rfl,hN,hE⟩:=Qo
 have lD:q.length≤1000:=by dsimp only at hlen;omega
 have FI:uses.length≤1000:=by dsimp only at hlen;omega
 have sG:jZ (KU UU) 99 [g,vb,rb,ub] [(Runner,[.row 199 off nq cq,.row 200 0 nr cr,.row 201 0 nu cu]),(dD,(pre++(SY.flatten++SX)).map .val),(eh,(kG.flatten++nt).map .val),(fm,(xj.flatten++xY).map .val)] w:=by
  have Pv:g≠vb:=fun e=>by subst e;exact absurd (bM hg GJ) bV
  have h02:g≠rb:=fun e=>by subst e;exact absurd (bM hg Er) bV
  have h03:g≠ub:=fun e=>by subst e;exact absurd (bM hg hcU) bV
  have Ed:vb≠rb:=fun e=>by subst e;exact absurd (bM GJ Er) bV
  have h13:vb≠ub:=fun e=>by subst e;exact absurd (bM GJ hcU) bV
  have h23:rb≠ub:=fun e=>by subst e;exact absurd (bM Er hcU) bV
  refine ⟨rfl,by simp [Pv,h02,h03,Ed,h13,h23],fun j g' c' hj hc=> ?_,fun c' hc=> ?_,fun c' hc k hk=> ?_⟩
  ·match j,hj,hc with
   | 0,hj,hc=>cases hj;cases hc;exact hg
   | 1,hj,hc=>cases hj;cases hc;rw [ag];exact GJ
   | 2,hj,hc=>cases hj;cases hc;rw [ag];exact Er
   | 3,hj,hc=>cases hj;cases hc;rw [ag];exact hcU
   | j + 4,hj,_=>simp at hj
  ·simp only [List.mem_cons,List.not_mem_nil,or_false] at hc
   rcases hc with rfl | rfl | rfl | rfl
   ·exact ⟨rfl,rfl⟩
   ·exact ⟨rfl,bg (hV.all (aO B))⟩
   ·exact ⟨rfl,bg (hR.all (aA B))⟩
   ·exact ⟨rfl,bg (hU.all (dR B))⟩
  ·simp only [List.mem_cons,List.not_mem_nil,or_false] at hc
   rcases hc with rfl | rfl | rfl | rfl
   ·have:k=199\/k=200\/k=201:=by simpa [ax,AV.cQ] using hk
    rcases this with rfl | rfl | rfl
    ·exact ⟨by omega,by show 199 < 2 * 99 + 4;omega⟩
    ·exact ⟨by omega,by show 200 < 2 * 99 + 4;omega⟩
    ·exact ⟨by omega,by show 201 < 2 * 99 + 4;omega⟩
   ·rw [ai] at hk;cases hk
   ·rw [ai] at hk;cases hk
   ·rw [ai] at hk;cases hk
 refine fi Tryz.prog w _ (KU UU) (fun t=>Nat.beq t 22) table (fun _ _=>trivial) (ad:=[g,vb,rb,ub]) (us:=[_,_,_]) Tryz.func39 rfl Tryz.ntmps39 (bB rfl) sG (bB rfl) ?_
 refine af ?_
 refine VO.call rfl rfl (fk Tryz.func70) (fun bF cU bJ=>((pW _ _ S F keep e ks bF ⟨_,_,_,_,_,_,_,_,_,_,_,_,_,_,_,_,rfl,hS.k,hF.k⟩ ⟨_,_,_,_,_,_,_,_,_,_,_,_,_,_,_,_,rfl,hN.k,hE.k⟩ vI aa).mono (fun o w2 h=>And.intro h bJ.1.size)).mono ?_)
 rintro o w1 ⟨⟨r1,rfl,q1,aK⟩,LG⟩
 obtain ⟨s1,p1,n1,c1,t1,y1,m1,d1,rfl⟩:=q1.form
 refine ⟨_,rfl,aK,fun dC _ bb1=>wV rfl ?_⟩
 replace q1:=q1.mono (Nat.le_trans hB LG)
 refine af ?_
 refine VO.call rfl rfl (fk Tryz.func44) (fun cK eg di=>((cd 0 cK aa aa).mono (fun o w2 h=>And.intro h di.1.size)).mono ?_)
 rintro o w2 ⟨⟨r2,rfl,q2,ba⟩,tW⟩
 obtain ⟨s2,p2,n2,c2,t2,y2,m2,d2,rfl⟩:=q2.form
 refine ⟨_,rfl,ba,fun ed _ bb2=>wV rfl ?_⟩
 replace q2:=q2.mono (Nat.le_trans hB tW)
 refine af ?_
 refine VO.call rfl rfl (fk Tryz.func44) (fun fh fE fG=>((cd 0 fh aa aa).mono (fun o w2 h=>And.intro h fG.1.size)).mono ?_)
 rintro o w3 ⟨⟨r3,rfl,q3,cG⟩,CV⟩
 obtain ⟨s3,p3,n3,c3,t3,y3,m3,d3,rfl⟩:=q3.form
 refine ⟨_,rfl,cG,fun gT _ bb3=>wV rfl ?_⟩
 replace q3:=q3.mono (Nat.le_trans hB CV)
 refine af ?_
 refine VO.eK rfl (fk Tryz.func71) (fun iP β jT jX ho=>((gV _ _ e.1 [aw S F e.2] kk iP ((hN.k).up aa) (cX (ho.own 20 (.base (List.mem_singleton.2 rfl)) _ _ rfl) [] (vs:=[[.bool s1,.slice p1 n1 c1,.bool t1,.slice y1 m1 d1]]) (by rfl) rfl (bq.cons (q1.ki (hK _ Eo dt dt)) bq.nil) (bB rfl) bV) aa (bB rfl)).mono (fun o w2 h=>And.intro h jX.1.size)).mono ?_)
 rintro o w4 ⟨⟨r4,rfl,q4,z4,eV⟩,LH⟩
 rw [eF] at q4
 obtain ⟨s4,p4,n4,c4,t4,y4,m4,d4,rfl⟩:=q4.form
 refine ⟨_,rfl,eV,fun lh _ sT=>wV rfl ?_⟩
 replace q4:=q4.mono (Nat.le_trans hB LH)
 refine af ?_
 refine VO.call rfl rfl (fk Tryz.func72) (fun gf jl gD=>((cZ _ _ e.1 (ae e.1 (aw S F e.2)) kk kk gf ((hN.k).up aa) (q4.ki (hK _ g1 dt dt)) aa aa).mono (fun o w2 h=>And.intro h gD.1.size)).mono ?_)
 rintro o w5 ⟨⟨r5,rfl,q5,eE⟩,pV⟩
 obtain ⟨s5,p5,n5,c5,t5,y5,m5,d5,rfl⟩:=q5.form
 refine ⟨_,rfl,eE,fun jy _ qi=>wV rfl ?_⟩
 replace q5:=q5.mono (Nat.le_trans hB pV)
 refine af ?_
 refine VO.call rfl rfl (fk Tryz.func72) (fun gj kx iz=>((cZ _ _ (aw S F e.2) (ae e.1 (aw S F e.2)) kk kk gj (q1.ki (hK _ Eo dt dt)) (q4.ki (hK _ g1 dt dt)) aa aa).mono (fun o w2 h=>And.intro h iz.1.size)).mono ?_)
 rintro o w6 ⟨⟨r6,rfl,q6,fx⟩,LI⟩
 obtain ⟨s6,p6,n6,c6,t6,y6,m6,d6,rfl⟩:=q6.form
 refine ⟨_,rfl,fx,fun jz _ oX=>wV rfl ?_⟩
 replace q6:=q6.mono (Nat.le_trans hB LI)
 refine af ?_
 have oN:eb S F keep (rows:List aL).length ⟨q,rows,uses⟩ e=vB keep (rows:List aL).length ⟨mP (rows:List aL).length (e.1 - ae e.1 (aw S F e.2)) (nd q (aw S F e.2 - ae e.1 (aw S F e.2))),rows++[ey S F q e],uses++qI (rows:List aL).length q (aw S F e.2 - ae e.1 (aw S F e.2))⟩:=rfl
 refine VO.JB (u:=201) (us0:=uses) (B:=B) (D:=D) (v:=199) (d2:=36) (M:=M + M) (mm:=aw S F e.2 - ae e.1 (aw S F e.2)) (q:=q) kk rfl rfl rfl (fk Tryz.func73) rfl rfl rfl (fun sR LJ Nm=>hU.kp (dR B) aR) FI bV bV rfl (by show 36 < 2 * 99;omega) bV rfl (fun _=>rfl) (fun j hj=> ?_) rfl (fun sR LJ Nm=>hV.kp (aO B) aR) (fun sR LJ Nm=>q6.kr) g7 g8 g9 (fun p hp=>⟨(Ad.el p hp).1,(Ad.el p hp).2.1,(Ad.el p hp).2.2.1⟩) (fun x h1 h2 h3=>hK x h1 dt h3) Ee lD hB (fun w7 r7 SZ nq1 cq1 Ta Tb Tc un uc vsu1 spu1 ρ7 k7 b7 q7 hV1 hU1=> ?_)
 ·have:j=200:=by simpa [ax,AV.cQ] using hj
  subst this;exact ⟨(by intro h;cases h),by decide⟩
 obtain ⟨s7,p7,n7,c7,t7,y7,m7,d7,rfl⟩:=q7.form
 refine VO.dG 200 rfl (cL (ai _) _ _) (wV rfl ?_)
 refine af ?_
 obtain ⟨Qq,Hw⟩:∃ Qq,Qq=uses++qI rows.length q (aw S F e.2 - ae e.1 (aw S F e.2)):=⟨_,rfl⟩
 rw [<-Hw] at hU1
 have CX:=Hw.symm
 have Cu:=hU1
 obtain ⟨u1,u2,u3⟩:=xh (q:=q) (m:=aw S F e.2 - ae e.1 (aw S F e.2)) (fun p hp=>⟨(Ad.el p hp).1,(Ad.el p hp).2.1⟩) g7 g8
 refine VO.call rfl rfl (fk Tryz.func16) (fun sB CP vo=>((fZ _ _ (ae e.1 (aw S F e.2)) (ur q (aw S F e.2 - ae e.1 (aw S F e.2))) kk kk sB (q4.ki (hK _ g1 dt dt)) (q7.ki (hK _ u1 dt dt)) aa aa).mono (fun o w2 h=>And.intro h vo.1.size)).mono ?_)
 rintro o w8 ⟨⟨r8,rfl,q8,qe⟩,CY⟩
 obtain ⟨s8,p8,n8,c8,t8,y8,m8,d8,rfl⟩:=q8.form
 refine ⟨_,rfl,qe,fun sC _ Kk=>wV rfl ?_⟩
 replace q8:=q8.mono (Nat.le_trans hB CY)
 refine af ?_
 have Sr:((0:Int):Rat)=0:=rfl
 have FK:eB B w8 [.bool s1,.slice p1 n1 c1,.bool t1,.slice y1 m1 d1,.bool s4,.slice p4 n4 c4,.bool t4,.slice y4 m4 d4,.bool s5,.slice p5 n5 c5,.bool t5,.slice y5 m5 d5,.bool s7,.slice p7 n7 c7,.bool t7,.slice y7 m7 d7,.bool s8,.slice p8 n8 c8,.bool t8,.slice y8 m8 d8,.bool s2,.slice p2 n2 c2,.bool t2,.slice y2 m2 d2,.bool s3,.slice p3 n3 c3,.bool t3,.slice y3 m3 d3] (ey S F q e):=⟨[.bool s1,.slice p1 n1 c1,.bool t1,.slice y1 m1 d1],[.bool s4,.slice p4 n4 c4,.bool t4,.slice y4 m4 d4],[.bool s5,.slice p5 n5 c5,.bool t5,.slice y5 m5 d5],[.bool s7,.slice p7 n7 c7,.bool t7,.slice y7 m7 d7],[.bool s8,.slice p8 n8 c8,.bool t8,.slice y8 m8 d8],[.bool s2,.slice p2 n2 c2,.bool t2,.slice y2 m2 d2],[.bool s3,.slice p3 n3 c3,.bool t3,.slice y3 m3 d3],rfl,⟨_,_,_,_,_,_,_,_,rfl,q1.k⟩,⟨_,_,_,_,_,_,_,_,rfl,q4.k⟩,⟨_,_,_,_,_,_,_,_,rfl,q5.k⟩,⟨_,_,_,_,_,_,_,_,rfl,q7.k⟩,⟨_,_,_,_,_,_,_,_,rfl,q8.k⟩,⟨_,_,_,_,_,_,_,_,rfl,q2.k⟩,⟨_,_,_,_,_,_,_,_,rfl,q3.k⟩⟩
 obtain ⟨jE,jW⟩:=hR.el.ok (aA B)
 have pc:=hR.len
 refine VO.app (bE _ _) (t:=33) (e:=eh) (sz:=28) (n:=nr) (c:=cr) (mm:=1) (known:=kG.flatten.map .val) (spare:=nt.map .val) (del:=some 200) (news:=([.bool s1,.slice p1 n1 c1,.bool t1,.slice y1 m1 d1,.bool s4,.slice p4 n4 c4,.bool t4,.slice y4 m4 d4,.bool s5,.slice p5 n5 c5,.bool t5,.slice y5 m5 d5,.bool s7,.slice p7 n7 c7,.bool t7,.slice y7 m7 d7,.bool s8,.slice p8 n8 c8,.bool t8,.slice y8 m8 d8,.bool s2,.slice p2 n2 c2,.bool t2,.slice y2 m2 d2,.bool s3,.slice p3 n3 c3,.bool t3,.slice y3 m3 d3]:List Value).map .val) (dst:=52) rfl rfl rfl rfl rfl rfl rfl rfl (bB rfl) rfl (.inr ⟨200,rfl,congrArg (fun l=>some (eh,l)) (List.map_append ..),rfl⟩) (.inl rfl) (by rw [List.length_map,jW,pc]) (by rw [<-List.map_append,List.length_map];exact hR.fl) hR.le hR.cm ⟨ai _,ai _,rfl⟩ ⟨bg jE,bg hR.so,rfl⟩ rfl aa
  (fun w1 β k1 b1 ho=>⟨_,_,rfl,.inr ⟨β 51,0,rfl,de (rest:=[]) (ho.own 51 (.base (List.mem_append_right _ (List.mem_singleton.2 rfl))) _ _ rfl) rfl⟩⟩)
  (fun rB iD oc ρ Ni Nj fF iI iQ ez FL jR=>VO.dG 199 rfl (cL (ai _) _ _) (VO.dG 36 rfl (cL (ai _) _ _) (wV rfl ?_)))
 (repeat (first | refine wN ?_ | refine wP rfl ?_ | refine DY rfl ?_ | refine wO rfl rfl ?_))
 obtain ⟨qK,vJ⟩:∃ qK,qK=nr + 1:=⟨_,rfl⟩
 obtain ⟨tZ,vK⟩:∃ tZ,tZ=(kG++[[.bool s1,.slice p1 n1 c1,.bool t1,.slice y1 m1 d1,.bool s4,.slice p4 n4 c4,.bool t4,.slice y4 m4 d4,.bool s5,.slice p5 n5 c5,.bool t5,.slice y5 m5 d5,.bool s7,.slice p7 n7 c7,.bool t7,.slice y7 m7 d7,.bool s8,.slice p8 n8 c8,.bool t8,.slice y8 m8 d8,.bool s2,.slice p2 n2 c2,.bool t2,.slice y2 m2 d2,.bool s3,.slice p3 n3 c3,.bool t3,.slice y3 m3 d3]]:List (List Value)):=⟨_,rfl⟩
 have fH:qy (eB B) 28 rB qK iD tZ oc (rows++[ey S F q e]):=by rw [vJ,vK];exact ⟨by rw [pc,List.length_append];rfl,(hR.el.kp (aA B) aR).snoc ((aA B).kp FK aR),FL,jR,iI,iQ,by simpa using ez⟩
 refine VS.narrow [(0,.box 198 0),(2,.val (.int .i64 ((rows:List aL).length:Int))),(5,.box 5 0),(8,.box 8 0)] [(198,(Runner,[.row 199 SZ nq1 cq1,.row 52 0 qK iD,.row 36 0 un uc])),(52,(eh,tZ.flatten.map AV.val++oc)),(5,(28,([.bool sS,.slice pS nS cS,.bool tS,.slice yS mS dS,.bool sF,.slice pF nF cF,.bool tF,.slice yF mF dF,.int .i64 (keep:Int)]:List Value).map AV.val)),(8,(eh,([.bool s1,.slice p1 n1 c1,.bool t1,.slice y1 m1 d1,.bool s4,.slice p4 n4 c4,.bool t4,.slice y4 m4 d4,.bool s5,.slice p5 n5 c5,.bool t5,.slice y5 m5 d5,.bool s7,.slice p7 n7 c7,.bool t7,.slice y7 m7 d7,.bool s8,.slice p8 n8 c8,.bool t8,.slice y8 m8 d8,.bool s2,.slice p2 n2 c2,.bool t2,.slice y2 m2 d2,.bool s3,.slice p3 n3 c3,.bool t3,.slice y3 m3 d3]:List Value).map AV.val)),(199,(dD,(Ta++(Tb.flatten++Tc)).map AV.val)),(36,(fm,(vsu1.flatten++spu1).map AV.val))] ⟨rfl,rfl,rfl,rfl,trivial⟩ ⟨by rw [vJ];rfl,by rw [vK];exact congrArg (fun l=>some (eh,l++oc)) cA,rfl,rfl,rfl,rfl,trivial⟩ rfl ⟨.lit rfl,.append (.vals _) (.none jR),.vals _,.vals _,.vals _,.vals _,trivial⟩ ?_
 refine VS.draw (bE _ _) (lV _ _) [1000000 + 74] (by kernel_rfl) (VO.run 80 rfl ?_)
 have Td:nq1≤1000:=by rw [hV1.len];have:=(BS rows.length q (aw S F e.2 - ae e.1 (aw S F e.2))).2;omega
 refine VO.BM (B:=B) (v:=199) (d2:=62) (d:=e.1 - ae e.1 (aw S F e.2)) (q:=nd q (aw S F e.2 - ae e.1 (aw S F e.2))) kk rfl rfl rfl (fk Tryz.func74) rfl rfl rfl (by show 62 < 2 * 99;omega) bV (fun j hj=> ?_) rfl (fun sR LJ Nm=>hV1.kp (aO B) aR) (fun sR LJ Nm=>q5.kr) (hK _ g4 dt dt) Ee Td hB (fun CZ gG nz qG mQ Nn Np ρ19 k19 b19 gL=> ?_)
 ·have:j=52\/j=36:=by simpa [ax,AV.cQ] using hj
  rcases this with rfl | rfl <;> exact ⟨(by intro h;cases h),by decide⟩
 obtain ⟨q2,vL⟩:∃ q2:List Vq,q2=mP rows.length (e.1 - ae e.1 (aw S F e.2)) (nd q (aw S F e.2 - ae e.1 (aw S F e.2))):=⟨_,rfl⟩
 rw [<-vL] at gL
 have zF:=vL.symm
 refine VO.dG 52 rfl (cL (by rw [cR,ai,jR];rfl) _ _) (VO.dG 36 rfl (cL (ai _) _ _) (wV rfl ?_))
 refine af ?_
 by_cases nY:nz=0
 ·refine VO.dT (x:=.row 62 gG nz qG) (p:=fun _=>none) (c:=qG) rfl (fun β=>.inr ⟨_,congrArg (fun n=>Value.slice (some ⟨β 62,gG,none⟩) n qG) nY⟩) rfl (fk Tryz.func75) rfl (fun Km SS SV=>wV rfl ?_)
  refine af ?_
  have FM:q2=[]:=List.eq_nil_of_length_eq_zero (by rw [<-gL.len];exact nY)
  have sH:eb S F keep (rows:List aL).length ⟨q,rows,uses⟩ e=⟨q2,rows++[ey S F q e],Qq⟩:=by rw [oN,zF,CX,FM];rfl
  refine af ?_
  refine VS.mO (bE _ _) rfl (fun wz β kz oz en=> ?_)
  obtain ⟨o1,o2⟩:=fj (en.own 198 _ _ rfl) 0 g rfl rfl
  have oR:=(en.own 52 _ _ rfl).cls
  rw [List.map_append,ag] at oR
  have nR:=gn hB eT (show dm 99 [g,vb,rb,ub] w 52 (β 52) from (en.own 52 _ _ rfl).new)
  have oV:=(en.own 62 _ _ rfl).cls
  rw [ag] at oV
  have nV:=gn hB eT (show dm 99 [g,vb,rb,ub] w 62 (β 62) from (en.own 62 _ _ rfl).new)
  have oU:=(en.own 36 _ _ rfl).cls
  rw [ag] at oU
  have nU:=gn hB eT (show dm 99 [g,vb,rb,ub] w 36 (β 36) from (en.own 36 _ _ rfl).new)
  rw [sH]
  refine ⟨rfl,oz.1,[g,β 62,β 52,β 36],⟨fun b hb=> ?_,_,_,_,o2,?_⟩⟩
  ·simp only [List.mem_cons,List.not_mem_nil,or_false] at hb
   rcases hb with rfl | rfl | rfl | rfl
   ·exact xX
   ·exact nV
   ·exact nR
   ·exact nU
  ·exact .inr (.inr (.inr ⟨β 62,β 52,β 36,rfl,⟨_,_,_,_,_,_,rfl,oV,gL.kp (aO B) aR⟩,⟨_,_,_,_,rfl,oR,(fH.kp (aA B) aR).o β⟩,⟨_,_,_,_,rfl,oU,Cu.kp (dR B) aR⟩⟩))
 obtain ⟨pp,qt,zO⟩:∃ pp qt,q2=pp::qt:=by
  cases q2 with
  | nil=>exact absurd gL.len nY
  | cons pp qt=>exact ⟨pp,qt,rfl⟩
 subst zO
 obtain ⟨FN,Ae,rfl,hE4,vM⟩:∃ FN Ae,Nn=FN::Ae/\dz B CZ FN pp/\ck (dz B) CZ qt Ae:=by
  have:=gL.el
  cases this with
  | cons h1 h2=>exact ⟨_,_,rfl,h1,h2⟩
 obtain ⟨s9,p9,n9,c9,t9,y9,m9,d9,rfl,Ps⟩:=hE4
 have FO:=gL.le
 have FP:=gL.len
 have FQ:=gL.cm
 have lO:mQ.length=gG:=gL.pl.resolve_right aa
 refine VO.dA rfl rfl (fk Tryz.func75) rfl nY (by intro h;cases h) (fun Km SS SV=>wV rfl ?_)
 refine af ?_
 refine VO.cT rfl (([.int .i64 (pp.1:Int)]:List Value).map .val) rfl (bD lO 0 _ ⟨_,rfl⟩) (wV rfl ?_)
 refine af ?_
 have Nq:IntKind.i64.wrap (((rows:List aL).length:Int) - (keep:Int))=((rows:List aL).length:Int) - (keep:Int):=IntWalk.i64_in _ aa
 by_cases hx:pp.1 + keep=(rows:List aL).length
 ·refine VS.aP rfl (by rw [Nq,beq_iff_eq];omega) ?_
  refine af ?_
  refine VO.cT rfl (([.int .i64 (pp.1:Int)]:List Value).map .val) rfl (bD lO 0 _ ⟨_,rfl⟩) (wV rfl ?_)
  refine af ?_
  refine VO.cT rfl (([.bool s9,.slice p9 n9 c9,.bool t9,.slice y9 m9 d9]:List Value).map .val) rfl (bD lO 1 _ ⟨[],rfl⟩) (wV rfl ?_)
  refine af ?_
  have gp:=fH.len
  have DT:pp.1 < qK:=by rw [gp,List.length_append,List.length_singleton];omega
  refine VO.cond rfl du (wV rfl ?_)
  obtain ⟨rq,Ep⟩:∃ rq,(rows++[ey S F q e])[pp.1]? =some rq:=⟨_,List.getElem?_eq_getElem (by rw [<-gp];exact DT)⟩
  obtain ⟨yw,qz,uw⟩:=fH.el.at pp.1 rq Ep
  have je:=fH.fl
  have Pt:=fH.le
  refine VO.cond rfl (by show 0 + ((pp.1:Int)).toNat * 28 + 20 + 4≤_;rw [je,Int.toNat_natCast];omega) (VO.dG 52 rfl (mG (new:=[.bool s9,.slice p9 n9 c9,.bool t9,.slice y9 m9 d9]) (o:=20) (fH.el.lens (aA B)) qz (bB rfl)) (wV rfl ?_))
  refine af ?_
  have hR3:qy (eB B) 28 Km qK iD (tZ.set pp.1 (yw.take 20++([.bool s9,.slice p9 n9 c9,.bool t9,.slice y9 m9 d9]++yw.drop (20 + ([.bool s9,.slice p9 n9 c9,.bool t9,.slice y9 m9 d9]:List Value).length)))) oc ((rows++[ey S F q e]).modify pp.1 (fun r=>{ r with aq:=pp.2 })):=
   ⟨by rw [List.length_modify];exact gp,by rw [ek Ep];exact (fH.el.kp (aA B) aR).set (rL ((aA B).kp uw aR) ⟨_,_,_,_,_,_,_,_,rfl,Ps.kp aR⟩),fH.so,fH.sl,fH.le,fH.cm,by
    rw [List.length_append,List.length_map,dB (mH (fH.el.lens (aA B)) (vH ((aA B).len uw) rfl)),List.length_set]
    rw [List.length_append,List.length_map,dB (fH.el.lens (aA B))] at je
    exact je⟩
  refine VO.jQ rfl rfl (fk Tryz.func76) rfl aa FO FQ (fun j hj=> ?_) (bB rfl) (fun Pu k21 b21=>wV rfl ?_)
  ·simp only [ax,AV.cQ,List.flatMap_cons,List.flatMap_nil,List.mem_append,List.mem_cons,List.not_mem_nil,or_false,List.append_nil] at hj
   rcases hj with rfl | rfl | rfl <;> (intro h;cases h)
  refine af ?_
  have hV4:dL (dz B) 5 Pu (nz - 1) (if qG=1 then gG else gG + 5) (qG - 1) (mQ++[.int .i64 (pp.1:Int),.bool s9,.slice p9 n9 c9,.bool t9,.slice y9 m9 d9]) Ae Np qt:=⟨by rw [FP];rfl,pT lO,by rw [List.all_append,gL.po];rfl,vM.kp (aO B) aR,gL.so,by omega,by omega,pU gL.fl⟩
  have sH:eb S F keep (rows:List aL).length ⟨q,rows,uses⟩ e=⟨qt,(rows++[ey S F q e]).modify pp.1 (fun r=>{ r with aq:=pp.2 }),Qq⟩:=by
   rw [oN,zF,CX]
   exact if_pos hx
  refine af ?_
  refine VS.mO (bE _ _) rfl (fun wz β kz oz en=> ?_)
  obtain ⟨o1,o2⟩:=fj (en.own 198 _ _ rfl) 0 g rfl rfl
  have oR:=(en.own 52 _ _ rfl).cls
  rw [List.map_append,ag] at oR
  have nR:=gn hB eT (show dm 99 [g,vb,rb,ub] w 52 (β 52) from (en.own 52 _ _ rfl).new)
  have oV:=(en.own 62 _ _ rfl).cls
  rw [eG,ag] at oV
  have nV:=gn hB eT (show dm 99 [g,vb,rb,ub] w 62 (β 62) from (en.own 62 _ _ rfl).new)
  have oU:=(en.own 36 _ _ rfl).cls
  rw [ag] at oU
  have nU:=gn hB eT (show dm 99 [g,vb,rb,ub] w 36 (β 36) from (en.own 36 _ _ rfl).new)
  rw [sH]
  refine ⟨rfl,oz.1,[g,β 62,β 52,β 36],⟨fun b hb=> ?_,_,_,_,o2,?_⟩⟩
  ·simp only [List.mem_cons,List.not_mem_nil,or_false] at hb
   rcases hb with rfl | rfl | rfl | rfl
   ·exact xX
   ·exact nV
   ·exact nR
   ·exact nU
  ·exact .inr (.inr (.inr ⟨β 62,β 52,β 36,rfl,⟨_,_,_,_,_,_,rfl,oV,hV4.kp (aO B) aR⟩,⟨_,_,_,_,rfl,oR,(hR3.kp (aA B) aR).o β⟩,⟨_,_,_,_,rfl,oU,Cu.kp (dR B) aR⟩⟩))
 ·refine VS.aQ rfl (by rw [Nq,beq_eq_false_iff_ne];omega) ?_
  have sH:eb S F keep (rows:List aL).length ⟨q,rows,uses⟩ e=⟨pp::qt,rows++[ey S F q e],Qq⟩:=by
   rw [oN,zF,CX]
   exact if_neg hx
  refine af ?_
  refine VS.mO (bE _ _) rfl (fun wz β kz oz en=> ?_)
  obtain ⟨o1,o2⟩:=fj (en.own 198 _ _ rfl) 0 g rfl rfl
  have oR:=(en.own 52 _ _ rfl).cls
  rw [List.map_append,ag] at oR
  have nR:=gn hB eT (show dm 99 [g,vb,rb,ub] w 52 (β 52) from (en.own 52 _ _ rfl).new)
  have oV:=(en.own 62 _ _ rfl).cls
  rw [ag] at oV
  have nV:=gn hB eT (show dm 99 [g,vb,rb,ub] w 62 (β 62) from (en.own 62 _ _ rfl).new)
  have oU:=(en.own 36 _ _ rfl).cls
  rw [ag] at oU
  have nU:=gn hB eT (show dm 99 [g,vb,rb,ub] w 36 (β 36) from (en.own 36 _ _ rfl).new)
  rw [sH]
  refine ⟨rfl,oz.1,[g,β 62,β 52,β 36],⟨fun b hb=> ?_,_,_,_,o2,?_⟩⟩
  ·simp only [List.mem_cons,List.not_mem_nil,or_false] at hb
   rcases hb with rfl | rfl | rfl | rfl
   ·exact xX
   ·exact nV
   ·exact nR
   ·exact nU
  ·exact .inr (.inr (.inr ⟨β 62,β 52,β 36,rfl,⟨_,_,_,_,_,_,rfl,oV,gL.kp (aO B) aR⟩,⟨_,_,_,_,rfl,oR,(fH.kp (aA B) aR).o β⟩,⟨_,_,_,_,rfl,oU,Cu.kp (dR B) aR⟩⟩))
set_option maxRecDepth 4000
theorem Pw {B g keep D kk ks:Nat} {M S F:Rat} {e:Rat×Rat} {ad:List Nat} {s:Jw} {v u:Value} {w:World} (hs:qk B w g ad s)
  (yv:LD w v S F keep ks) (Qo:YrV w u e ks) (vI:1≤ks) (CW:ks≤kk) (Ee:kk≤100000) (Eo:Iz D (aw S F e.2)) (tY:aw S F e.2≤M) (Qp:Iz D e.1) (iV: -M≤e.1) (GI:e.1≤M) (hK:∀ x,Iz D x->-(M + M)≤x->x≤M + M->eM x kk)
  (Ad:BU D M s) (xW:s.rows.length≤64) (sZ:keep≤40) (hB:B≤w.heap.size):
  Calls Tryz.prog 39 #[.pointer (some ⟨g,0,none⟩),v,.int .i64 (s.rows.length:Int),u] w fun o w'=>o=.returned (iX [])/\tB ad w w'/\∃ SR,qk B w' g SR (eb S F keep s.rows.length s e):=by
 obtain ⟨q,rows,uses⟩:=s
 obtain ⟨had,vv,r,uu,hg,h⟩:=hs
 rcases h with ⟨rfl,rfl,rfl,rfl,rfl,rfl,rfl⟩ | ⟨rb,rfl,rfl,rfl,rfl,rfl,n,c,vs,sp,rfl,h1,h2⟩ | ⟨vb,rb,rfl,rfl,rfl,⟨off,nq,cq,pre,SY,SX,rfl,h3,h4⟩,n,c,vs,sp,rfl,h1,h2⟩ | ⟨vb,rb,ub,rfl,⟨off,nq,cq,pre,SY,SX,rfl,h3,h4⟩,⟨n,c,vs,sp,rfl,h1,h2⟩,n',c',iZ,sp',rfl,h5,h6⟩
 ·exact iYear_A (q:=[]) (rows:=[]) (uses:=[]) hg yv Qo vI CW Ee Eo tY Qp iV GI hK Ad xW sZ hB had
 ·exact iYear_B (q:=[]) (uses:=[]) hg h1 h2 yv Qo vI CW Ee Eo tY Qp iV GI hK Ad xW sZ hB had
 ·exact iYear_C (uses:=[]) hg h3 h4 h1 h2 yv Qo vI CW Ee Eo tY Qp iV GI hK Ad xW sZ hB had
 ·exact iYear_D hg h3 h4 h1 h2 h5 h6 yv Qo vI CW Ee Eo tY Qp iV GI hK Ad xW sZ hB had
abbrev RR:=Bool×List Nat×Bool×List Nat
def RR.q (x:RR):Rat:=rq x.1 x.2.1 x.2.2.1 x.2.2.2
def RR.ok (x:RR):Bool:=Cz x.1 x.2.1 x.2.2.1 x.2.2.2
def xk (w:World) (cs:List Value) (x:RR):Prop:=∃ p c r d,cs=[.bool x.1,.slice p x.2.1.length c,.bool x.2.2.1,.slice r x.2.2.2.length d]/\eR w (.agg #[.bool x.1,.slice p x.2.1.length c,.bool x.2.2.1,.slice r x.2.2.2.length d]) x.1 x.2.1 x.2.2.1 x.2.2.2
theorem xk.kp {T:TypeId->Bool} {w w':World} {cs:List Value} {x:RR} (h:xk w cs x) (k:bt ⟨UU,fun _=>True,T⟩ w w'):xk w' cs x:=by
 obtain ⟨p,c,r,d,h1,h2⟩:=h
 exact ⟨p,c,r,d,h1,h2.kp k⟩
def RR.kQ (x:RR) (k:Nat):Prop:=x.2.1.length≤k/\x.2.2.2.length≤k
def ue (kk:Nat) (w:World) (cs:List Value) (e:RR×RR):Prop:=∃ a b,cs=a++b/\xk w a e.1/\xk w b e.2/\e.1.kQ kk/\e.2.kQ kk
theorem xk.len {w:World} {cs:List Value} {x:RR} (h:xk w cs x):cs.length=4:=by obtain ⟨p,c,r,d,rfl,_⟩:=h;rfl
theorem xk.ok {w:World} {cs:List Value} {x:RR} (h:xk w cs x):cs.all aU=true:=by obtain ⟨p,c,r,d,rfl,_⟩:=h;rfl
theorem dM (kk:Nat):gE (ue kk) 8 where
 kp:=fun h k=>by
  obtain ⟨a,b,h0,h1,h2,h3⟩:=h
  exact ⟨a,b,h0,h1.kp k,h2.kp k,h3⟩
 len:=fun h=>by obtain ⟨a,b,rfl,h1,h2,h3⟩:=h;rw [List.length_append,h1.len,h2.len]
 ok:=fun h=>by obtain ⟨a,b,rfl,h1,h2,h3⟩:=h;rw [List.all_append,h1.ok,h2.ok];rfl
def gM (w:World) (v:Value) (a b:RR) (keep:Int):Prop:=∃ p c r d p' c' r' d',v=.agg #[.bool a.1,.slice p a.2.1.length c,.bool a.2.2.1,.slice r a.2.2.2.length d,.bool b.1,.slice p' b.2.1.length c',.bool b.2.2.1,.slice r' b.2.2.2.length d',.int .i64 keep]/\
 eR w (.agg #[.bool a.1,.slice p a.2.1.length c,.bool a.2.2.1,.slice r a.2.2.2.length d]) a.1 a.2.1 a.2.2.1 a.2.2.2/\eR w (.agg #[.bool b.1,.slice p' b.2.1.length c',.bool b.2.2.1,.slice r' b.2.2.2.length d']) b.1 b.2.1 b.2.2.1 b.2.2.2
theorem eR.iE {w:World} {v:Value} {x:RR} {k:Nat} (h:eR w v x.1 x.2.1 x.2.2.1 x.2.2.2) (hk:x.kQ k):bA w v x.q k:=⟨_,_,_,_,h,rfl,hk.1,hk.2⟩
theorem gM.v {w:World} {v:Value} {a b:RR} {keep:Int} {ks:Nat} (h:gM w v a b keep) (ha:a.kQ ks) (hb:b.kQ ks):LD w v a.q b.q keep ks:=by
 obtain ⟨p,c,r,d,p',c',r',d',rfl,h1,h2⟩:=h
 exact ⟨_,_,_,_,_,_,_,_,_,_,_,_,_,_,_,_,rfl,h1.iE ha,h2.iE hb⟩
theorem gM.kp {T:TypeId->Bool} {w w':World} {v:Value} {a b:RR} {keep:Int} (h:gM w v a b keep) (k:bt ⟨UU,fun _=>True,T⟩ w w'):gM w' v a b keep:=by
 obtain ⟨p,c,r,d,p',c',r',d',h0,h1,h2⟩:=h
 exact ⟨p,c,r,d,p',c',r',d',h0,h1.kp k,h2.kp k⟩
theorem ib (x:RR) (b:Bool) (hb:x.ok=b) (v:Value) (w:World) (h:eR w v x.1 x.2.1 x.2.2.1 x.2.2.2) {k:Nat} (hx:x.kQ k) (hk:k≤100000):
 Calls Tryz.prog 68 #[v] w fun e w'=>e=.returned (.bool b)/\aM w w':=hb▸vt _ _ _ _ v w h (Nat.le_trans hx.1 aa) (Nat.le_trans hx.2 aa)
def dU (a b:RR) (keep:Int):Bool:=a.ok && (b.ok && (decide (ea a.q 0≥0) && (decide (ea a.q 1≤0) && (decide (keep≥0) && decide (keep≤40)))))
set_option maxRecDepth 4000 in
theorem LK (v:Value) (a b:RR) (keep:Int) (k:Nat) (w:World) (h:gM w v a b keep) (ha:a.kQ k) (hb:b.kQ k) (hk:k≤100000):
  Calls Tryz.prog 35 #[v] w fun o w'=>o=.returned (.bool (dU a b keep))/\aM w w':=by
 obtain ⟨p,c,r,d,p',c',r',d',rfl,h1,h2⟩:=h
 refine ah (C:=bS Tryz.prog w _) (args:=[_]) Tryz.func35 rfl Tryz.ntmps35 (bB rfl) ?_
 refine ab ?_
 cases e1:a.ok with
 | false=>
   refine VO.call rfl rfl (fk Tryz.func68) (fun bF cU bJ=>(ib a false e1 _ bF (h1.kp (Kp.of (U:=UU) bJ)) ha hk).mono ?_)
   rintro e w1 ⟨rfl,aK⟩
   skip
   refine ⟨_,rfl,aK,fun dC _ bb1=>wV rfl ?_⟩
   refine ab ?_
   refine aY ?_;intro wz kz bz
   exact ⟨by unfold dU;rw [e1];rfl,bz⟩
 | true=>
 refine VO.call rfl rfl (fk Tryz.func68) (fun bF cU bJ=>(ib a true e1 _ bF (h1.kp (Kp.of (U:=UU) bJ)) ha hk).mono ?_)
 rintro e w1 ⟨rfl,aK⟩
 skip
 refine ⟨_,rfl,aK,fun dC _ bb1=>wV rfl ?_⟩
 refine ab ?_
 cases e2:b.ok with
 | false=>
   refine VO.call rfl rfl (fk Tryz.func68) (fun cK eg di=>(ib b false e2 _ cK (h2.kp (Kp.of (U:=UU) di)) hb hk).mono ?_)
   rintro e w2 ⟨rfl,ba⟩
   skip
   refine ⟨_,rfl,ba,fun ed _ bb2=>wV rfl ?_⟩
   refine ab ?_
   refine aY ?_;intro wz kz bz
   exact ⟨by unfold dU;rw [e1,e2];rfl,bz⟩
 | true=>
 refine VO.call rfl rfl (fk Tryz.func68) (fun cK eg di=>(ib b true e2 _ cK (h2.kp (Kp.of (U:=UU) di)) hb hk).mono ?_)
 rintro e w2 ⟨rfl,ba⟩
 skip
 refine ⟨_,rfl,ba,fun ed _ bb2=>wV rfl ?_⟩
 refine ab ?_
 obtain ⟨sg,lB⟩:∃ sg,ea a.q 0=sg:=⟨_,rfl⟩
 have xm:dU a b keep=(decide (sg≥0) && (decide (ea a.q 1≤0) && (decide (keep≥0) && decide (keep≤40)))):=by unfold dU;rw [e1,e2,lB];rfl
 rw [xm]
 refine VO.call rfl rfl (fk Tryz.func13) (fun fh fE fG=>(eN _ a.q k fh ((h1.iE ha).kp (Kp.of (U:=UU) fG)) aa sg lB).mono ?_)
 rintro e w3 ⟨rfl,cG⟩
 skip
 refine ⟨_,rfl,cG,fun gT _ bb3=>wV rfl ?_⟩
 refine ab ?_
 by_cases e3':sg < 0
 ·have e3:¬ sg≥0:=by omega
  rw [decide_eq_false e3]
  refine ab ?_
  refine aY ?_;intro wz kz bz
  exact ⟨rfl,bz⟩
 have e3:sg≥0:=by omega
 rw [decide_eq_true e3]
 refine ab ?_
 refine VO.call rfl rfl (fk Tryz.func44) (fun iP jT jX=>(cd 1 iP aa aa).mono ?_)
 rintro e w4 ⟨r4,rfl,q4,eV⟩
 obtain ⟨s4,p4,n4,c4,t4,y4,m4,d4,rfl⟩:=q4.form
 refine ⟨_,rfl,eV,fun lh _ sT=>wV rfl ?_⟩
 refine ab ?_
 have h11:((1:Int):Rat)=1:=rfl
 rw [h11] at q4
 obtain ⟨cm,gg⟩:∃ cm,ea a.q 1=cm:=⟨_,rfl⟩
 rw [gg]
 refine VO.call rfl rfl (fk Tryz.func12) (fun gf jl gD=>(iq _ _ a.q 1 k 1 gf ((h1.iE ha).kp (Kp.of (U:=UU) gD)) (q4.ki ⟨Sz.small bV,Sz.small bV⟩) aa aa cm gg).mono ?_)
 rintro e w5 ⟨rfl,eE⟩
 skip
 refine ⟨_,rfl,eE,fun jy _ qi=>wV rfl ?_⟩
 refine ab ?_
 by_cases e4':0 < cm
 ·have e4:¬ cm≤0:=by omega
  rw [decide_eq_false e4]
  refine ab ?_
  refine aY ?_;intro wz kz bz
  exact ⟨rfl,bz⟩
 have e4:cm≤0:=by omega
 rw [decide_eq_true e4]
 refine ab ?_
 by_cases e5':keep < 0
 ·have e5:¬ keep≥0:=by omega
  rw [decide_eq_false e5]
  refine ab ?_
  refine aY ?_;intro wz kz bz
  exact ⟨rfl,bz⟩
 have e5:keep≥0:=by omega
 rw [decide_eq_true e5]
 refine ab ?_
 refine aY ?_;intro wz kz bz
 exact ⟨rfl,bz⟩
theorem JE (v:Value) (cs:List Value) (e:RR×RR) (k:Nat) (w:World) (hv:v=.agg cs.toArray) (h:ue k w cs e) (hk:k≤100000):
  Calls Tryz.prog 38 #[v] w fun o w'=>o=.returned (.bool (e.1.ok && e.2.ok))/\aM w w':=by
 obtain ⟨_,_,rfl,⟨p,c,r,d,rfl,h1⟩,⟨p',c',r',d',rfl,h2⟩,ha,hb⟩:=h
 subst hv
 refine ah (C:=bS Tryz.prog w _) (args:=[_]) Tryz.func38 rfl Tryz.ntmps38 (bB rfl) ?_
 refine ab ?_
 cases e1:e.1.ok with
 | false=>
   refine VO.call rfl rfl (fk Tryz.func68) (fun bF cU bJ=>(ib e.1 false e1 _ bF (h1.kp (Kp.of (U:=UU) bJ)) ha hk).mono ?_)
   rintro e w1 ⟨rfl,aK⟩
   skip
   refine ⟨_,rfl,aK,fun dC _ bb1=>wV rfl ?_⟩
   refine ab ?_
   refine aY ?_;intro wz kz bz
   exact ⟨rfl,bz⟩
 | true=>
 refine VO.call rfl rfl (fk Tryz.func68) (fun bF cU bJ=>(ib e.1 true e1 _ bF (h1.kp (Kp.of (U:=UU) bJ)) ha hk).mono ?_)
 rintro e w1 ⟨rfl,aK⟩
 skip
 refine ⟨_,rfl,aK,fun dC _ bb1=>wV rfl ?_⟩
 refine ab ?_
 obtain ⟨b2,ba⟩:∃ b2,e.2.ok=b2:=⟨_,rfl⟩
 rw [ba]
 refine VO.call rfl rfl (fk Tryz.func68) (fun cK eg di=>(ib e.2 b2 ba _ cK (h2.kp (Kp.of (U:=UU) di)) hb hk).mono ?_)
 rintro e w2 ⟨rfl,ba⟩
 skip
 refine ⟨_,rfl,ba,fun ed _ bb2=>wV rfl ?_⟩
 refine ab ?_
 refine aY ?_;intro wz kz bz
 exact ⟨rfl,bz⟩
def fI (e:RR×RR):Bool:=e.1.ok && e.2.ok
theorem LN (v:Value) (cs:List Value) (e:RR×RR) (k:Nat) (w:World) (hv:v=.agg cs.toArray) (h:ue k w cs e) (hk:k≤100000) (b:Bool) (hb:fI e=b):
 Calls Tryz.prog 38 #[v] w fun o w'=>o=.returned (.bool b)/\aM w w':=hb▸JE v cs e k w hv h hk
theorem Es (v:Value) (cs:List Value) (e:RR×RR) (k:Nat) (w:World) (hv:v=.agg cs.toArray) (h:ue k w cs e) (hk:k≤100000) (b:Bool) (hb:fI e=b):
  Calls Tryz.prog 37 #[v] w fun o w'=>o=.returned (.bool !b)/\aM w w':=by
 have h0:=h
 obtain ⟨_,_,rfl,⟨p,c,r,d,rfl,h1⟩,⟨p',c',r',d',rfl,h2⟩,ha,jV⟩:=h
 subst hv
 refine ah (C:=bS Tryz.prog w _) (args:=[_]) Tryz.func37 rfl Tryz.ntmps37 (bB rfl) ?_
 refine ab ?_
 refine VO.call rfl rfl (fk Tryz.func38) (fun bF cU bJ=>(LN _ _ e k bF rfl ((dM k).kp h0 (Kp.of (U:=UU) bJ)) hk b hb).mono ?_)
 rintro e w1 ⟨rfl,aK⟩
 skip
 refine ⟨_,rfl,aK,fun dC _ bb1=>wV rfl ?_⟩
 refine ab ?_
 refine aY ?_;intro wz kz bz
 exact ⟨rfl,bz⟩
end
section
open Go.RowKit
section
variable {C:Cx} {F:Fr} {H:Hp} {w:World} {m:Option (List FuncId)} {full:Array Oper} {K:Fr->Hp->World->Prop} {o:Oper} {r:List Oper} {Q:Exit->Act->World->Prop} {k:List It}
def vN (F:Fr) (β bW:Nat->Nat) (lo hi:Nat):List (Nat×AV)->Prop
 | []=>True
 | p::r=>(∃ u,F p.1=some u/\p.2.bj bW=u.bj β/\∀ i∈p.2.ids,lo≤i/\i < hi)/\vN F β bW lo hi r
theorem vN.mem {β bW:Nat->Nat} {lo hi:Nat}:∀ {L:List (Nat×AV)} {d:Nat} {v:AV},vN F β bW lo hi L->(d,v)∈L->∃ u,F d=some u/\v.bj bW=u.bj β/\∀ i∈v.ids,lo≤i/\i < hi
 | p::r,d,v,h,hm=>by
   rcases List.mem_cons.1 hm with rfl | hm
   ·exact h.1
   ·exact vN.mem h.2 hm
theorem VS.vO (K:KC) (SU:TypeId->Bool) (ti:TypeId->Option TI) (keep:∀ (w':World) b,b < w'.heap.size->K.S b)
  (h:∀ w' β,bt C.K w w'->C.Old w'->Ends C β H w'->∃ (ad:List Nat) (l:List (TypeId×List AV)) (hl:jZ K C.N ad l w') (L:List (Nat×AV)),vN F β (adB C.N ad) (2 * C.N) (2 * C.N + l.length) L/\
   VS (OQ C.P w' C.N K SU ti (keep w') ad hl.nodup hl.ad) Q k (Fr.of L) (Hp.Ph (2 * C.N) l) w'):VS C Q k F H w:=fun β a w' hr hk=>by
 obtain ⟨ad,l,hl,L,hL,hv⟩:=h w' β hk hr.old ⟨hr.own,hr.apart⟩
 have Cv:∀ i c,Hp.Ph (2 * C.N) l i=some c->2 * C.N≤i/\l[i - 2 * C.N]? =some c:=fun i c hi=>by
  rw [Hp.pP] at hi
  split at hi
  ·exact ⟨by assumption,hi⟩
  ·cases hi
 have hsome:∀ i,Hp.Ph (2 * C.N) l i≠none->2 * C.N≤i/\i - 2 * C.N < l.length:=fun i hi=>by
  cases hh:Hp.Ph (2 * C.N) l i with
  | none=>exact absurd hh hi
  | some c=>
    obtain ⟨h1,h2⟩:=Cv i c hh
    exact ⟨h1,(List.getElem?_eq_some_iff.1 h2).1⟩
 have hval:∀ k,k < ad.length->ad[k]? =some (ad.getD k 0):=fun k hk=>by simp [List.getD_eq_getElem?_getD,hk]
 refine hv (adB C.N ad) a w' ⟨hr.defers,hr.size,fun d v hd=> ?_,fun i t cs hi=> ?_,fun i j hi hj e=> ?_,fun d v hd i hi=> ?_,fun d v hd=> ?_,⟨fun i t cs hi=> ?_,fun i t cs hi=> ?_,fun i hi=> ?_⟩,(OQ C.P w' C.N K SU ti (keep w') ad hl.nodup hl.ad).pz⟩ (bt.refl _ _)
 ·obtain ⟨u,h1,h2,_⟩:=hL.mem (Fr.gS hd)
  rw [h2]
  exact hr.tmp d u h1
 ·obtain ⟨h1,h2⟩:=Cv i _ hi
  have hlt:=(List.getElem?_eq_some_iff.1 h2).1
  obtain ⟨g1,g2⟩:=hl.ok _ (List.mem_of_getElem? h2)
  have hv:=hval (i - 2 * C.N) (by rw [hl.len];exact hlt)
  refine ⟨?_,g1,hl.cls _ _ _ hv h2,g2⟩
  show dm C.N ad w' i (adB C.N ad i)
  unfold dm
  rw [if_pos h1]
  exact hv
 ·obtain ⟨h1,h2⟩:=hsome i hi
  obtain ⟨h3,h4⟩:=hsome j hj
  have e1:=hval (i - 2 * C.N) (by rw [hl.len];exact h2)
  have e2:=hval (j - 2 * C.N) (by rw [hl.len];exact h4)
  have e':ad.getD (i - 2 * C.N) 0=ad.getD (j - 2 * C.N) 0:=e
  rw [<-e'] at e2
  have:=(List.getElem?_inj (by rw [hl.len];exact h2) hl.nodup).1 (e1.trans e2.symm)
  omega
 ·obtain ⟨u,h1,h2,h3⟩:=hL.mem (Fr.gS hd)
  obtain ⟨h4,h5⟩:=h3 i hi
  rw [Hp.pP,if_pos h4,List.getElem?_eq_getElem aa]
  simp
 ·obtain ⟨u,h1,h2,h3⟩:=hL.mem (Fr.gS hd)
  exact hr.fits d u h1
 ·obtain ⟨h1,h2⟩:=Cv i _ hi
  exact hl.ok _ (List.mem_of_getElem? h2)
 ·obtain ⟨h1,h2⟩:=Cv i _ hi
  intro j hj
  obtain ⟨h3,h4⟩:=hl.ids _ (List.mem_of_getElem? h2) j hj
  rw [Hp.pP,if_pos h3,List.getElem?_eq_getElem aa]
  simp
 ·have wk:2 * C.N + ad.length≤i:=hi
  rw [Hp.pP]
  split
  ·exact List.getElem?_eq_none (by rw [<-hl.len];omega)
  ·rfl
def MK (C:Cx) (Q:Exit->Act->World->Prop) (k:List It) (full:Array Oper) (o:Oper) (F:Fr) (H:Hp) (w:World):Prop:=
 ∃ (g:FuncId) (args:List AV) (vs:List Value) (D:World->Cx),stepOf C full F H o=.call (.fn g args)/\jG args=some vs/\pA C.P g/\(∀ w,(D w).P=C.P)/\(∀ w,(D w).N=C.N)/\(∀ w,Cx.Old (D w) w)/\
   ∀ w1,bt C.K w w1->C.Old w1->Calls C.P g vs.toArray w1 fun e w2=>∃ v L,e=.returned v/\Jv F L/\(∀ p∈L,o.dst≠some p.1)/\VS (D w2) Q k (Fr.vals L) (fun _=>none) w2
theorem VS.regionM (hC:C.Ok) {id:Nat} {ops:Array Oper} (j:Nat) {o:Oper} (hj:ops.toList.drop j=[o]) (hd:ops.toList.all oJ=true) (ho:oJ o=true)
  (h:aB C none ops (ops.toList.take j) (MK C Q k ops o) F H w):VS C Q (.code (.region id ops false)::k) F H w:=fun β a w' hr hk=>by
 refine (wpIn_wide (n:=0)).1 (wpIn_region_list ?_)
 rw [<-List.take_append_drop j ops.toList,hj]
 refine xU jP.wide hC (tl:=[o]) (fun β F H w a w' h hr hk=> ?_) (ops.toList.take j) (List.all_eq_true.2 fun o ho=>List.all_eq_true.1 hd o (List.mem_of_mem_take ho)) β F H w a w' h hr hk
 obtain ⟨g,args,vs,D,e,hv,hf,hP,hN,hO,gJ⟩:=h
 refine wpListIn_step fun K hK=> ?_
 have hb:stepOf C ops F H o≠.bad:=fun e'=>by rw [e] at e';cases e'
 obtain ⟨ji,⟨hw,hs⟩ | ⟨hw,hs⟩⟩:=jj hb
 ·rw [hs] at e;cases e
 ·rw [kX hr hw,if_pos rfl]
  refine jP.wide.op ho (EY hr (hs.symm.trans e) ?_)
  refine ⟨hf,?_⟩
  rw [kS hv,js]
  refine (gJ w' hk hr.old).mono ?_
  rintro e w2 ⟨v,L,rfl,hL,hLd,hcont⟩
  refine ⟨v,rfl,hK _ _ ?_⟩
  show post C.P Q k .normal _ w2
  have Cs:=hr.knows hL
  have rR:Knows (D w2).N L (a.put o.dst v):=by
   rw [hN]
   cases hod:o.dst with
   | none=>exact Cs
   | some d=>
     refine ⟨Cs.defers,by simp [Act.put];exact Cs.size,fun p hp=>⟨(Cs.tmp p hp).1,?_⟩⟩
     have hne:d≠p.1:=fun e=>hLd p hp (by rw [hod,e])
     have:=(Cs.tmp p hp).2
     simp [Act.put,Array.getD_eq_getD_getElem?,Array.getElem?_setIfInBounds,hne] at this ⊢
     exact this
  have:=hcont _ _ w2 (rR.rel (hO w2)) (bt.refl _ _)
  rw [hP] at this
  exact this
end
end
set_option maxRecDepth 4000
section
open Go.RowKit
attribute [local irreducible] aB VS
theorem FR {w:World} {b off i sz:Nat} {cs:List Value} (hc:∀ (j:Nat) (u:Value),cs[j]? =some u->w.cell? ⟨b,off + i * sz + j,none⟩=some u):∀ (j:Nat) (u:Value),cs[j]? =some u->w.cell? ((⟨b,off + ((i:Nat):Int).toNat * sz,none⟩:Addr).add j)=some u:=by
 intro j u hj
 rw [Addr.add_mid,Int.toNat_natCast]
 exact hc j u hj
theorem cls_at {w:World} {b:Nat} {t:TypeId} {cs:List Value} (h:aZ w b t cs.toArray):∀ (j:Nat) (u:Value),cs[j]? =some u->w.cell? ((⟨b,0,none⟩:Addr).add j)=some u:=by
 intro j u hj
 rw [Addr.add_mid,Nat.zero_add]
 exact h.cell (by simpa using hj)
theorem LO (v:Value) (l:List (RR×RR)) (k:Nat) (w:World) (hl:dp (ue k) 8 w v l) (hk:k≤100000) (hlen:l.length≤100000):
  Calls Tryz.prog 69 #[v,.func (.func 37) #[] #[]] w fun o w'=>∃ i:Int,o=.returned (.int .i64 i)/\decide (i≥0)= !(l.all fI)/\aM w w':=by
 obtain ⟨p,c,rfl,fM,gg⟩:=hl.form
 obtain ⟨N,hN⟩:∃ N,N=l.length:=⟨_,rfl⟩
 rw [<-hN] at hl fM hlen
 rw [<-hN]
 refine ah (C:=bS Tryz.prog w _) (args:=[_,_]) Tryz.func69 rfl Tryz.ntmps69 (bB rfl) ?_
 refine ab ?_
 refine VS.loop (J:=fun m L M w'=>∃ z:Nat,z≤N/\m=N - z/\(l.take z).all fI=true/\L=[(0,.val (.slice p N c)),(1,.val (.func (.func 37) #[] #[])),(7,.val (.int .i64 (N:Int))),(8,.val (.int .i64 (z:Int)))]/\M=[]) N ⟨_,_,?_,?_,?_,?_,⟨0,by omega,rfl,rfl,rfl,rfl⟩⟩ ?_
 ·exact bT
 ·exact bT
 ·rfl
 ·exact ic
 rintro m L M w1 ⟨z,hz,rfl,gN,rfl,rfl⟩
 refine ab ?_
 by_cases hlt:z < N
 ·refine VS.aP rfl (decide_eq_true (Int.ofNat_lt.2 hlt)) ?_
  obtain ⟨x,hx⟩:∃ x,l[z]? =some x:=⟨_,List.getElem?_eq_getElem aa⟩
  obtain ⟨b,off,cs,fN,hcs,hE⟩:=hl.at hx
  subst fN
  obtain ⟨c1,c2,rfl,⟨p1,k1,r1,d1,rfl,e1⟩,⟨p2,k2,r2,d2,rfl,e2⟩,RB,RD⟩:=id hE
  refine ab ?_
  refine VO.cond rfl du ?_
  refine wV rfl ?_
  refine ab ?_
  refine VO.read rfl [.bool x.1.1,.slice p1 x.1.2.1.length k1,.bool x.1.2.2.1,.slice r1 x.1.2.2.2.length d1,.bool x.2.1,.slice p2 x.2.2.1.length k2,.bool x.2.2.2.1,.slice r2 x.2.2.2.2.length d2] rfl (FR hcs) (wV rfl ?_)
  refine ab ?_
  cases hxo:fI x with
  | false=>
    refine VO.call rfl rfl (fk Tryz.func37) (fun bF cU bJ=>(Es _ _ x k bF rfl ((dM k).kp hE (Kp.of (U:=UU) bJ)) hk false hxo).mono ?_)
    rintro e w1 ⟨rfl,aK⟩
    skip
    refine ⟨_,rfl,aK,fun dC _ bb1=>wV rfl ?_⟩
    refine ab ?_
    refine aY ?_;intro wz kz bz
    refine ⟨_,rfl,?_,bz⟩
    have:l.all fI=false:=by
     rw [List.all_eq_false]
     exact ⟨x,List.mem_of_getElem? hx,by rw [hxo];simp⟩
    rw [this]
    exact decide_eq_true aa
  | true=>
    refine VO.call rfl rfl (fk Tryz.func37) (fun bF cU bJ=>(Es _ _ x k bF rfl ((dM k).kp hE (Kp.of (U:=UU) bJ)) hk true hxo).mono ?_)
    rintro e w1 ⟨rfl,aK⟩
    skip
    refine ⟨_,rfl,aK,fun dC _ bb1=>wV rfl ?_⟩
    refine ab ?_
    refine VS.back (N - (z + 1)) aa ⟨_,_,?_,?_,?_,?_,⟨z + 1,by omega,rfl,?_,rfl,rfl⟩⟩
    ·refine ⟨rfl,rfl,rfl,?_,trivial⟩
     rw [<-aE (i:=z) aa];rfl
    ·exact bT
    ·rfl
    ·exact ic
    ·rw [cD hx,List.all_append,gN]
     show (true && (fI x && true))=true
     rw [hxo];rfl
 ·refine VS.aQ rfl (decide_eq_false (fun e=>hlt (Int.ofNat_lt.1 e))) ?_
  refine ab ?_
  refine aY ?_;intro wz kz bz
  refine ⟨_,rfl,?_,bz⟩
  have:l.take z=l:=List.take_of_length_le aa
  rw [this] at gN
  rw [gN];rfl
theorem pX (v:Value) (l:List (RR×RR)) (k:Nat) (w:World) (hl:dp (ue k) 8 w v l) (hk:k≤100000) (hlen:l.length≤100000) (b:Bool) (hb:l.all fI=b):
  Calls Tryz.prog 36 #[v,.func (.func 37) #[] #[]] w fun o w'=>o=.returned (.bool !b)/\aM w w':=by
 obtain ⟨p,c,rfl,fM,gg⟩:=hl.form
 refine ah (C:=bS Tryz.prog w _) (args:=[_,_]) Tryz.func36 rfl Tryz.ntmps36 (bB rfl) ?_
 refine ab ?_
 refine VO.call rfl rfl (fk Tryz.func69) (fun bF cU bJ=>(LO _ l k bF (hl.bC (dM k) bJ) hk hlen).mono ?_)
 rintro e w1 ⟨i,rfl,hi,aK⟩
 skip
 refine ⟨_,rfl,aK,fun dC _ bb1=>wV rfl ?_⟩
 refine ab ?_
 refine aY ?_;intro wz kz bz
 refine ⟨?_,bz⟩
 rw [<-hb,<-hi];rfl
theorem si (v:Value) (a b:RR) (keep:Int) (k:Nat) (w:World) (h:gM w v a b keep) (ha:a.kQ k) (hb:b.kQ k) (hk:k≤100000) (x:Bool) (hx:dU a b keep=x):
 Calls Tryz.prog 35 #[v] w fun o w'=>o=.returned (.bool x)/\aM w w':=hx▸LK v a b keep k w h ha hb hk
theorem Te (v u:Value) (a b:RR) (keep:Int) (l:List (RR×RR)) (k:Nat) (w:World) (hR:gM w v a b keep) (ha:a.kQ k) (hb:b.kQ k) (hl:dp (ue k) 8 w u l) (hk:k≤100000) (hlen:l.length≤100000) (hno:(dU a b keep && l.all fI)=false):
  Calls Tryz.prog 11 #[v,u] w fun o w'=>o=.returned (.tuple #[.agg #[.slice none 0 0,.slice none 0 0],.int .i64 2])/\aM w w':=by
 obtain ⟨pa,ca,ra,da,pb,cb,rb',db,rfl,ha1,aK⟩:=hR
 obtain ⟨pu,cu,rfl,fM,gg⟩:=hl.form
 have hR:gM w (.agg #[.bool a.1,.slice pa a.2.1.length ca,.bool a.2.2.1,.slice ra a.2.2.2.length da,.bool b.1,.slice pb b.2.1.length cb,.bool b.2.2.1,.slice rb' b.2.2.2.length db,.int .i64 keep]) a b keep:=⟨_,_,_,_,_,_,_,_,rfl,ha1,aK⟩
 refine ah (C:=bS Tryz.prog w _) (args:=[_,_]) Tryz.func11 rfl Tryz.ntmps11 (bB rfl) ?_
 refine ab ?_
 cases hr:dU a b keep with
 | false=>
   refine VO.call rfl rfl (fk Tryz.func35) (fun bF cU bJ=>(si _ a b keep k bF (hR.kp (Kp.of (U:=UU) bJ)) ha hb hk false hr).mono ?_)
   rintro e w1 ⟨rfl,aK⟩
   skip
   refine ⟨_,rfl,aK,fun dC _ bb1=>wV rfl ?_⟩
   refine ab ?_
   refine aY ?_;intro wz kz bz
   exact ⟨rfl,bz⟩
 | true=>
   rw [hr] at hno
   refine VO.call rfl rfl (fk Tryz.func35) (fun bF cU bJ=>(si _ a b keep k bF (hR.kp (Kp.of (U:=UU) bJ)) ha hb hk true hr).mono ?_)
   rintro e w1 ⟨rfl,aK⟩
   skip
   refine ⟨_,rfl,aK,fun dC _ bb1=>wV rfl ?_⟩
   refine ab ?_
   refine VO.call rfl rfl (fk Tryz.func36) (fun cK eg di=>(pX _ l k cK (hl.bC (dM k) di) hk hlen false hno).mono ?_)
   rintro e w2 ⟨rfl,ba⟩
   skip
   refine ⟨_,rfl,ba,fun ed _ bb2=>wV rfl ?_⟩
   refine ab ?_
   refine aY ?_;intro wz kz bz
   exact ⟨rfl,bz⟩
theorem Px (v u:Value) (a b:RR) (keep:Int) (l:List (RR×RR)) (k:Nat) (w:World) (hR:gM w v a b keep) (ha:a.kQ k) (hb:b.kQ k) (hl:dp (ue k) 8 w u l) (hk:k≤100000) (hlen:l.length≤100000) (hr:dU a b keep=true) (hy:l.all fI=true) (h40:l.length > 40):
  Calls Tryz.prog 11 #[v,u] w fun o w'=>o=.returned (.tuple #[.agg #[.slice none 0 0,.slice none 0 0],.int .i64 3])/\aM w w':=by
 obtain ⟨pa,ca,ra,da,pb,cb,rb',db,rfl,ha1,aK⟩:=hR
 obtain ⟨pu,cu,rfl,fM,gg⟩:=hl.form
 have hR:gM w (.agg #[.bool a.1,.slice pa a.2.1.length ca,.bool a.2.2.1,.slice ra a.2.2.2.length da,.bool b.1,.slice pb b.2.1.length cb,.bool b.2.2.1,.slice rb' b.2.2.2.length db,.int .i64 keep]) a b keep:=⟨_,_,_,_,_,_,_,_,rfl,ha1,aK⟩
 refine ah (C:=bS Tryz.prog w _) (args:=[_,_]) Tryz.func11 rfl Tryz.ntmps11 (bB rfl) ?_
 refine ab ?_
 refine VO.call rfl rfl (fk Tryz.func35) (fun bF cU bJ=>(si _ a b keep k bF (hR.kp (Kp.of (U:=UU) bJ)) ha hb hk true hr).mono ?_)
 rintro e w1 ⟨rfl,aK⟩
 skip
 refine ⟨_,rfl,aK,fun dC _ bb1=>wV rfl ?_⟩
 refine ab ?_
 refine VO.call rfl rfl (fk Tryz.func36) (fun cK eg di=>(pX _ l k cK (hl.bC (dM k) di) hk hlen true hy).mono ?_)
 rintro e w2 ⟨rfl,ba⟩
 skip
 refine ⟨_,rfl,ba,fun ed _ bb2=>wV rfl ?_⟩
 refine ab ?_
 refine VS.aP rfl (decide_eq_true (show (l.length:Int) > 40 by omega)) ?_
 refine ab ?_
 refine aY ?_;intro wz kz bz
 exact ⟨rfl,bz⟩
theorem SlZ.bC {α:Type} {E:World->List Value->α->Prop} {sz:Nat} (hE:gE E sz) {t:TypeId} {w w':World} {b:Nat} {v:Value} {es:List α} (h:SlZ E sz t w b v es) (hb:aM w w'):SlZ E sz t w' b v es:=by
 obtain ⟨n,c,vs,sp,h1,h2,h3⟩:=h
 exact ⟨n,c,vs,sp,h1,h2.bC hb,h3.kp hE (Kp.of (U:=UU) hb)⟩
theorem SlE.bC {α:Type} {E:World->List Value->α->Prop} {sz:Nat} (hE:gE E sz) {t:TypeId} {w w':World} {b:Nat} {v:Value} {es:List α} (h:SlE E sz t w b v es) (hb:aM w w'):SlE E sz t w' b v es:=by
 obtain ⟨off,n,c,pre,vs,sp,h1,h2,h3⟩:=h
 exact ⟨off,n,c,pre,vs,sp,h1,h2.bC hb,h3.kp hE (Kp.of (U:=UU) hb)⟩
theorem qk.bC {B g:Nat} {w w':World} {ad:List Nat} {s:Jw} (h:qk B w g ad s) (hb:aM w w'):qk B w' g ad s:=by
 obtain ⟨had,v,r,u,hg,h⟩:=h
 refine ⟨had,v,r,u,hg.bC hb,?_⟩
 rcases h with h | ⟨rb,h1,h2,h3,h4,h5,h6⟩ | ⟨vb,rb,h1,h2,h3,h4,h5⟩ | ⟨vb,rb,ub,h1,h2,h3,h4⟩
 ·exact .inl h
 ·exact .inr (.inl ⟨rb,h1,h2,h3,h4,h5,h6.bC (aA B) hb⟩)
 ·exact .inr (.inr (.inl ⟨vb,rb,h1,h2,h3,h4.bC (aO B) hb,h5.bC (aA B) hb⟩))
 ·exact .inr (.inr (.inr ⟨vb,rb,ub,h1,h2.bC (aO B) hb,h3.bC (aA B) hb,h4.bC (dR B) hb⟩))
theorem xn (S F:Rat) (keep:Nat) (l:List (Rat×Rat)) (y:Rat×Rat):iC S F keep (l++[y])=eb S F keep (iC S F keep l).rows.length (iC S F keep l) y:=by
 unfold iC
 rw [List.foldl_append];rfl
def bX (l:List (RR×RR)):List (Rat×Rat):=l.map fun e=>(e.1.q,e.2.q)
theorem oO {l:List (RR×RR)} {z:Nat} {x:RR×RR} (hx:l[z]? =some x):bX (l.take (z + 1))=bX (l.take z)++[(x.1.q,x.2.q)]:=by
 unfold bX
 rw [cD hx,List.map_append];rfl
theorem JF {B:Nat} {w:World} {cs new:List Value} {r:aL} {x:Rat} (h:eB B w cs r) (hx:R4 B w new x):eB B w (cs.take 24++(new++cs.drop (24 + new.length))) { r with closing:=x }:=by
 obtain ⟨a,b,c,d,e,f,g,rfl,h1,h2,h3,h4,h5,h6,h7⟩:=h
 refine ⟨a,b,c,d,e,f,new,?_,h1,h2,h3,h4,h5,h6,hx⟩
 have l1:=h1.len
 have l2:=h2.len
 have l3:=h3.len
 have l4:=h4.len
 have l5:=h5.len
 have l6:=h6.len
 have l7:=h7.len
 rw [hx.len]
 have e3:a++(b++(c++(d++(e++(f++g)))))=(a++b++c++d++e++f)++g:=by simp
 have e4:(a++b++c++d++e++f).length=24:=by simp [l1,l2,l3,l4,l5,l6]
 have t1:(a++(b++(c++(d++(e++(f++g)))))).take 24=a++b++c++d++e++f:=by rw [e3,<-e4,List.take_left'];rfl
 have t2:(a++(b++(c++(d++(e++(f++g)))))).drop 28=[]:=List.drop_of_length_le (by simp [l1,l2,l3,l4,l5,l6,l7])
 rw [t1,t2]
 simp
abbrev oP:TypeId:=36
abbrev Py:TypeId:=28
theorem qk.ty {B g:Nat} {w:World} {ad:List Nat} {s:Jw} (h:qk B w g ad s):∀ b∈ad,∃ t cs,aZ w b t cs/\t≠Py/\t≠oP:=by
 obtain ⟨had,v,r,u,hg,h⟩:=h
 have key:∀ {t:TypeId} {b:Nat} {cs:Array Value},aZ w b t cs->(t=Runner\/t=dD\/t=eh\/t=fm)->∃ t cs,aZ w b t cs/\t≠Py/\t≠oP:=fun {t b cs} hc ht=>⟨t,cs,hc,by rcases ht with rfl | rfl | rfl | rfl <;> decide,by rcases ht with rfl | rfl | rfl | rfl <;> decide⟩
 intro b hb
 rcases h with ⟨rfl,_⟩ | ⟨rb,rfl,_,_,_,_,_,_,_,_,_,h2,_⟩ | ⟨vb,rb,rfl,_,_,⟨_,_,_,_,_,_,_,h3,_⟩,_,_,_,_,_,h2,_⟩ | ⟨vb,rb,ub,rfl,⟨_,_,_,_,_,_,_,h3,_⟩,⟨_,_,_,_,_,h2,_⟩,_,_,_,_,_,h4,_⟩
 ·rw [List.mem_singleton.1 hb];exact key hg (.inl rfl)
 ·simp only [List.mem_cons,List.not_mem_nil,or_false] at hb
  rcases hb with rfl | rfl
  ·exact key hg (.inl rfl)
  ·exact key h2 (.inr (.inr (.inl rfl)))
 ·simp only [List.mem_cons,List.not_mem_nil,or_false] at hb
  rcases hb with rfl | rfl | rfl
  ·exact key hg (.inl rfl)
  ·exact key h3 (.inr (.inl rfl))
  ·exact key h2 (.inr (.inr (.inl rfl)))
 ·simp only [List.mem_cons,List.not_mem_nil,or_false] at hb
  rcases hb with rfl | rfl | rfl | rfl
  ·exact key hg (.inl rfl)
  ·exact key h3 (.inr (.inl rfl))
  ·exact key h2 (.inr (.inr (.inl rfl)))
  ·exact key h4 (.inr (.inr (.inr rfl)))
theorem Tf {B:Nat} {w:World} {vb off n c z:Nat} {pre spare:List Value} {vs:List (List Value)} {q:List Vq} {p:Vq} (hc:aZ w vb dD (pre++(vs.flatten++spare)).toArray) (h:dL (dz B) 5 w n off c pre vs spare q) (hp:q[z]? =some p):
  ∃ cs,(∀ (j:Nat) (u:Value),cs[j]? =some u->w.cell? ⟨vb,off + z * 5 + j,none⟩=some u)/\dz B w cs p:=by
 obtain ⟨cs,hcs,hE⟩:=h.el.at z p hp
 refine ⟨cs,fun j u hj=>hc.cell ?_,hE⟩
 have hzl:=(List.getElem?_eq_some_iff.1 hp).1
 have Ks:=h.len
 have hle:=h.le
 have jS:pre.length=off:=h.pl.resolve_right aa
 have gJ:cs.length=5:=(aO B).len hE
 have hjl:=(List.getElem?_eq_some_iff.1 hj).1
 obtain ⟨hlt,hx⟩:=List.getElem?_eq_some_iff.1 hcs
 have CR:vs=vs.take z++cs::vs.drop (z + 1):=by rw [<-hx,<-List.drop_eq_getElem_cons hlt,List.take_append_drop]
 have hal:(vs.take z).flatten.length=z * 5:=by
  rw [dB (fun y hy=>h.el.lens (aO B) y (List.mem_of_mem_take hy)),List.length_take,Nat.min_eq_left aa]
 rw [List.getElem?_toArray,List.getElem?_append_right aa,jS,CR,List.flatten_append,List.append_assoc,List.getElem?_append_right aa,hal,List.flatten_cons,List.append_assoc,show off + z * 5 + j - off - z * 5=j by omega,List.getElem?_append_left hjl]
 exact hj
theorem ql {w:World} {N:Nat} {ad:List Nat} {hd:ad.Nodup} {ha:uX (KU UU) ad w} {b off:Nat} {cs:List Value} (hb:b < w.heap.size) (hn:b∉ad) (hc:∀ (j:Nat) (u:Value),cs[j]? =some u->w.cell? ((⟨b,off,none⟩:Addr).add j)=some u):∀ (j:Nat) (u:Value),cs[j]? =some u->(Qj Tryz.prog w N ad hd ha).At ((⟨b,off,none⟩:Addr).add j) u:=by
 intro j u hj w1 rS
 have h:=hc j u hj
 rw [Addr.add_mid] at h ⊢
 rw [World.cell?_of_block (w:=w) (a:=⟨b,off + j,none⟩) (rS.1.ln b hb hn)]
 exact h
theorem JG {cs new:List Value} (h:cs.length=28) (hn:new.length=4):(cs.take 24++(new++cs.drop (24 + new.length))).length=28:=by
 rw [List.length_append,List.length_append,List.length_take,List.length_drop,h,hn];rfl
structure BV (D:Nat) (M S F:Rat) (kk:Nat) (l:List (Rat×Rat)):Prop where
 el:∀ e∈l,Iz D (aw S F e.2)/\aw S F e.2≤M/\Iz D e.1/\-M≤e.1/\e.1≤M
 sz:∀ x,Iz D x->-(M + M)≤x->x≤M + M->eM x kk
def qA (B:Nat) (w:World) (r u:Value) (x:List aL×List Uq):Prop:=
 ((r=.slice none 0 0/\x.1=[])\/∃ rb,B≤rb/\SlZ (eB B) 28 eh w rb r x.1)/\((u=.slice none 0 0/\x.2=[])\/∃ ub,B≤ub/\SlZ (qw B) 6 fm w ub u x.2)
def RunJ (w:World) (B D:Nat) (M:Rat) (a b:RR) (kn:Nat) (l:List (RR×RR)) (N cu:Nat) (pu:Option Addr) (rul:List Value) (g b2 b4:Nat) (n:Nat) (L:List (Nat×Value)) (W:World):Prop:=
 ∃ (z:Nat) (ad:List Nat),z≤N/\n=N - z/\L=[(2,.pointer (some ⟨b2,0,none⟩)),(4,.pointer (some ⟨b4,0,none⟩)),(6,.pointer (some ⟨g,0,none⟩)),(27,.slice pu N cu),(28,.int .i64 (N:Int)),(29,.int .i64 (z:Int))]/\
   qk B W g ad (iC a.q b.q kn (bX (l.take z)))/\BU D M (iC a.q b.q kn (bX (l.take z)))/\(iC a.q b.q kn (bX (l.take z))).rows.length=z/\aZ W b2 Py rul.toArray/\aZ W b4 oP #[.slice none 0 0,.slice none 0 0]/\aM w W
set_option maxRecDepth 4000 in
theorem Nr (v u:Value) (a b:RR) (kn:Nat) (l:List (RR×RR)) (ks kk D:Nat) (M:Rat) (w:World) (hR:gM w v a b (kn:Int)) (ha:a.kQ ks) (hb:b.kQ ks) (hl:dp (ue ks) 8 w u l) (vI:1≤ks) (CW:ks≤kk) (Ee:kk≤100000) (hr:dU a b (kn:Int)=true) (hy:l.all fI=true) (h40:l.length≤40) (rR:kn≤40) (hM:BV D M a.q b.q kk (bX l)):
  Calls Tryz.prog 11 #[v,u] w fun o w'=>∃ r u',o=.returned (.tuple #[.agg #[r,u'],.int .i64 0])/\qA w.heap.size w' r u' (qq a.q b.q kn (bX l))/\aM w w':=by
 obtain ⟨pa,ca,ra,da,pb,cb,rb',db,rfl,ha1,aK⟩:=hR
 obtain ⟨pu,cu,rfl,fM,gg⟩:=hl.form
 have hR:gM w (.agg #[.bool a.1,.slice pa a.2.1.length ca,.bool a.2.2.1,.slice ra a.2.2.2.length da,.bool b.1,.slice pb b.2.1.length cb,.bool b.2.2.1,.slice rb' b.2.2.2.length db,.int .i64 (kn:Int)]) a b (kn:Int):=⟨_,_,_,_,_,_,_,_,rfl,ha1,aK⟩
 have hk:ks≤100000:=by omega
 obtain ⟨N,hN⟩:∃ N,N=l.length:=⟨_,rfl⟩
 rw [<-hN] at hl fM h40
 rw [<-hN]
 refine ah (C:=bS Tryz.prog w _) (args:=[_,_]) Tryz.func11 rfl Tryz.ntmps11 (bB rfl) ?_
 refine ab ?_
 refine VO.call rfl rfl (fk Tryz.func35) (fun bF cU bJ=>(si _ a b (kn:Int) ks bF (hR.kp (Kp.of (U:=UU) bJ)) ha hb hk true hr).mono ?_)
 rintro e w1 ⟨rfl,aK⟩
 skip
 refine ⟨_,rfl,aK,fun dC _ bb1=>wV rfl ?_⟩
 refine ab ?_
 refine VO.call rfl rfl (fk Tryz.func36) (fun cK eg di=>(pX _ l ks cK (hl.bC (dM ks) di) hk aa true hy).mono ?_)
 rintro e w2 ⟨rfl,ba⟩
 skip
 refine ⟨_,rfl,ba,fun ed _ bb2=>wV rfl ?_⟩
 refine ab ?_
 refine VS.aQ rfl (decide_eq_false (show ¬ (N:Int) > 40 by omega)) ?_
 refine ab ?_
 refine VS.rebase (fun w=>bS Tryz.prog w 66) (fun _=>rfl) (fun _=>rfl) (fun _=>aM.refl _) (fun w9 β k9 b9 en=> ?_)
 have c2:=(en.own 2 _ _ rfl).cls
 have c4:=(en.own 4 _ _ rfl).cls
 have cg:=(en.own 26 _ _ rfl).cls
 have n2:w.heap.size≤β 2:=(en.own 2 _ _ rfl).new
 have n4:w.heap.size≤β 4:=(en.own 4 _ _ rfl).new
 have ng:w.heap.size≤β 26:=(en.own 26 _ _ rfl).new
 refine ⟨[(2,.val (.pointer (some ⟨β 2,0,none⟩))),(4,.val (.pointer (some ⟨β 4,0,none⟩))),(6,.val (.pointer (some ⟨β 26,0,none⟩))),(27,.val (.slice pu N cu)),(28,.val (.int .i64 (N:Int))),(29,.val (.int .i64 0))],⟨⟨_,_,rfl,rfl,rfl⟩,⟨_,_,rfl,rfl,rfl⟩,⟨_,_,rfl,rfl,rfl⟩,⟨_,_,rfl,rfl,rfl⟩,⟨_,_,rfl,rfl,rfl⟩,⟨_,_,rfl,rfl,rfl⟩,trivial⟩,?_⟩
 clear en
 generalize β 2=b2 at *
 generalize β 4=b4 at *
 generalize β 26=g at *
 refine VS.loopR (J:=RunJ w w.heap.size D M a b kn l N cu pu [.bool a.1,.slice pa a.2.1.length ca,.bool a.2.2.1,.slice ra a.2.2.2.length da,.bool b.1,.slice pb b.2.1.length cb,.bool b.2.2.1,.slice rb' b.2.2.2.length db,.int .i64 (kn:Int)] g b2 b4) (fun w=>bS Tryz.prog w 66) (fun _=>rfl) (fun _=>rfl) (fun _=>aM.refl _) N (fun w' k' o'=>⟨[(2,.pointer (some ⟨b2,0,none⟩)),(4,.pointer (some ⟨b4,0,none⟩)),(6,.pointer (some ⟨g,0,none⟩)),(27,.slice pu N cu),(28,.int .i64 (N:Int)),(29,.int .i64 0)],⟨rfl,rfl,rfl,rfl,rfl,rfl,trivial⟩,0,[g],by omega,rfl,rfl,⟨fun x hx=>by rw [List.mem_singleton.1 hx];exact ng,_,_,_,cg.bC o',.inl ⟨rfl,rfl,rfl,rfl,rfl,rfl,rfl⟩⟩,⟨fun p hp=>(by cases hp),Nat.le_refl _⟩,rfl,c2.bC o',c4.bC o',b9.aF o'⟩) ?_
 rintro n L W ⟨z,ad,hz,rfl,rfl,hrun,hst,pc,iQ,wy,lS⟩
 refine ab ?_
 have hlW:=hl.bC (dM ks) lS
 by_cases hlt:z < N
 ·refine VS.aP rfl (decide_eq_true (Int.ofNat_lt.2 hlt)) ?_
  obtain ⟨x,hx⟩:∃ x,l[z]? =some x:=⟨_,List.getElem?_eq_getElem aa⟩
  obtain ⟨bx,off,cs,fN,hcs,hE⟩:=hlW.at hx
  subst fN
  obtain ⟨c1,c2',rfl,⟨p1,k1,r1,d1,rfl,e1⟩,⟨p2,k2,r2,d2,rfl,e2⟩,RB,RD⟩:=id hE
  obtain ⟨m1,m2,m3,m4,m5⟩:=hM.el (x.1.q,x.2.q) (List.mem_map.2 ⟨x,List.mem_of_getElem? hx,rfl⟩)
  refine ab ?_
  refine VO.cond rfl du (wV rfl ?_)
  refine VO.read rfl [.bool x.1.1,.slice p1 x.1.2.1.length k1,.bool x.1.2.2.1,.slice r1 x.1.2.2.2.length d1,.bool x.2.1,.slice p2 x.2.2.1.length k2,.bool x.2.2.2.1,.slice r2 x.2.2.2.2.length d2] rfl (FR hcs) (wV rfl ?_)
  (repeat (first | refine wN ?_ | refine wP rfl ?_ | refine wO rfl rfl ?_))
  refine VS.regionM (cJ _ _) 4 rfl rfl rfl (VO.run 80 rfl ?_)
  refine VO.read rfl [.bool a.1,.slice pa a.2.1.length ca,.bool a.2.2.1,.slice ra a.2.2.2.length da,.bool b.1,.slice pb b.2.1.length cb,.bool b.2.2.1,.slice rb' b.2.2.2.length db,.int .i64 (kn:Int)] rfl (cls_at iQ) (wV rfl ?_)
  refine VO.nil ⟨_,_,_,fun w=>bS Tryz.prog w 66,rfl,rfl,fk Tryz.func39,fun _=>rfl,fun _=>rfl,fun _=>aM.refl _,fun w1 LJ b1=> ?_⟩
  have aK:aM W w1:=b1
  have hY:=Pw (kk:=kk) (ks:=ks) (D:=D) (M:=M) (hrun.bC aK) ((hR.kp (Kp.of (U:=UU) (lS.aF aK))).v ha hb) (e:=(x.1.q,x.2.q)) (u:=.agg #[.bool x.1.1,.slice p1 x.1.2.1.length k1,.bool x.1.2.2.1,.slice r1 x.1.2.2.2.length d1,.bool x.2.1,.slice p2 x.2.2.1.length k2,.bool x.2.2.2.1,.slice r2 x.2.2.2.2.length d2]) ⟨_,_,_,_,_,_,_,_,_,_,_,_,_,_,_,_,rfl,(e1.kp (Kp.of (U:=UU) aK)).iE RB,(e2.kp (Kp.of (U:=UU) aK)).iE RD⟩ vI CW Ee m1 m2 m3 m4 m5 hM.sz hst aa rR (lS.aF aK).size
  rw [pc] at hY
  refine hY.mono ?_
  rintro o w2 ⟨rfl,hbut,SR,hrun2⟩
  have hnb:=(hrun.bC aK).ty
  have hB2:aZ w2 b2 Py [.bool a.1,.slice pa a.2.1.length ca,.bool a.2.2.1,.slice ra a.2.2.2.length da,.bool b.1,.slice pb b.2.1.length cb,.bool b.2.2.1,.slice rb' b.2.2.2.length db,.int .i64 (kn:Int)].toArray:=(hbut.ln b2 (iQ.bC aK).lt (fun hm=>by obtain ⟨t,cs,h1,h2,_⟩:=hnb b2 hm;exact h2 (bM h1 (iQ.bC aK)))).trans (iQ.bC aK)
  have hB4:aZ w2 b4 oP #[.slice none 0 0,.slice none 0 0]:=(hbut.ln b4 (wy.bC aK).lt (fun hm=>by obtain ⟨t,cs,h1,_,h2⟩:=hnb b4 hm;exact h2 (bM h1 (wy.bC aK)))).trans (wy.bC aK)
  refine ⟨_,[(2,.pointer (some ⟨b2,0,none⟩)),(4,.pointer (some ⟨b4,0,none⟩)),(6,.pointer (some ⟨g,0,none⟩)),(27,.slice (some ⟨bx,off,none⟩) N cu),(28,.int .i64 (N:Int)),(29,.int .i64 (z:Int))],rfl,⟨rfl,rfl,rfl,rfl,rfl,rfl,trivial⟩,fun p hp e=> ?_,?_⟩
  ·simp only [List.mem_cons,List.not_mem_nil,or_false] at hp
   rcases hp with rfl | rfl | rfl | rfl | rfl | rfl <;> cases e
  refine ab ?_
  refine VS.backR rfl (N - (z + 1)) aa [(2,.pointer (some ⟨b2,0,none⟩)),(4,.pointer (some ⟨b4,0,none⟩)),(6,.pointer (some ⟨g,0,none⟩)),(27,.slice (some ⟨bx,off,none⟩) N cu),(28,.int .i64 (N:Int)),(29,.int .i64 ((z + 1:Nat):Int))] ⟨rfl,rfl,rfl,rfl,rfl,?_,trivial⟩ (fun w3 k3 b3=> ?_)
  ·rw [<-aE (i:=z) aa];rfl
  have cG:aM w2 w3:=b3
  obtain ⟨y1,y2⟩:=Nl (keep:=kn) hst m1 m2 m3 m4 m5
  rw [pc] at y1 y2
  refine ⟨z + 1,SR,by omega,rfl,rfl,?_,?_,?_,hB2.bC cG,hB4.bC cG,(tB.bC (lS.aF aK) hbut (hrun.bC aK).1).aF cG⟩
  ·rw [oO hx,xn,pc];exact hrun2.bC cG
  ·rw [oO hx,xn,pc];exact y1
  ·rw [oO hx,xn,pc];exact y2
 refine VS.aQ rfl (decide_eq_false (fun e=>hlt (Int.ofNat_lt.1 e))) ?_
 have LP:z=N:=by omega
 have htk:l.take z=l:=List.take_of_length_le aa
 rw [htk] at hrun hst pc
 refine ab ?_
 obtain ⟨had,vv,rr,uu,hg,hcase⟩:=hrun
 have nG:w.heap.size≤g:=ng
 rcases hcase with ⟨rfl,rfl,rfl,rfl,Tg,sY,Ig⟩ | ⟨rb,rfl,rfl,rfl,Tg,Ig,nr,cr,kG,nt,rfl,Er,hRr⟩ | ⟨vb,rb,rfl,rfl,Ig,⟨off,nq,cq,pre,SY,SX,rfl,GJ,hVr⟩,nr,cr,kG,nt,rfl,Er,hRr⟩ | ⟨vb,rb,ub,rfl,⟨off,nq,cq,pre,SY,SX,rfl,GJ,hVr⟩,⟨nr,cr,kG,nt,rfl,Er,hRr⟩,nu,cu',xj,xY,rfl,hcU,hUr⟩
 ·refine VO.read rfl [.slice none 0 0] rfl (fun j u hj=> ?_) (wV rfl ?_)
  ·match j,hj with
   | 0,hj=>cases hj;exact hg.cell rfl
   | j + 1,hj=>cases hj
  refine ab ?_
  refine VS.vO (KU UU) (fun t=>Nat.beq t 22) table (fun _ _ _=>trivial) (fun w5 β5 k5 b5 en5=> ?_)
  have Ki:=hg.bC b5
  have vP:=wy.bC b5
  have Pv:b4≠g:=fun e=>by subst e;exact absurd (bM vP Ki) bV
  have sG:jZ (KU UU) 66 [b4,g] [(oP,[.val (.slice none 0 0),.val (.slice none 0 0)]),(Runner,[.val (.slice none 0 0),.val (.slice none 0 0),.val (.slice none 0 0)])] w5:=by
   refine ⟨rfl,by simp [Pv],fun j g' c' hj hc=> ?_,fun c' hc=> ?_,fun c' hc k hk=> ?_⟩
   ·match j,hj,hc with
    | 0,hj,hc=>cases hj;cases hc;exact vP
    | 1,hj,hc=>cases hj;cases hc;exact Ki
    | j + 2,hj,_=>simp at hj
   ·simp only [List.mem_cons,List.not_mem_nil,or_false] at hc
    rcases hc with rfl | rfl
    ·exact ⟨rfl,rfl⟩
    ·exact ⟨rfl,rfl⟩
   ·simp only [List.mem_cons,List.not_mem_nil,or_false] at hc
    rcases hc with rfl | rfl
    ·cases hk
    ·cases hk
  refine ⟨[b4,g],_,sG,[(4,.box 132 0),(6,.box 133 0),(44,.val (.slice none 0 0)),(45,.val (.int .i64 ((0:Nat):Int))),(46,.val (.int .i64 0))],⟨?_,?_,⟨_,rfl,rfl,fun i hi=>by cases hi⟩,⟨_,rfl,rfl,fun i hi=>by cases hi⟩,⟨_,rfl,rfl,fun i hi=>by cases hi⟩,trivial⟩,?_⟩
  ·refine ⟨_,rfl,rfl,fun i hi=> ?_⟩
   have:i=132:=by simpa [AV.ids] using hi
   subst this;exact ⟨by show 132≤132;omega,by show 132 < 2 * 66 + 2;omega⟩
  ·refine ⟨_,rfl,rfl,fun i hi=> ?_⟩
   have:i=133:=by simpa [AV.ids] using hi
   subst this;exact ⟨by show 132≤133;omega,by show 133 < 2 * 66 + 2;omega⟩
  refine VS.loop (J:=fun m L M w'=>L=[(4,.box 132 0),(6,.box 133 0),(44,.val (.slice none 0 0)),(45,.val (.int .i64 ((0:Nat):Int))),(46,.val (.int .i64 0))]/\M=[(132,(oP,[.val (.slice none 0 0),.val (.slice none 0 0)])),(133,(Runner,[.val (.slice none 0 0),.val (.slice none 0 0),.val (.slice none 0 0)]))]) 0 ⟨_,_,?_,?_,?_,?_,⟨rfl,rfl⟩⟩ ?_
  ·exact bT
  ·exact bT
  ·rfl
  ·exact ⟨.lit rfl,.lit rfl,trivial⟩
  rintro m L M w6 ⟨rfl,rfl⟩
  refine af ?_
  refine VS.lz (bE _ _) rfl (fun wz βz kz oz enz=> ?_)
  have Lc:aM w wz:=tB.bC (lS.aF b5) oz.1 (fun x hx=>by simp only [List.mem_cons,List.not_mem_nil,or_false] at hx;rcases hx with rfl | rfl <;> assumption)
  refine ⟨_,_,rfl,?_,Lc⟩
  show qA w.heap.size wz _ _ (dJ (iC a.q b.q kn (bX l)).q (iC a.q b.q kn (bX l)).rows,(iC a.q b.q kn (bX l)).uses)
  rw [Tg,sY,Ig]
  exact ⟨.inl ⟨rfl,rfl⟩,.inl ⟨rfl,rfl⟩⟩
 ·obtain ⟨rows,sY⟩:∃ rows,(iC a.q b.q kn (bX l)).rows=rows:=⟨_,rfl⟩
  rw [sY] at hRr
  have nRb:w.heap.size≤rb:=had rb cA
  refine VO.read rfl [.slice none 0 0] rfl (fun j u hj=> ?_) (wV rfl ?_)
  ·match j,hj with
   | 0,hj=>cases hj;exact hg.cell rfl
   | j + 1,hj=>cases hj
  refine ab ?_
  refine VS.vO (KU UU) (fun t=>Nat.beq t 22) table (fun _ _ _=>trivial) (fun w5 β5 k5 b5 en5=> ?_)
  have Ki:=hg.bC b5
  have vP:=wy.bC b5
  have BW:=Er.bC b5
  have hR5:=hRr.kp (aA w.heap.size) (Kp.of (U:=UU) b5)
  have Pv:b4≠g:=fun e=>by subst e;exact absurd (bM vP Ki) bV
  have h02:b4≠rb:=fun e=>by subst e;exact absurd (bM vP BW) bV
  have Ed:g≠rb:=fun e=>by subst e;exact absurd (bM Ki BW) bV
  have sG:jZ (KU UU) 66 [b4,g,rb] [(oP,[.val (.slice none 0 0),.val (.slice none 0 0)]),(Runner,[.val (.slice none 0 0),.row 134 0 nr cr,.val (.slice none 0 0)]),(eh,kG.flatten.map .val++nt.map .val)] w5:=by
   refine ⟨rfl,by simp [Pv,h02,Ed],fun j g' c' hj hc=> ?_,fun c' hc=> ?_,fun c' hc k hk=> ?_⟩
   ·match j,hj,hc with
    | 0,hj,hc=>cases hj;cases hc;exact vP
    | 1,hj,hc=>cases hj;cases hc;exact Ki
    | 2,hj,hc=>cases hj;cases hc;rw [<-List.map_append,ag];exact BW
    | j + 3,hj,_=>simp at hj
   ·simp only [List.mem_cons,List.not_mem_nil,or_false] at hc
    rcases hc with rfl | rfl | rfl
    ·exact ⟨rfl,rfl⟩
    ·exact ⟨rfl,rfl⟩
    ·exact ⟨rfl,by rw [<-List.map_append];exact bg (hR5.all (aA _))⟩
   ·simp only [List.mem_cons,List.not_mem_nil,or_false] at hc
    rcases hc with rfl | rfl | rfl
    ·cases hk
    ·have:k=134:=by simpa [ax,AV.cQ] using hk
     subst this;exact ⟨by omega,by show 134 < 2 * 66 + 3;omega⟩
    ·rw [<-List.map_append,ai] at hk;cases hk
  refine ⟨[b4,g,rb],_,sG,[(4,.box 132 0),(6,.box 133 0),(44,.val (.slice none 0 0)),(45,.val (.int .i64 ((0:Nat):Int))),(46,.val (.int .i64 0))],⟨?_,?_,⟨_,rfl,rfl,fun i hi=>by cases hi⟩,⟨_,rfl,rfl,fun i hi=>by cases hi⟩,⟨_,rfl,rfl,fun i hi=>by cases hi⟩,trivial⟩,?_⟩
  ·refine ⟨_,rfl,rfl,fun i hi=> ?_⟩
   have:i=132:=by simpa [AV.ids] using hi
   subst this;exact ⟨by show 132≤132;omega,by show 132 < 2 * 66 + 3;omega⟩
  ·refine ⟨_,rfl,rfl,fun i hi=> ?_⟩
   have:i=133:=by simpa [AV.ids] using hi
   subst this;exact ⟨by show 132≤133;omega,by show 133 < 2 * 66 + 3;omega⟩
  refine VS.loop (J:=fun m L M w'=>L=[(4,.box 132 0),(6,.box 133 0),(44,.val (.slice none 0 0)),(45,.val (.int .i64 ((0:Nat):Int))),(46,.val (.int .i64 0))]/\M=[(132,(oP,[.val (.slice none 0 0),.val (.slice none 0 0)])),(133,(Runner,[.val (.slice none 0 0),.row 134 0 nr cr,.val (.slice none 0 0)])),(134,(eh,kG.flatten.map .val++nt.map .val))]/\bt (KU UU) w5 w') 0 ⟨_,_,?_,?_,?_,?_,⟨rfl,rfl,kR _⟩⟩ ?_
  ·exact bT
  ·exact bT
  ·rfl
  ·exact ⟨.lit rfl,.lit rfl,.append (.vals _) (.vals _),trivial⟩
  rintro m L M w6 ⟨rfl,rfl,kw6⟩
  refine af ?_
  refine VS.lz (bE _ _) rfl (fun wz βz kz oz enz=> ?_)
  have Lc:aM w wz:=tB.bC (lS.aF b5) oz.1 (fun x hx=>by simp only [List.mem_cons,List.not_mem_nil,or_false] at hx;rcases hx with rfl | rfl | rfl <;> assumption)
  obtain ⟨o5,o6⟩:=fj (enz.own 134 _ _ rfl) 2 rb rfl rfl
  replace o5:βz 134=rb:=o5
  rw [List.map_append,ag] at o6
  refine ⟨_,_,rfl,?_,Lc⟩
  show qA w.heap.size wz _ _ (dJ (iC a.q b.q kn (bX l)).q (iC a.q b.q kn (bX l)).rows,(iC a.q b.q kn (bX l)).uses)
  rw [Tg,sY,Ig]
  exact ⟨.inr ⟨rb,nRb,_,_,_,_,congrArg (fun g=>Value.slice (some ⟨g,0,none⟩) nr cr) o5,o6,(hR5.a.kp (aA _) aR).o βz⟩,.inl ⟨rfl,rfl⟩⟩
 ·obtain ⟨q,Tg⟩:∃ q,(iC a.q b.q kn (bX l)).q=q:=⟨_,rfl⟩
  obtain ⟨rows,sY⟩:∃ rows,(iC a.q b.q kn (bX l)).rows=rows:=⟨_,rfl⟩
  rw [sY] at hRr
  rw [Tg] at hVr
  have nRb:w.heap.size≤rb:=had rb cA
  have hv4:vb≠b4:=fun e=>by subst e;exact absurd (bM GJ wy) bV
  have hvg:vb≠g:=fun e=>by subst e;exact absurd (bM GJ hg) bV
  have hvr:vb≠rb:=fun e=>by subst e;exact absurd (bM GJ Er) bV
  refine VO.read rfl [.slice (some ⟨vb,off,none⟩) nq cq] rfl (fun j u hj=> ?_) (wV rfl ?_)
  ·match j,hj with
   | 0,hj=>cases hj;exact hg.cell rfl
   | j + 1,hj=>cases hj
  refine ab ?_
  refine VS.vO (KU UU) (fun t=>Nat.beq t 22) table (fun _ _ _=>trivial) (fun w5 β5 k5 b5 en5=> ?_)
  have Ki:=hg.bC b5
  have vP:=wy.bC b5
  have BW:=Er.bC b5
  have hR5:=hRr.kp (aA w.heap.size) (Kp.of (U:=UU) b5)
  have Th:=GJ.bC b5
  have Ti:=hVr.kp (aO w.heap.size) (Kp.of (U:=UU) b5)
  have Pv:b4≠g:=fun e=>by subst e;exact absurd (bM vP Ki) bV
  have h02:b4≠rb:=fun e=>by subst e;exact absurd (bM vP BW) bV
  have Ed:g≠rb:=fun e=>by subst e;exact absurd (bM Ki BW) bV
  have sG:jZ (KU UU) 66 [b4,g,rb] [(oP,[.val (.slice none 0 0),.val (.slice none 0 0)]),(Runner,[.val (.slice (some ⟨vb,off,none⟩) nq cq),.row 134 0 nr cr,.val (.slice none 0 0)]),(eh,kG.flatten.map .val++nt.map .val)] w5:=by
   refine ⟨rfl,by simp [Pv,h02,Ed],fun j g' c' hj hc=> ?_,fun c' hc=> ?_,fun c' hc k hk=> ?_⟩
   ·match j,hj,hc with
    | 0,hj,hc=>cases hj;cases hc;exact vP
    | 1,hj,hc=>cases hj;cases hc;exact Ki
    | 2,hj,hc=>cases hj;cases hc;rw [<-List.map_append,ag];exact BW
    | j + 3,hj,_=>simp at hj
   ·simp only [List.mem_cons,List.not_mem_nil,or_false] at hc
    rcases hc with rfl | rfl | rfl
    ·exact ⟨rfl,rfl⟩
    ·exact ⟨rfl,rfl⟩
    ·exact ⟨rfl,by rw [<-List.map_append];exact bg (hR5.all (aA _))⟩
   ·simp only [List.mem_cons,List.not_mem_nil,or_false] at hc
    rcases hc with rfl | rfl | rfl
    ·cases hk
    ·have:k=134:=by simpa [ax,AV.cQ] using hk
     subst this;exact ⟨by omega,by show 134 < 2 * 66 + 3;omega⟩
    ·rw [<-List.map_append,ai] at hk;cases hk
  refine ⟨[b4,g,rb],_,sG,[(4,.box 132 0),(6,.box 133 0),(44,.val (.slice (some ⟨vb,off,none⟩) nq cq)),(45,.val (.int .i64 ((nq:Nat):Int))),(46,.val (.int .i64 0))],⟨?_,?_,⟨_,rfl,rfl,fun i hi=>by cases hi⟩,⟨_,rfl,rfl,fun i hi=>by cases hi⟩,⟨_,rfl,rfl,fun i hi=>by cases hi⟩,trivial⟩,?_⟩
  ·refine ⟨_,rfl,rfl,fun i hi=> ?_⟩
   have:i=132:=by simpa [AV.ids] using hi
   subst this;exact ⟨by show 132≤132;omega,by show 132 < 2 * 66 + 3;omega⟩
  ·refine ⟨_,rfl,rfl,fun i hi=> ?_⟩
   have:i=133:=by simpa [AV.ids] using hi
   subst this;exact ⟨by show 132≤133;omega,by show 133 < 2 * 66 + 3;omega⟩
  refine VS.loop (J:=fun m L M w'=>∃ (z:Nat) (vs:List (List Value)) (oQ:List aL),z≤nq/\m=nq - z/\L=[(4,.box 132 0),(6,.box 133 0),(44,.val (.slice (some ⟨vb,off,none⟩) nq cq)),(45,.val (.int .i64 ((nq:Nat):Int))),(46,.val (.int .i64 (z:Int)))]/\M=[(132,(oP,[.val (.slice none 0 0),.val (.slice none 0 0)])),(133,(Runner,[.val (.slice (some ⟨vb,off,none⟩) nq cq),.row 134 0 nr cr,.val (.slice none 0 0)])),(134,(eh,vs.flatten.map .val++nt.map .val))]/\qy (eB w.heap.size) 28 w' nr cr vs (nt.map .val) oQ/\dJ (q.drop z) oQ=dJ q rows/\bt (KU UU) w5 w') nq ⟨_,_,?_,?_,?_,?_,⟨0,kG,rows,Nat.zero_le _,rfl,rfl,rfl,hR5.a,rfl,kR _⟩⟩ ?_
  ·exact bT
  ·exact bT
  ·rfl
  ·exact ⟨.lit rfl,.lit rfl,.append (.vals _) (.vals _),trivial⟩
  rintro m L M w6 ⟨z',vs,oQ,Kh,rfl,rfl,rfl,xo,gJ,kw6⟩
  refine af ?_
  by_cases IX:z' < nq
  ·refine VS.aP rfl (decide_eq_true (Int.ofNat_lt.2 IX)) ?_
   obtain ⟨pp,fN⟩:∃ pp,q[z']? =some pp:=⟨_,List.getElem?_eq_getElem (by rw [<-Ti.len];exact IX)⟩
   obtain ⟨cs,hcs,hE5⟩:=Tf Th Ti fN
   obtain ⟨s9,p9,n9,c9,t9,y9,m9,d9,rfl,Ps⟩:=hE5
   refine af ?_
   refine VO.cond rfl du (wV rfl ?_)
   refine VO.gB rfl [.int .i64 (pp.1:Int),.bool s9,.slice p9 n9 c9,.bool t9,.slice y9 m9 d9] rfl (ql Th.lt (by simp [hv4,hvg,hvr]) (FR hcs)) (wV rfl ?_)
   refine af ?_
   have DT:pp.1 < nr:=by
    rw [hRr.len]
    exact (hst.el pp (by rw [Tg];exact List.mem_of_getElem? fN)).2.2.2 |> fun h=>by rw [sY] at h;exact h
   refine VO.cond rfl du (wV rfl ?_)
   have gp:=xo.len
   obtain ⟨rq,Ep⟩:∃ rq,oQ[pp.1]? =some rq:=⟨_,List.getElem?_eq_getElem (by rw [<-gp];exact DT)⟩
   obtain ⟨yw,qz,uw⟩:=xo.el.at pp.1 rq Ep
   have je:=xo.fl
   have Pt:=xo.le
   refine VO.cond rfl (by show 0 + ((pp.1:Int)).toNat * 28 + 24 + 4≤_;rw [je,Int.toNat_natCast];omega) (VO.dG 134 rfl (mG (new:=[.bool s9,.slice p9 n9 c9,.bool t9,.slice y9 m9 d9]) (o:=24) (xo.el.lens (aA _)) qz (bB rfl)) (wV rfl ?_))
   refine af ?_
   refine VS.back (nq - (z' + 1)) aa ⟨_,_,?_,?_,?_,?_,⟨z' + 1,vs.set pp.1 (yw.take 24++(([.bool s9,.slice p9 n9 c9,.bool t9,.slice y9 m9 d9]:List Value)++yw.drop (24 + ([.bool s9,.slice p9 n9 c9,.bool t9,.slice y9 m9 d9]:List Value).length))),oQ.modify pp.1 (fun r=>{ r with closing:=pp.2 }),by omega,rfl,rfl,rfl,?_,?_,kw6⟩⟩
   ·refine ⟨rfl,rfl,rfl,rfl,?_,trivial⟩
    rw [<-aE (i:=z') (by have:=Ti.cm;have:=Ti.le;omega)];rfl
   ·exact bT
   ·rfl
   ·exact ⟨.lit rfl,.lit rfl,.append (.vals _) (.vals _),trivial⟩
   ·refine ⟨by rw [List.length_modify];exact gp,by rw [ek Ep];exact xo.el.set (JF uw ⟨_,_,_,_,_,_,_,_,rfl,Ps.kp kw6⟩),xo.so,xo.sl,xo.le,xo.cm,?_⟩
    rw [List.length_append,List.length_map,dB (mH (xo.el.lens (aA _)) (JG ((aA _).len uw) rfl)),List.length_set]
    rw [List.length_append,List.length_map,dB (xo.el.lens (aA _))] at je
    exact je
   ·rw [<-gJ]
    obtain ⟨hlq,hqe⟩:=List.getElem?_eq_some_iff.1 fN
    rw [List.drop_eq_getElem_cons hlq,hqe];rfl
  refine VS.aQ rfl (decide_eq_false (fun e=>IX (Int.ofNat_lt.1 e))) ?_
  have hzn:z'=nq:=by omega
  have hdn:q.drop z'=[]:=List.drop_of_length_le (by rw [<-Ti.len];omega)
  rw [hdn] at gJ
  replace gJ:oQ=dJ q rows:=gJ
  refine af ?_
  refine VS.lz (bE _ _) rfl (fun wz βz kz oz enz=> ?_)
  have Lc:aM w wz:=tB.bC (lS.aF b5) oz.1 (fun x hx=>by simp only [List.mem_cons,List.not_mem_nil,or_false] at hx;rcases hx with rfl | rfl | rfl <;> assumption)
  obtain ⟨o5,o6⟩:=fj (enz.own 134 _ _ rfl) 2 rb rfl rfl
  replace o5:βz 134=rb:=o5
  rw [List.map_append,ag] at o6
  refine ⟨_,_,rfl,?_,Lc⟩
  show qA w.heap.size wz _ _ (dJ (iC a.q b.q kn (bX l)).q (iC a.q b.q kn (bX l)).rows,(iC a.q b.q kn (bX l)).uses)
  rw [Tg,sY,Ig]
  exact ⟨.inr ⟨rb,nRb,_,_,_,_,congrArg (fun g=>Value.slice (some ⟨g,0,none⟩) nr cr) o5,o6,((gJ▸xo).kp (aA _) aR).o βz⟩,.inl ⟨rfl,rfl⟩⟩
 ·obtain ⟨q,Tg⟩:∃ q,(iC a.q b.q kn (bX l)).q=q:=⟨_,rfl⟩
  obtain ⟨rows,sY⟩:∃ rows,(iC a.q b.q kn (bX l)).rows=rows:=⟨_,rfl⟩
  obtain ⟨us,Ig⟩:∃ us,(iC a.q b.q kn (bX l)).uses=us:=⟨_,rfl⟩
  rw [sY] at hRr
  rw [Tg] at hVr
  rw [Ig] at hUr
  have nRb:w.heap.size≤rb:=had rb cA
  have nUb:w.heap.size≤ub:=had ub cA
  have hv4:vb≠b4:=fun e=>by subst e;exact absurd (bM GJ wy) bV
  have hvg:vb≠g:=fun e=>by subst e;exact absurd (bM GJ hg) bV
  have hvr:vb≠rb:=fun e=>by subst e;exact absurd (bM GJ Er) bV
  have hu4:ub≠b4:=fun e=>by subst e;exact absurd (bM hcU wy) bV
  have hug:ub≠g:=fun e=>by subst e;exact absurd (bM hcU hg) bV
  have hur:ub≠rb:=fun e=>by subst e;exact absurd (bM hcU Er) bV
  refine VO.read rfl [.slice (some ⟨vb,off,none⟩) nq cq] rfl (fun j u hj=> ?_) (wV rfl ?_)
  ·match j,hj with
   | 0,hj=>cases hj;exact hg.cell rfl
   | j + 1,hj=>cases hj
  refine ab ?_
  refine VS.vO (KU UU) (fun t=>Nat.beq t 22) table (fun _ _ _=>trivial) (fun w5 β5 k5 b5 en5=> ?_)
  have Ki:=hg.bC b5
  have vP:=wy.bC b5
  have BW:=Er.bC b5
  have hR5:=hRr.kp (aA w.heap.size) (Kp.of (U:=UU) b5)
  have Th:=GJ.bC b5
  have Ti:=hVr.kp (aO w.heap.size) (Kp.of (U:=UU) b5)
  have hcU5:=hcU.bC b5
  have hU5:=hUr.kp (dR w.heap.size) (Kp.of (U:=UU) b5)
  have Pv:b4≠g:=fun e=>by subst e;exact absurd (bM vP Ki) bV
  have h02:b4≠rb:=fun e=>by subst e;exact absurd (bM vP BW) bV
  have Ed:g≠rb:=fun e=>by subst e;exact absurd (bM Ki BW) bV
  have sG:jZ (KU UU) 66 [b4,g,rb] [(oP,[.val (.slice none 0 0),.val (.slice none 0 0)]),(Runner,[.val (.slice (some ⟨vb,off,none⟩) nq cq),.row 134 0 nr cr,.val (.slice (some ⟨ub,0,none⟩) nu cu')]),(eh,kG.flatten.map .val++nt.map .val)] w5:=by
   refine ⟨rfl,by simp [Pv,h02,Ed],fun j g' c' hj hc=> ?_,fun c' hc=> ?_,fun c' hc k hk=> ?_⟩
   ·match j,hj,hc with
    | 0,hj,hc=>cases hj;cases hc;exact vP
    | 1,hj,hc=>cases hj;cases hc;exact Ki
    | 2,hj,hc=>cases hj;cases hc;rw [<-List.map_append,ag];exact BW
    | j + 3,hj,_=>simp at hj
   ·simp only [List.mem_cons,List.not_mem_nil,or_false] at hc
    rcases hc with rfl | rfl | rfl
    ·exact ⟨rfl,rfl⟩
    ·exact ⟨rfl,rfl⟩
    ·exact ⟨rfl,by rw [<-List.map_append];exact bg (hR5.all (aA _))⟩
   ·simp only [List.mem_cons,List.not_mem_nil,or_false] at hc
    rcases hc with rfl | rfl | rfl
    ·cases hk
    ·have:k=134:=by simpa [ax,AV.cQ] using hk
     subst this;exact ⟨by omega,by show 134 < 2 * 66 + 3;omega⟩
    ·rw [<-List.map_append,ai] at hk;cases hk
  refine ⟨[b4,g,rb],_,sG,[(4,.box 132 0),(6,.box 133 0),(44,.val (.slice (some ⟨vb,off,none⟩) nq cq)),(45,.val (.int .i64 ((nq:Nat):Int))),(46,.val (.int .i64 0))],⟨?_,?_,⟨_,rfl,rfl,fun i hi=>by cases hi⟩,⟨_,rfl,rfl,fun i hi=>by cases hi⟩,⟨_,rfl,rfl,fun i hi=>by cases hi⟩,trivial⟩,?_⟩
  ·refine ⟨_,rfl,rfl,fun i hi=> ?_⟩
   have:i=132:=by simpa [AV.ids] using hi
   subst this;exact ⟨by show 132≤132;omega,by show 132 < 2 * 66 + 3;omega⟩
  ·refine ⟨_,rfl,rfl,fun i hi=> ?_⟩
   have:i=133:=by simpa [AV.ids] using hi
   subst this;exact ⟨by show 132≤133;omega,by show 133 < 2 * 66 + 3;omega⟩
  refine VS.loop (J:=fun m L M w'=>∃ (z:Nat) (vs:List (List Value)) (oQ:List aL),z≤nq/\m=nq - z/\L=[(4,.box 132 0),(6,.box 133 0),(44,.val (.slice (some ⟨vb,off,none⟩) nq cq)),(45,.val (.int .i64 ((nq:Nat):Int))),(46,.val (.int .i64 (z:Int)))]/\M=[(132,(oP,[.val (.slice none 0 0),.val (.slice none 0 0)])),(133,(Runner,[.val (.slice (some ⟨vb,off,none⟩) nq cq),.row 134 0 nr cr,.val (.slice (some ⟨ub,0,none⟩) nu cu')])),(134,(eh,vs.flatten.map .val++nt.map .val))]/\qy (eB w.heap.size) 28 w' nr cr vs (nt.map .val) oQ/\dJ (q.drop z) oQ=dJ q rows/\bt (KU UU) w5 w') nq ⟨_,_,?_,?_,?_,?_,⟨0,kG,rows,Nat.zero_le _,rfl,rfl,rfl,hR5.a,rfl,kR _⟩⟩ ?_
  ·exact bT
  ·exact bT
  ·rfl
  ·exact ⟨.lit rfl,.lit rfl,.append (.vals _) (.vals _),trivial⟩
  rintro m L M w6 ⟨z',vs,oQ,Kh,rfl,rfl,rfl,xo,gJ,kw6⟩
  refine af ?_
  by_cases IX:z' < nq
  ·refine VS.aP rfl (decide_eq_true (Int.ofNat_lt.2 IX)) ?_
   obtain ⟨pp,fN⟩:∃ pp,q[z']? =some pp:=⟨_,List.getElem?_eq_getElem (by rw [<-Ti.len];exact IX)⟩
   obtain ⟨cs,hcs,hE5⟩:=Tf Th Ti fN
   obtain ⟨s9,p9,n9,c9,t9,y9,m9,d9,rfl,Ps⟩:=hE5
   refine af ?_
   refine VO.cond rfl du (wV rfl ?_)
   refine VO.gB rfl [.int .i64 (pp.1:Int),.bool s9,.slice p9 n9 c9,.bool t9,.slice y9 m9 d9] rfl (ql Th.lt (by simp [hv4,hvg,hvr]) (FR hcs)) (wV rfl ?_)
   refine af ?_
   have DT:pp.1 < nr:=by
    rw [hRr.len]
    exact (hst.el pp (by rw [Tg];exact List.mem_of_getElem? fN)).2.2.2 |> fun h=>by rw [sY] at h;exact h
   refine VO.cond rfl du (wV rfl ?_)
   have gp:=xo.len
   obtain ⟨rq,Ep⟩:∃ rq,oQ[pp.1]? =some rq:=⟨_,List.getElem?_eq_getElem (by rw [<-gp];exact DT)⟩
   obtain ⟨yw,qz,uw⟩:=xo.el.at pp.1 rq Ep
   have je:=xo.fl
   have Pt:=xo.le
   refine VO.cond rfl (by show 0 + ((pp.1:Int)).toNat * 28 + 24 + 4≤_;rw [je,Int.toNat_natCast];omega) (VO.dG 134 rfl (mG (new:=[.bool s9,.slice p9 n9 c9,.bool t9,.slice y9 m9 d9]) (o:=24) (xo.el.lens (aA _)) qz (bB rfl)) (wV rfl ?_))
   refine af ?_
   refine VS.back (nq - (z' + 1)) aa ⟨_,_,?_,?_,?_,?_,⟨z' + 1,vs.set pp.1 (yw.take 24++(([.bool s9,.slice p9 n9 c9,.bool t9,.slice y9 m9 d9]:List Value)++yw.drop (24 + ([.bool s9,.slice p9 n9 c9,.bool t9,.slice y9 m9 d9]:List Value).length))),oQ.modify pp.1 (fun r=>{ r with closing:=pp.2 }),by omega,rfl,rfl,rfl,?_,?_,kw6⟩⟩
   ·refine ⟨rfl,rfl,rfl,rfl,?_,trivial⟩
    rw [<-aE (i:=z') (by have:=Ti.cm;have:=Ti.le;omega)];rfl
   ·exact bT
   ·rfl
   ·exact ⟨.lit rfl,.lit rfl,.append (.vals _) (.vals _),trivial⟩
   ·refine ⟨by rw [List.length_modify];exact gp,by rw [ek Ep];exact xo.el.set (JF uw ⟨_,_,_,_,_,_,_,_,rfl,Ps.kp kw6⟩),xo.so,xo.sl,xo.le,xo.cm,?_⟩
    rw [List.length_append,List.length_map,dB (mH (xo.el.lens (aA _)) (JG ((aA _).len uw) rfl)),List.length_set]
    rw [List.length_append,List.length_map,dB (xo.el.lens (aA _))] at je
    exact je
   ·rw [<-gJ]
    obtain ⟨hlq,hqe⟩:=List.getElem?_eq_some_iff.1 fN
    rw [List.drop_eq_getElem_cons hlq,hqe];rfl
  refine VS.aQ rfl (decide_eq_false (fun e=>IX (Int.ofNat_lt.1 e))) ?_
  have hzn:z'=nq:=by omega
  have hdn:q.drop z'=[]:=List.drop_of_length_le (by rw [<-Ti.len];omega)
  rw [hdn] at gJ
  replace gJ:oQ=dJ q rows:=gJ
  refine af ?_
  refine VS.lz (bE _ _) rfl (fun wz βz kz oz enz=> ?_)
  have Lc:aM w wz:=tB.bC (lS.aF b5) oz.1 (fun x hx=>by simp only [List.mem_cons,List.not_mem_nil,or_false] at hx;rcases hx with rfl | rfl | rfl <;> assumption)
  obtain ⟨o5,o6⟩:=fj (enz.own 134 _ _ rfl) 2 rb rfl rfl
  replace o5:βz 134=rb:=o5
  rw [List.map_append,ag] at o6
  refine ⟨_,_,rfl,?_,Lc⟩
  show qA w.heap.size wz _ _ (dJ (iC a.q b.q kn (bX l)).q (iC a.q b.q kn (bX l)).rows,(iC a.q b.q kn (bX l)).uses)
  rw [Tg,sY,Ig]
  exact ⟨.inr ⟨rb,nRb,_,_,_,_,congrArg (fun g=>Value.slice (some ⟨g,0,none⟩) nr cr) o5,o6,((gJ▸xo).kp (aA _) aR).o βz⟩,.inr ⟨ub,nUb,_,_,_,_,rfl,(oz.1.ln ub hcU5.lt (by simp [hu4,hug,hur])).trans hcU5,hU5.kp (dR _) aR⟩⟩
end
section
open Go.RowKit
theorem Ns (x:Rat):x * (((x.den:Nat):Int):Rat)=((x.num:Int):Rat):=by
 have h:((((x.den:Nat):Int):Int):Rat)≠0:=fun e=>by
  have:((x.den:Int):Rat)=((0:Int):Rat):=e
  have:=Rat.intCast_inj.1 this
  have:=x.den_nz;omega
 conv=>lhs;lhs;rw [<-Rat.num_divInt_den x,Rat.divInt_eq_div]
 exact Rat.div_mul_cancel h
theorem Iz.FU {D:Nat} {x:Rat} (h:x.den∣D):Iz D x:=by
 obtain ⟨k,rfl⟩:=h
 refine ⟨x.num * (k:Int),?_⟩
 rw [Int.natCast_mul,Rat.intCast_mul,Rat.intCast_mul,<-Ns x];grind
theorem Iz.up {D E:Nat} {x:Rat} (h:Iz D x):Iz (D * E) x:=by
 obtain ⟨n,hn⟩:=h
 exact ⟨n * (E:Int),by rw [Int.natCast_mul,Rat.intCast_mul,Rat.intCast_mul,<-hn];grind⟩
theorem rsz_of {D M kk:Nat} {x:Rat} (hD:0 < D) (hI:Iz D x) (h1: -((M:Int):Rat)≤x) (h2:x≤((M:Int):Rat)) (hk:M * D < 4294967296 ^ kk) (hk2:D < 4294967296 ^ kk):eM x kk:=by
 obtain ⟨n,hn⟩:=hI
 have hD':(0:Rat) < ((D:Int):Rat):=by
  have:((0:Int):Rat) < ((D:Int):Rat):=Rat.intCast_lt_intCast.2 aa
  exact this
 have hDn:((D:Int):Rat)≠0:=by grind
 have hx:x=Rat.divInt n (D:Int):=by
  rw [Rat.divInt_eq_div,<-hn,Rat.div_def,Rat.mul_assoc,Rat.mul_inv_cancel _ hDn,Rat.mul_one]
 have b1:n≤(M:Int) * (D:Int):=by
  have:=Rat.mul_le_mul_of_nonneg_right h2 (Rat.le_of_lt hD')
  rw [hn,<-Rat.intCast_mul] at this
  exact Rat.intCast_le_intCast.1 this
 have b2: -((M:Int) * (D:Int))≤n:=by
  have:=Rat.mul_le_mul_of_nonneg_right h1 (Rat.le_of_lt hD')
  rw [hn,<-Rat.intCast_neg,<-Rat.intCast_mul] at this
  have:=Rat.intCast_le_intCast.1 this
  rw [Int.neg_mul] at this
  exact this
 rw [hx]
 refine oG (Sz.of_lt ?_) (Sz.of_lt (by simpa using hk2)) aa
 have:n.natAbs≤M * D:=by
  have e:((M * D:Nat):Int)=(M:Int) * (D:Int):=Int.natCast_mul ..
  omega
 omega
def xp:List (Rat×Rat)->Nat
 | []=>1
 | e::l=>e.1.den * e.2.den * xp l
theorem JH:∀ l:List (Rat×Rat),0 < xp l
 | []=>by decide
 | e::l=>Nat.mul_pos (Nat.mul_pos e.1.den_pos e.2.den_pos) (JH l)
theorem JI:∀ {l:List (Rat×Rat)} {e:Rat×Rat},e∈l->(e.1.den * e.2.den)∣xp l
 | x::l,e,h=>by
   rcases List.mem_cons.1 h with rfl | h
   ·exact Nat.dvd_mul_right ..
   ·exact Nat.dvd_mul_left_of_dvd (JI h) _
theorem Iz.mul {a b:Nat} {x y:Rat} (h:Iz a x) (k:Iz b y):Iz (a * b) (x * y):=by
 obtain ⟨n,hn⟩:=h;obtain ⟨m,hm⟩:=k
 exact ⟨n * m,by rw [Int.natCast_mul,Rat.intCast_mul,Rat.intCast_mul,<-hn,<-hm];grind⟩
theorem Iz.dvd {D E:Nat} {x:Rat} (h:Iz D x) (k:D∣E):Iz E x:=by
 obtain ⟨c,rfl⟩:=k
 exact h.up
theorem BX (S F e:Rat):aw S F e=F\/aw S F e=S * e\/aw S F e=0:=by
 rw [show aw S F e=(if gK 0 (if gK (S * e) F=true then S * e else F)=true then 0 else (if gK (S * e) F=true then S * e else F)) from rfl]
 by_cases h:gK (S * e) F=true
 ·simp only [if_pos h]
  split <;> simp
 ·simp only [if_neg h]
  split <;> simp
theorem LQ {x:Rat} {k:Nat} (h:x.num.natAbs≤4294967296 ^ k): -(((4294967296 ^ k:Nat):Int):Rat)≤x/\x≤(((4294967296 ^ k:Nat):Int):Rat):=by
 have hd:(1:Rat)≤((x.den:Int):Rat):=by
  have:((1:Int):Rat)≤((x.den:Int):Rat):=Rat.intCast_le_intCast.2 (by have:=x.den_pos;omega)
  exact this
 have hm:=Ns x
 have hN0:(0:Rat)≤(((4294967296 ^ k:Nat):Int):Rat):=by
  have:((0:Int):Rat)≤(((4294967296 ^ k:Nat):Int):Rat):=Rat.intCast_le_intCast.2 aa
  exact this
 have h1:((x.num:Int):Rat)≤(((4294967296 ^ k:Nat):Int):Rat):=Rat.intCast_le_intCast.2 aa
 have h2: -(((4294967296 ^ k:Nat):Int):Rat)≤((x.num:Int):Rat):=by
  rw [<-Rat.intCast_neg];exact Rat.intCast_le_intCast.2 aa
 generalize (((4294967296 ^ k:Nat):Int):Rat)=N at *
 generalize ((x.num:Int):Rat)=n at *
 generalize ((((x.den:Nat):Int):Int):Rat)=d at *
 have h3:N≤N * d:=by
  have:=Rat.mul_le_mul_of_nonneg_left hd hN0
  rw [Rat.mul_one] at this;exact this
 constructor
 ·refine Rat.not_lt.1 fun hlt=> ?_
  have:=Rat.mul_lt_mul_of_pos_right hlt (show 0 < d by grind)
  grind
 ·refine Rat.not_lt.1 fun hlt=> ?_
  have:=Rat.mul_lt_mul_of_pos_right hlt (show 0 < d by grind)
  grind
def Lm (k:Nat) (x:Rat):Prop:=x.num.natAbs≤4294967296 ^ k/\x.den≤4294967296 ^ k
theorem Nt {k:Nat}:∀ {l:List (Rat×Rat)},(∀ e∈l,Lm k e.1/\Lm k e.2)->xp l≤4294967296 ^ (2 * k * l.length)
 | [],_=>by simp [xp]
 | e::l,h=>by
   obtain ⟨h1,h2⟩:=h e cA
   have h3:=Nt (l:=l) fun x hx=>h x (by simp [hx])
   have e1:4294967296 ^ (2 * k * (e::l).length)=(4294967296 ^ k * 4294967296 ^ k) * 4294967296 ^ (2 * k * l.length):=by
    rw [<-Nat.pow_add,<-Nat.pow_add];congr 1;rw [List.length_cons];grind
   rw [e1]
   exact Nat.mul_le_mul (Nat.mul_le_mul h1.2 h2.2) h3
theorem Tj {k n:Nat} {S F:Rat} {l:List (Rat×Rat)} (hS:Lm k S) (hF:Lm k F) (h0:0≤S) (h1:S≤1) (hl:∀ e∈l,Lm k e.1/\Lm k e.2) (hn:l.length≤n) (hk:1≤k):
  BV (S.den * F.den * xp l) (((4294967296 ^ k:Nat):Int):Rat) S F (2 * k * n + 3 * k + 1) l:=by
 obtain ⟨N,hN⟩:∃ N,N=4294967296 ^ k:=⟨_,rfl⟩
 have hNk:4294967296≤N:=by rw [hN];exact Nat.le_self_pow aa _
 have hN0:(0:Rat)≤((N:Int):Rat):=by
  have:((0:Int):Rat)≤((N:Int):Rat):=Rat.intCast_le_intCast.2 aa
  exact this
 refine ⟨fun e he=> ?_,fun x hI iV MQ=> ?_⟩
 ·rw [<-hN]
  obtain ⟨he1,he2⟩:=hl e he
  have b1:=LQ he1.1
  have b2:=LQ he2.1
  have b3:=LQ hF.1
  rw [<-hN] at b1 b2 b3
  have hd:=JI he
  have hSe:S * e.2≤((N:Int):Rat):=by
   by_cases h:0≤e.2
   ·have:=Rat.mul_le_mul_of_nonneg_right h1 h
    rw [Rat.one_mul] at this
    exact Rat.le_trans this b2.2
   ·have h':0≤-e.2:=by grind
    have:=Rat.mul_nonneg h0 h'
    rw [Rat.mul_neg] at this
    grind
  have hIe:Iz (S.den * F.den * xp l) (S * e.2):=((Iz.FU (Nat.dvd_refl S.den)).mul (Iz.FU (Nat.dvd_refl e.2.den))).dvd (by
   obtain ⟨c,hc⟩:=hd
   rw [hc]
   exact ⟨F.den * e.1.den * c,by grind⟩)
  refine ⟨?_,?_,Iz.FU ?_,b1.1,b1.2⟩
  ·rcases BX S F e.2 with h | h | h <;> rw [h]
   ·exact Iz.FU ⟨S.den * xp l,by grind⟩
   ·exact hIe
   ·exact Iz.zero
  ·rcases BX S F e.2 with h | h | h <;> rw [h]
   ·exact b3.2
   ·exact hSe
   ·exact hN0
  ·obtain ⟨c,hc⟩:=hd
   rw [hc]
   exact ⟨S.den * F.den * e.2.den * c,by grind⟩
 ·rw [<-hN] at iV MQ
  have jU:=Nt hl
  have hpow:4294967296 ^ (2 * k * l.length)≤4294967296 ^ (2 * k * n):=Nat.pow_le_pow_right aa (Nat.mul_le_mul_left _ hn)
  have hD:S.den * F.den * xp l≤N * N * 4294967296 ^ (2 * k * n):=Nat.mul_le_mul (Nat.mul_le_mul (by rw [hN];exact hS.2) (by rw [hN];exact hF.2)) (Nat.le_trans jU hpow)
  have e1:4294967296 ^ (2 * k * n + 3 * k + 1)=(N * N * 4294967296 ^ (2 * k * n)) * (N * 4294967296):=by
   rw [hN,show 2 * k * n + 3 * k + 1=k + k + 2 * k * n + (k + 1) by omega,Nat.pow_add,Nat.pow_add,Nat.pow_add,Nat.pow_succ]
  have hP:0 < N * N * 4294967296 ^ (2 * k * n):=Nat.mul_pos (Nat.mul_pos aa aa) (Nat.pow_pos aa)
  have e2:(((N + N:Nat):Int):Rat)=((N:Int):Rat) + ((N:Int):Rat):=by rw [<-Rat.intCast_add];rfl
  refine rsz_of (M:=N + N) (Nat.mul_pos (Nat.mul_pos S.den_pos F.den_pos) (JH l)) hI (by rw [e2];exact iV) (by rw [e2];exact MQ) ?_ ?_
  ·rw [e1]
   calc (N + N) * (S.den * F.den * xp l)≤(N + N) * (N * N * 4294967296 ^ (2 * k * n)):=Nat.mul_le_mul_left _ hD
    _ < (N * 4294967296) * (N * N * 4294967296 ^ (2 * k * n)):=Nat.mul_lt_mul_of_pos_right aa hP
    _=_:=Nat.mul_comm _ _
  ·rw [e1]
   calc S.den * F.den * xp l≤(N * N * 4294967296 ^ (2 * k * n)) * 1:=by rw [Nat.mul_one];exact hD
    _ < _:=Nat.mul_lt_mul_of_pos_left aa hP
end
end Go.Proofs.YtabalinjfgcfeaaGreat
