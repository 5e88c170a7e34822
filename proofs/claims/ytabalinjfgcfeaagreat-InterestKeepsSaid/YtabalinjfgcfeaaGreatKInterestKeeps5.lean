/- Df of the proof,laid behind one another. -/
import Derived.Test.YtabalinjfgcfeaaGreatKInterestKeeps4
set_option linter.all false
set_option maxHeartbeats 64000000
set_option maxRecDepth 4000
namespace Go.Proofs.YtabalinjfgcfeaaGreat
section
open Go.RowKit
attribute [local irreducible] aC VS
def Iz (D:Nat) (x:Rat):Prop:=∃ n:Int,x * ((D:Int):Rat)=((n:Int):Rat)
theorem Iz.zero {D:Nat}:Iz D 0:=⟨0,by rw [Rat.zero_mul];rfl⟩
theorem Iz.add {D:Nat} {x y:Rat} (h:Iz D x) (k:Iz D y):Iz D (x + y):=by
 obtain ⟨a,ha⟩:=h;obtain ⟨b,hb⟩:=k
 exact ⟨a + b,by rw [Rat.intCast_add,<-ha,<-hb];grind⟩
theorem Iz.sub {D:Nat} {x y:Rat} (h:Iz D x) (k:Iz D y):Iz D (x - y):=by
 obtain ⟨a,ha⟩:=h;obtain ⟨b,hb⟩:=k
 exact ⟨a - b,by rw [Rat.intCast_sub,<-ha,<-hb];grind⟩
theorem VO.via {C:Cx} {m:Option (List FuncId)} {full:Array Oper} {l:List Oper} {Q:Exit->Act->World->Prop} {F:Fr} {H:Hp} {w:World} {P:Fr->Hp->World->Prop} {Tt Tu:List It} (h1:(∀ F' H' w',P F' H' w'->VS C Q Tu F' H' w')->aC C m full l (VS C Q Tt) F H w) (h2:∀ F' H' w',P F' H' w'->VS C Q Tu F' H' w'):aC C m full l (VS C Q Tt) F H w:=h1 h2
theorem Ae {d:Rat} (h:d≠0):eg d 0≠0:=fun e=>h (by
 have h1:=lN.1 (show eg d 0≤0 by omega)
 have h2:=vu.1 (show eg d 0≥0 by omega)
 grind)
theorem rnr_ok' {a y:AV} {r:Value} (h:aG a=true) (hr:aV r=true) (hu:aG y=true):[a,.val r,y].all aG=true:=by
 rw [List.all_cons,List.all_cons,List.all_cons,h,hu]
 show (true && (aV r && true))=true
 rw [hr];rfl
structure yy (B:Nat) (w:World) (n c:Nat) (vs:List (List Value)) (sp:List AV) (es:List Uq):Prop where
 len:n=es.length
 el:bL (qy B) w es vs
 so:sp.all aG=true
 sl:ax sp=[]
 le:n≤c
 cm:c≤9223372036854775807
 fl:(vs.flatten.map AV.val++sp).length=c * 6
theorem yy.kp {B n c:Nat} {w w':World} {vs:List (List Value)} {sp:List AV} {es:List Uq} (h:yy B w n c vs sp es) (k:Kp UU w w'):yy B w' n c vs sp es:=⟨h.len,h.el.kp (eh B) k,h.so,h.sl,h.le,h.cm,h.fl⟩
theorem yy.o {B n c:Nat} {w:World} {vs:List (List Value)} {sp:List AV} {es:List Uq} (h:yy B w n c vs sp es) (β:Nat->Nat):dT (qy B) 6 w n 0 c [] vs (sp.map (AV.leaf β)) es:=
 ⟨h.len,.inl rfl,rfl,h.el,du h.so,h.le,h.cm,by have:=h.fl;rw [List.length_append,List.length_map] at this;rw [List.length_append,List.length_map];exact this⟩
theorem bC {pre:List Value} {off:Nat} {cs:List Value} {vs:List (List Value)} {spare:List Value} (jQ:pre.length=off) (k:Nat) (ds:List Value) (hd:ds <+:cs.drop k):∀ (j:Nat) (u:AV),(ds.map AV.val)[j]? =some u->((pre++((cs::vs).flatten++spare)).map AV.val)[off + k + j]? =some u:=by
 intro j u hj
 obtain ⟨t,ht⟩:=hd
 rw [List.getElem?_map] at hj ⊢
 have hlt:j < ds.length:=by
  by_cases h:j < ds.length
  ·exact h
  ·rw [List.getElem?_eq_none ab] at hj;cases hj
 have hk:k + j < cs.length:=by
  have:=congrArg List.length ht
  rw [List.length_append,List.length_drop] at this;omega
 rw [List.getElem?_append_right ab,jQ,List.flatten_cons,List.append_assoc,show off + k + j - off=k + j by omega,List.getElem?_append_left hk,<-List.getElem?_drop,<-ht,List.getElem?_append_left hlt]
 exact hj
theorem vC {pre:List Value} {off:Nat} {a x1 x2 x3 x4 y1 y2 y3 y4:Value} {vs:List (List Value)} {spare:List Value} (jQ:pre.length=off):
  ((pre++(([a,x1,x2,x3,x4]::vs).flatten++spare)).map AV.val).take (off + 1)++([.val y1,.val y2,.val y3,.val y4]++((pre++(([a,x1,x2,x3,x4]::vs).flatten++spare)).map AV.val).drop (off + 1 + 4))=(pre++(([a,y1,y2,y3,y4]::vs).flatten++spare)).map AV.val:=by
 have e:off=(pre.map AV.val).length:=by rw [List.length_map];exact jQ.symm
 rw [List.map_append,e,Nat.add_assoc,List.take_length_add_append,List.drop_length_add_append,List.append_assoc,List.map_append]
 simp
theorem pV {pre:List Value} {off c':Nat} {a y1 y2 y3 y4:Value} (jQ:pre.length=off):(pre++[a,y1,y2,y3,y4]).length=(if c'=1 then off else off + 5)\/c' - 1=0:=by
 by_cases h:c'=1
 ·exact .inr ab
 ·rw [if_neg h,List.length_append,jQ];exact .inl rfl
theorem pW {a x1 x2 x3 x4:Value} {vs:List (List Value)} {spare:List Value} {c':Nat} (h:(([a,x1,x2,x3,x4]::vs).flatten++spare).length=c' * 5):(vs.flatten++spare).length=(c' - 1) * 5:=by
 rw [List.flatten_cons,List.append_assoc,List.length_append] at h
 have h':5 + (vs.flatten++spare).length=c' * 5:=h
 omega
theorem eN (pre cs:List Value) (vs:List (List Value)) (spare:List Value):(pre++((cs::vs).flatten++spare)).map AV.val=((pre++cs)++(vs.flatten++spare)).map AV.val:=by
 rw [List.flatten_cons,List.append_assoc,List.append_assoc]
def vD (B:Nat) (D:Nat) (M:Rat) (W0:World) (rv:Value) (y:Nat) (q:List Vq) (m:Rat) (idx:Nat) (L:List (Nat×AV)) (Mm:List (Nat×(TypeId×List AV))) (w':World):Prop:=
 ∃ (q':List Vq) (aX n' c':Nat) (ck:List Value) (iT:List (List Value)) (aj:List Value) (m' s':Rat) (done:List Uq) (v8 Us:AV) (Um:List (Nat×(TypeId×List AV))) (s1 t1 s2 t2:Bool) (p1 y1 p2 y2:Option Addr) (n1 c1 m1 d1 n2 c2 m2 d2:Nat),
   idx=2 * q'.length + (if 0 < m' then 1 else 0)/\L=[(0,.box 154 0),(1,.val (.int .i64 (y:Int))),(5,.box 5 0),(6,.box 6 0),(7,.box 7 0),(8,v8)]/\
   Mm=(154,(Runner,[.row 155 aX n' c',.val rv,Us]))::(155,(dG,(ck++(iT.flatten++aj)).map .val))::(5,(26,([.bool s1,.slice p1 n1 c1,.bool t1,.slice y1 m1 d1]:List Value).map .val))::(6,(26,([.bool false,.slice none 0 0,.bool false,.slice none 0 0]:List Value).map .val))::(7,(26,([.bool s2,.slice p2 n2 c2,.bool t2,.slice y2 m2 d2]:List Value).map .val))::Um/\
   dT (dz B) 5 w' n' aX c' ck iT aj q'/\bE w' (.agg #[.bool s1,.slice p1 n1 c1,.bool t1,.slice y1 m1 d1]) m'/\aH w' W0.heap.size (.agg #[.bool s2,.slice p2 n2 c2,.bool t2,.slice y2 m2 d2]) s'/\Iz D m'/\Iz D s'/\0≤m'/\0≤s'/\s' + m'=m/\(∀ p∈q',Iz D p.2/\0≤p.2/\p.2≤M)/\
   qH y q m=done++qH y q' m'/\ny q m=ny q' m'/\uh q m=s' + uh q' m'/\((n'=0/\v8=.val (.pointer none))\/(n'≠0/\v8=.mR 155 aX))/\done.length + (if 0 < m' then q'.length else 0)≤q.length/\
   ((Us=.val (.slice none 0 0)/\Um=[]/\done=[])\/∃ un uc rJ oP,Us=.row 47 0 un uc/\Um=[(47,(fy,rJ.flatten.map .val++oP))]/\yy B w' un uc rJ oP (done))
def vE (B:Nat) (D:Nat) (M:Rat) (W0:World) (rv:Value) (y:Nat) (q:List Vq) (m:Rat) (CR Fu:Nat) (oQ:List (List Value)) (qz:List Value) (us0:List Uq) (idx:Nat) (L:List (Nat×AV)) (Mm:List (Nat×(TypeId×List AV))) (w':World):Prop:=
 ∃ (q':List Vq) (aX n' c':Nat) (ck:List Value) (iT:List (List Value)) (aj:List Value) (m' s':Rat) (done:List Uq) (v8 Us:AV) (Um:List (Nat×(TypeId×List AV))) (s1 t1 s2 t2:Bool) (p1 y1 p2 y2:Option Addr) (n1 c1 m1 d1 n2 c2 m2 d2:Nat),
   idx=2 * q'.length + (if 0 < m' then 1 else 0)/\L=[(0,.box 154 0),(1,.val (.int .i64 (y:Int))),(5,.box 5 0),(6,.box 6 0),(7,.box 7 0),(8,v8)]/\
   Mm=(154,(Runner,[.row 155 aX n' c',.val rv,Us]))::(155,(dG,(ck++(iT.flatten++aj)).map .val))::(5,(26,([.bool s1,.slice p1 n1 c1,.bool t1,.slice y1 m1 d1]:List Value).map .val))::(6,(26,([.bool false,.slice none 0 0,.bool false,.slice none 0 0]:List Value).map .val))::(7,(26,([.bool s2,.slice p2 n2 c2,.bool t2,.slice y2 m2 d2]:List Value).map .val))::Um/\
   dT (dz B) 5 w' n' aX c' ck iT aj q'/\bE w' (.agg #[.bool s1,.slice p1 n1 c1,.bool t1,.slice y1 m1 d1]) m'/\aH w' W0.heap.size (.agg #[.bool s2,.slice p2 n2 c2,.bool t2,.slice y2 m2 d2]) s'/\Iz D m'/\Iz D s'/\0≤m'/\0≤s'/\s' + m'=m/\(∀ p∈q',Iz D p.2/\0≤p.2/\p.2≤M)/\
   qH y q m=done++qH y q' m'/\ny q m=ny q' m'/\uh q m=s' + uh q' m'/\((n'=0/\v8=.val (.pointer none))\/(n'≠0/\v8=.mR 155 aX))/\done.length + (if 0 < m' then q'.length else 0)≤q.length/\
   ((Us=.row 156 0 CR Fu/\Um=[(156,(fy,oQ.flatten.map .val++qz.map .val))]/\done=[]/\bH (KU UU) W0 w')\/∃ un uc rJ oP,Us=.row 47 0 un uc/\Um=[(47,(fy,rJ.flatten.map .val++oP))]/\yy B w' un uc rJ oP (us0++done))
set_option maxRecDepth 4000 in
theorem Tv (B g b off n c y D kk:Nat) (M m:Rat) (pre:List Value) (vs:List (List Value)) (spare:List Value) (q:List Vq) (rv v:Value) (w:World)
  (hg:bg w g Runner #[.slice (some ⟨b,off,none⟩) n c,rv,.slice none 0 0]) (hb:bg w b dG (pre++(vs.flatten++spare)).toArray) (hO:dT (dz B) 5 w n off c pre vs spare q) (hr:aV rv=true) (hv:bE w v m) (hmI:Iz D m) (CP:0≤m) (hmM:m≤M) (hq:∀ p∈q,Iz D p.2/\0≤p.2/\p.2≤M)
  (hK:∀ x,Iz D x->0≤x->x≤M->et x kk) (hk:kk≤100000) (lB:q.length≤1000) (hB:B≤w.heap.size):
  Calls Tryz.prog 73 #[.pointer (some ⟨g,0,none⟩),.int .i64 (y:Int),v] w fun o w'=>∃ x,o=.returned x/\aH w' w.heap.size x (uh q m)/\tw [g,b] w w'/\∃ aX n' c' ck iT aj uv,bg w' g Runner #[.slice (some ⟨b,aX,none⟩) n' c',rv,uv]/\bg w' b dG (ck++(iT.flatten++aj)).toArray/\dT (dz B) 5 w' n' aX c' ck iT aj (ny q m)/\((uv=.slice none 0 0/\qH y q m=[])\/∃ b' un uc rJ oP,w.heap.size≤b'/\uv=.slice (some ⟨b',0,none⟩) un uc/\bg w' b' fy (rJ.flatten++oP).toArray/\dT (qy B) 6 w' un 0 uc [] rJ oP (qH y q m)):=by
 have hgb:g≠b:=fun e=>by subst e;exact absurd (bN hg hb) bW
 obtain ⟨s0,p0,n0,c0,t0,y0,m0,d0,rfl⟩:=hv.form
 have sH:jX (KU UU) 77 [g,b] [(Runner,[.row 155 off n c,.val rv,.val (.slice none 0 0)]),(dG,(pre++(vs.flatten++spare)).map .val)] w:=by
  refine ⟨rfl,by simp [hgb],fun j g' c' hj hc=> ?_,fun c' hc=> ?_,fun c' hc k hk=> ?_⟩
  ·match j,hj,hc with
   | 0,hj,hc=>cases hj;cases hc;exact hg
   | 1,hj,hc=>cases hj;cases hc;rw [ah];exact hb
   | j + 2,hj,_=>simp at hj
  ·rcases List.mem_cons.1 hc with rfl | hc
   ·exact ⟨rfl,Fq rfl hr rfl⟩
   ·cases List.mem_singleton.1 hc
    exact ⟨rfl,bh (hO.all (aO B))⟩
  ·rcases List.mem_cons.1 hc with rfl | hc
   ·have:k=155:=by simpa [ax,AV.cT] using hk
    subst this;exact ⟨by omega,by show 155 < 2 * 77 + 2;omega⟩
   ·cases List.mem_singleton.1 hc
    rw [ai] at hk;cases hk
 refine fm Tryz.prog w _ (KU UU) (fun t=>Nat.beq t 22) table (fun _ _=>trivial) (ad:=[g,b]) (us:=[_,_]) Tryz.func73 rfl Tryz.ntmps73 (bu rfl) sH (bu rfl) ?_
 refine af ?_
 refine VO.call rfl rfl (fk Tryz.func44) (fun bD cQ bG=>((bX 0 bD ab ab).mono (fun o w2 h=>And.intro h bG.1.size)).mono ?_)
 rintro o w1 ⟨⟨r9,rfl,q9,ME⟩,Lw⟩
 obtain ⟨s9,p9,n9,c9,t9,y9,m9,d9,rfl⟩:=q9.form
 refine ⟨_,rfl,ME,fun Ff _ bb9=>wV rfl ?_⟩
 refine af ?_
 have Ng:((0:Int):Rat)=0:=rfl
 rw [Ng] at q9
 apply VO.via (P:=fun F' H' w'=>Entry (vD B D M w rv y q m ) (2 * q.length + (if 0 < m then 1 else 0)) F' H' w')
 ·intro cont
  by_cases nM:n=0
  ·refine VO.dU (x:=.row 155 off n c) (p:=fun _=>none) (c:=c) rfl (fun β=>.inr ⟨_,congrArg (fun n=>Value.slice (some ⟨β 155,off,none⟩) n c) nM⟩) rfl (fk Tryz.func75) rfl (fun w3 k3 b3=>wV rfl ?_)
   refine af ?_
   refine cont _ _ _ ⟨_,_,?_,?_,?_,?_,⟨q,off,n,c,pre,vs,spare,m,0,[],.val (.pointer none),_,_,_,_,_,_,_,_,_,_,_,_,_,_,_,_,_,_,rfl,rfl,rfl,hO.kp (aO B) aU,hv.k,(q9.mono Lw).kp aU,hmI,Iz.zero,CP,Rat.le_refl,by grind,hq,rfl,rfl,by grind,.inl ⟨nM,rfl⟩,by split <;> simp,.inl ⟨rfl,rfl,rfl⟩⟩⟩
   ·exact cd
   ·exact cd
   ·rfl
   ·exact ⟨.lit rfl,.vals _,.vals _,.vals _,.vals _,trivial⟩
  ·refine VO.dA rfl rfl (fk Tryz.func75) rfl nM (by intro h;cases h) (fun w3 k3 b3=>wV rfl ?_)
   refine af ?_
   refine cont _ _ _ ⟨_,_,?_,?_,?_,?_,⟨q,off,n,c,pre,vs,spare,m,0,[],.mR 155 off,_,_,_,_,_,_,_,_,_,_,_,_,_,_,_,_,_,_,rfl,rfl,rfl,hO.kp (aO B) aU,hv.k,(q9.mono Lw).kp aU,hmI,Iz.zero,CP,Rat.le_refl,by grind,hq,rfl,rfl,by grind,.inr ⟨nM,rfl⟩,by split <;> simp,.inl ⟨rfl,rfl,rfl⟩⟩⟩
   ·exact cd
   ·exact cd
   ·rfl
   ·exact ⟨.lit rfl,.vals _,.vals _,.vals _,.vals _,trivial⟩
 ·intro F0 H0 w0' hent
  refine VS.loop (J:=vD B D M w rv y q m ) _ hent ?_
  rintro idx L Mm w' ⟨q',aX,n',c',ck,iT,aj,m',s',done,v8,Us,Um,s1,t1,s2,t2,p1,y1,p2,y2,n1,c1,m1,d1,n2,c2,m2,d2,rfl,rfl,rfl,jh,Kf,sW,od,PY,xj,hs0,hsm,CG,eU,eL,eS,PZ,jR,wm⟩
  have rK:m'≤M:=by grind
  have hsM:s'≤M:=by grind
  rcases wm with ⟨rfl,rfl,rfl⟩ | ⟨un,uc,rJ,oP,rfl,rfl,xk⟩
  ·rcases PZ with ⟨nM,rfl⟩ | ⟨nM,rfl⟩
   ·have JW:q'=[]:=List.eq_nil_of_length_eq_zero (by rw [<-jh.len];exact nM)
    subst JW
    have fU:qH y [] m'=[]:=rfl
    have fL:ny [] m'=[]:=rfl
    have fS:uh [] m'=0:=rfl
    refine af ?_
    refine VS.lp (bF _ _) rfl (fun wz β kz oz en=> ?_)
    obtain ⟨o1,o2⟩:=fo (en.own 154 _ _ rfl) 0 g rfl rfl
    obtain ⟨o3,o4⟩:=fo (en.own 155 _ _ rfl) 1 b rfl rfl
    rw [ah] at o4
    replace o3:β 155=b:=o3
    rw [fU] at eU
    rw [fL] at eL
    rw [fS,show s' + 0=s' by grind] at eS
    refine ⟨_,rfl,?_,oz.1,aX,n',c',ck,iT,aj,.slice none 0 0,?_,o4,?_,.inl ⟨rfl,?_⟩⟩
    ·rw [eS];exact sW.k
    ·rw [<-o3];exact o2
    ·rw [eL];exact jh.kp (aO B) aU
    ·rw [eU];rfl
   ·obtain ⟨e,gG,rfl⟩:∃ e gG,q'=e::gG:=by
     cases q' with
     | nil=>exact absurd jh.len nM
     | cons e gG=>exact ⟨e,gG,rfl⟩
    obtain ⟨cs,gX,rfl,hE,tT⟩:∃ cs gX,iT=cs::gX/\dz B w' cs e/\bL (dz B) w' gG gX:=by
     have:=jh.el
     cases this with
     | cons h1 h2=>exact ⟨_,_,rfl,h1,h2⟩
    obtain ⟨s3,p3,n3,c3,t3,y3,m3,d3,rfl,Tw⟩:=hE
    have yr:=jh.le
    have tI:=jh.len
    have yo:=jh.cm
    have jQ:ck.length=aX:=jh.pl.resolve_right ab
    obtain ⟨mP,CK,Gu⟩:=CG e cw
    refine af ?_
    obtain ⟨sg,me⟩:∃ sg,eg m' 0=sg:=⟨_,rfl⟩
    refine VO.call rfl rfl (fk Tryz.func13) (fun bD cQ bG=>(eR _ m' kk bD (Kf.ki (hK m' od xj rK)) ab sg me).mono ?_)
    rintro e w1 ⟨rfl,aI⟩
    skip
    refine ⟨_,rfl,aI,fun dt _ bb1=>wV rfl ?_⟩
    refine af ?_
    by_cases hm:0 < m'
    ·have mI:sg > 0:=by rw [<-me];exact gp.2 hm
     rw [if_pos hm] at jR
     refine VS.aP rfl (decide_eq_true mI) ?_
     refine af ?_
     refine VO.cW rfl (([.bool s3,.slice p3 n3 c3,.bool t3,.slice y3 m3 d3]:List Value).map .val) rfl (bC jQ 1 _ ⟨[],rfl⟩) (wV rfl ?_)
     refine af ?_
     have xO:=ct e.2 m'
     have Lx:0≤ae e.2 m':=by rcases xO with ⟨h,_⟩ | ⟨h,_⟩ <;> rw [h] <;> assumption
     have nC:Iz D (ae e.2 m'):=by rcases xO with ⟨h,_⟩ | ⟨h,_⟩ <;> rw [h] <;> assumption
     have Bm:=dv e.2 m'
     have zW:=cJ e.2 m'
     have og:=hK _ nC Lx (Rat.le_trans zW rK)
     refine VO.ee rfl (fk Tryz.func71) (fun cG β dQ cV ho=>((gT _ _ e.2 [m'] kk cG (Tw.rd.ki (hK e.2 mP CK Gu)) (cZ (ho.own 31 (.base (List.mem_singleton.2 rfl)) _ _ rfl) [] (vs:=[[.bool s1,.slice p1 n1 c1,.bool t1,.slice y1 m1 d1]]) (by rfl) rfl (bt.cons (Kf.ki (hK m' od xj rK)) bt.nil) (bu rfl) bW) ab (bu rfl)).mono (fun o w2 h=>And.intro h cV.1.size)).mono ?_)
     rintro o w2 ⟨⟨r4,rfl,q4,z4,ba⟩,tU⟩
     rw [eM] at q4
     have BS:aH w2 w.heap.size r4 (ae e.2 m'):=q4.mono tU
     obtain ⟨s4,p4,n4,c4,t4,y4,m4,d4,rfl⟩:=BS.form
     refine ⟨_,rfl,ba,fun dR _ bb2=>wV rfl ?_⟩
     refine af ?_
     refine VO.cW rfl (([.int .i64 (e.1:Int)]:List Value).map .val) rfl (bC jQ 0 _ ⟨_,rfl⟩) (wV rfl ?_)
     refine af ?_
     refine VO.app (bF _ _) (t:=34) (e:=fy) (sz:=6) (n:=0) (c:=0) (mm:=1) (known:=[]) (spare:=[]) (del:=none) (news:=([.int .i64 (e.1:Int),.int .i64 (y:Int),.bool s4,.slice p4 n4 c4,.bool t4,.slice y4 m4 d4]:List Value).map .val) (dst:=47) rfl rfl rfl rfl rfl rfl rfl rfl (bu rfl) rfl (.inl ⟨rfl,rfl,rfl,rfl,rfl,rfl,by omega⟩) (.inl rfl) rfl rfl (Nat.le_refl _) ab ⟨rfl,rfl,rfl⟩ ⟨rfl,rfl,rfl⟩ rfl ab
      (fun w1 β k1 b1 ho=>⟨_,_,rfl,.inr ⟨β 46,0,rfl,df (rest:=[]) (ho.own 46 (.base (List.mem_append_right _ (List.mem_singleton.2 rfl))) _ _ rfl) rfl⟩⟩)
      (fun qG cap' fH ρ Nk Nl fJ jS iB ek pU eD=>wV rfl ?_)
     refine af ?_
     have Ct:yy B qG (0 + 1) cap' ([[.int .i64 (e.1:Int),.int .i64 (y:Int),.bool s4,.slice p4 n4 c4,.bool t4,.slice y4 m4 d4]]:List (List Value)) fH (([]++[(e.1,y,ae e.2 m')])):=⟨by simp <;> omega,by exact bL.cons (show qy B qG [.int .i64 (e.1:Int),.int .i64 (y:Int),.bool s4,.slice p4 n4 c4,.bool t4,.slice y4 m4 d4] (e.1,y,ae e.2 m') from ⟨s4,p4,n4,c4,t4,y4,m4,d4,rfl,(BS.mono hB).kp aU⟩) bL.nil,pU,eD,jS,iB,by simpa using ek⟩
     refine VO.call rfl rfl (fk Tryz.func16) (fun gE ju ia=>((fx _ _ s' (ae e.2 m') kk kk gE (sW.rd.ki (hK s' PY hs0 hsM)) (BS.rd.ki og) ab ab).mono (fun o w2 h=>And.intro h ia.1.size)).mono ?_)
     rintro o w5 ⟨⟨r5,rfl,q5,eP⟩,tV⟩
     obtain ⟨s5,p5,n5,c5,t5,y5,m5,d5,rfl⟩:=q5.form
     refine ⟨_,rfl,eP,fun jV _ qu=>wV rfl ?_⟩
     refine af ?_
     refine VO.call rfl rfl (fk Tryz.func72) (fun gF ld iC=>(dc _ _ m' (ae e.2 m') kk kk gF (Kf.ki (hK m' od xj rK)) (BS.rd.ki og) ab ab).mono ?_)
     rintro e w6 ⟨r6,rfl,q6,fK⟩
     obtain ⟨s6,p6,n6,c6,t6,y6,m6,d6,rfl⟩:=q6.form
     refine ⟨_,rfl,fK,fun lG _ pO=>wV rfl ?_⟩
     refine af ?_
     refine VO.cW rfl (([.bool s3,.slice p3 n3 c3,.bool t3,.slice y3 m3 d3]:List Value).map .val) rfl (bC jQ 1 _ ⟨[],rfl⟩) (wV rfl ?_)
     refine af ?_
     refine VO.call rfl rfl (fk Tryz.func72) (fun mW tJ lH=>((dc _ _ e.2 (ae e.2 m') kk kk mW (Tw.rd.ki (hK e.2 mP CK Gu)) (BS.rd.ki og) ab ab).mono (fun o w2 h=>And.intro h lH.1.size)).mono ?_)
     rintro o w7 ⟨⟨r7,rfl,q7,lL⟩,Ly⟩
     obtain ⟨s7,p7,n7,c7,t7,y7,m7,d7,rfl⟩:=q7.form
     refine ⟨_,rfl,lL,fun sU _ Cy=>wV rfl ?_⟩
     refine af ?_
     refine VO.cond rfl (by show aX + 1 + 4≤_;rw [List.length_map,List.length_append,List.length_append,List.flatten_cons,List.length_append,jQ];show aX + 1 + 4≤aX + (6 - 1 + _ + _);omega) (VO.dI 155 rfl (vC jQ) (wV rfl ?_))
     refine af ?_
     refine VO.cW rfl (([.bool s7,.slice p7 n7 c7,.bool t7,.slice y7 m7 d7]:List Value).map .val) rfl (bC jQ 1 _ ⟨[],rfl⟩) (wV rfl ?_)
     refine af ?_
     have Cv:0≤e.2 - ae e.2 m':=by grind
     have Tx:e.2 - ae e.2 m'≤M:=by grind
     have Ty:Iz D (e.2 - ae e.2 m'):=mP.sub nC
     obtain ⟨mC,nX⟩:∃ mC,eg (e.2 - ae e.2 m') 0=mC:=⟨_,rfl⟩
     refine VO.call rfl rfl (fk Tryz.func13) (fun sD Fc wj=>(eR _ (e.2 - ae e.2 m') kk sD (q7.ki (hK _ Ty Cv Tx)) ab mC nX).mono ?_)
     rintro e w8 ⟨rfl,qf⟩
     skip
     refine ⟨_,rfl,qf,fun wk _ Kd=>wV rfl ?_⟩
     refine af ?_
     have hE7:dz B w8 [.int .i64 (e.1:Int),.bool s7,.slice p7 n7 c7,.bool t7,.slice y7 m7 d7] (e.1,e.2 - ae e.2 m'):=⟨s7,p7,n7,c7,t7,y7,m7,d7,rfl,(q7.mono (Nat.le_trans hB Ly)).kp aU⟩
     have DG:=jh.so
     have PX:=jh.po
     have vZ:=jh.fl
     have DW:0≤m' - ae e.2 m':=by grind
     have KS:0≤s' + ae e.2 m':=by grind
     have BU:s' + ae e.2 m' + (m' - ae e.2 m')=m:=by grind
     have BV:=(q6.kr (w':=w8) aU)
     have BW:aH w8 w.heap.size _ (s' + ae e.2 m'):=(q5.mono tV).kp aU
     have Tz:bL (dz B) w8 gG gX:=tT.kp (aO B) aU
     by_cases hz:e.2 - ae e.2 m'=0
     ·have tW:(mC == 0)=true:=by rw [<-nX,hz];rfl
      refine VS.aP rfl tW ?_
      refine af ?_
      obtain ⟨e1,e2,e3⟩:=gW (y:=y) (p:=e) (q:=gG) hm hz
      rw [e1,<-List.singleton_append,<-List.append_assoc] at eU
      rw [e2] at eL
      rw [e3] at eS
      refine VO.jO rfl rfl (fk Tryz.func76) rfl ab yr yo (fun j hj=> ?_) (bu rfl) (fun w9 k9 b9=>wV rfl ?_)
      ·rcases List.mem_cons.1 hj with rfl | hj
       ·intro h;cases h
       ·cases List.mem_singleton.1 hj
        intro h;cases h
      refine af ?_
      have hO9:dT (dz B) 5 w9 (n' - 1) (if c'=1 then aX else aX + 5) (c' - 1) (ck++[.int .i64 (e.1:Int),.bool s7,.slice p7 n7 c7,.bool t7,.slice y7 m7 d7]) gX aj gG:=⟨by rw [tI];rfl,pV jQ,by rw [List.all_append,PX];rfl,Tz.kp (aO B) aU,DG,by omega,by omega,pW vZ⟩
      have iJ:∀ (v8:AV) (wb:World),bH (KU UU) w9 wb->((n' - 1=0/\v8=.val (.pointer none))\/(n' - 1≠0/\v8=.mR 155 (if c'=1 then aX else aX + 5)))->vD B D M w rv y q m (2 * gG.length + (if 0 < m' - ae e.2 m' then 1 else 0)) [(0,.box 154 0),(1,.val (.int .i64 (y:Int))),(5,.box 5 0),(6,.box 6 0),(7,.box 7 0),(8,v8)]
        ((154,(Runner,[.row 155 (if c'=1 then aX else aX + 5) (n' - 1) (c' - 1),.val rv,.row 47 0 (0 + 1) cap']))::(155,(dG,((ck++([.int .i64 (e.1:Int),.bool s7,.slice p7 n7 c7,.bool t7,.slice y7 m7 d7]:List Value))++(gX.flatten++aj)).map AV.val))::(5,(26,([.bool s6,.slice p6 n6 c6,.bool t6,.slice y6 m6 d6]:List Value).map .val))::(6,(26,([.bool false,.slice none 0 0,.bool false,.slice none 0 0]:List Value).map .val))::(7,(26,([.bool s5,.slice p5 n5 c5,.bool t5,.slice y5 m5 d5]:List Value).map .val))::[(47,(fy,([[.int .i64 (e.1:Int),.int .i64 (y:Int),.bool s4,.slice p4 n4 c4,.bool t4,.slice y4 m4 d4]]:List (List Value)).flatten.map AV.val++fH))]) wb:=fun v8 wb kb PZ=>
       ⟨gG,_,_,_,_,gX,aj,m' - ae e.2 m',s' + ae e.2 m',[]++[(e.1,y,ae e.2 m')],v8,_,_,_,_,_,_,_,_,_,_,_,_,_,_,_,_,_,_,rfl,rfl,rfl,hO9.kp (aO B) aU,BV.k,BW.k,od.sub nC,PY.add nC,DW,KS,BU,fun p hp=>CG p (by simp [hp]),eU,eL,by rw [eS];grind,PZ,by simp at jR ⊢;split <;> omega,.inr ⟨_,_,_,_,rfl,rfl,Ct.kp aU⟩⟩
      have hlt:2 * gG.length + (if 0 < m' - ae e.2 m' then 1 else 0) < 2 * (e::gG).length + (if 0 < m' then 1 else 0):=by
       rw [if_pos hm,List.length_cons];split <;> omega
      by_cases rS:n' - 1=0
      ·refine VO.dU (x:=.row 155 (if c'=1 then aX else aX + 5) (n' - 1) (c' - 1)) (p:=fun _=>none) (c:=c' - 1) rfl (fun β=>.inr ⟨_,congrArg (fun n=>Value.slice (some ⟨β 155,(if c'=1 then aX else aX + 5),none⟩) n (c' - 1)) rS⟩) rfl (fk Tryz.func75) rfl (fun wb Qa TA=>wV rfl ?_)
       refine af ?_
       refine VS.back _ hlt ⟨_,_,?_,?_,?_,?_,iJ _ wb aU (.inl ⟨rS,rfl⟩)⟩
       ·exact cd
       ·exact ⟨rfl,congrArg (fun l=>some (dG,l)) (eN _ _ _ _),rfl,rfl,rfl,rfl,trivial⟩
       ·rfl
       ·exact ⟨.lit rfl,.vals _,.vals _,.vals _,.vals _,.append (.vals _) (.none eD),trivial⟩
      ·refine VO.dA rfl rfl (fk Tryz.func75) rfl rS (by intro h;cases h) (fun wb Qa TA=>wV rfl ?_)
       refine af ?_
       refine VS.back _ hlt ⟨_,_,?_,?_,?_,?_,iJ _ wb aU (.inr ⟨rS,rfl⟩)⟩
       ·exact cd
       ·exact ⟨rfl,congrArg (fun l=>some (dG,l)) (eN _ _ _ _),rfl,rfl,rfl,rfl,trivial⟩
       ·rfl
       ·exact ⟨.lit rfl,.vals _,.vals _,.vals _,.vals _,.append (.vals _) (.none eD),trivial⟩
     ·have tW:(mC == 0)=false:=by rw [<-nX,beq_eq_false_iff_ne];exact Ae hz
      refine VS.aQ rfl tW ?_
      refine af ?_
      obtain ⟨e0,e1,e2,e3⟩:=gV (y:=y) (p:=e) (q:=gG) hm hz
      refine VO.dA rfl rfl (fk Tryz.func75) rfl nM (by intro h;cases h) (fun wb Qa TA=>wV rfl ?_)
      refine af ?_
      refine VS.back (2 * (e::gG).length + 0) (by rw [if_pos hm];omega) ⟨_,_,?_,?_,?_,?_,⟨(e.1,e.2 - ae e.2 m')::gG,aX,n',c',ck,[.int .i64 (e.1:Int),.bool s7,.slice p7 n7 c7,.bool t7,.slice y7 m7 d7]::gX,aj,m' - ae e.2 m',s' + ae e.2 m',[]++[(e.1,y,ae e.2 m')],.mR 155 aX,_,_,_,_,_,_,_,_,_,_,_,_,_,_,_,_,_,_,by rw [if_neg e0];rfl,rfl,rfl,⟨tI,.inl jQ,PX,.cons ((aO B).kp hE7 aU) (Tz.kp (aO B) aU),DG,yr,yo,by simpa using vZ⟩,BV.k,BW.k,od.sub nC,PY.add nC,DW,KS,BU,fun p hp=> ?_,?_,?_,?_,.inr ⟨nM,rfl⟩,?_,.inr ⟨_,_,_,_,rfl,rfl,Ct.kp aU⟩⟩⟩
      ·exact cd
      ·exact ⟨rfl,rfl,rfl,rfl,rfl,rfl,trivial⟩
      ·rfl
      ·exact ⟨.lit rfl,.vals _,.vals _,.vals _,.vals _,.append (.vals _) (.none eD),trivial⟩
      ·rcases List.mem_cons.1 hp with rfl | hp
       ·exact ⟨Ty,Cv,Tx⟩
       ·exact CG p (by simp [hp])
      ·rw [eU,e1,iM y _ e0,List.append_nil]
      ·rw [eL,e2,gU _ e0]
      ·rw [eS,e3,iP _ e0];grind
      ·rw [if_neg e0];simp at jR ⊢;omega
    ·have mI:¬ sg > 0:=by rw [<-me];exact fun h=>hm (gp.1 h)
     refine VS.aQ rfl (decide_eq_false mI) ?_
     have fU:=iM y (e::gG) hm
     have fL:=gU (e::gG) hm
     have fS:=iP (e::gG) hm
     refine af ?_
     refine VS.lp (bF _ _) rfl (fun wz β kz oz en=> ?_)
     obtain ⟨o1,o2⟩:=fo (en.own 154 _ _ rfl) 0 g rfl rfl
     obtain ⟨o3,o4⟩:=fo (en.own 155 _ _ rfl) 1 b rfl rfl
     rw [ah] at o4
     replace o3:β 155=b:=o3
     rw [fU] at eU
     rw [fL] at eL
     rw [fS,show s' + 0=s' by grind] at eS
     refine ⟨_,rfl,?_,oz.1,aX,n',c',ck,_,aj,.slice none 0 0,?_,o4,?_,.inl ⟨rfl,?_⟩⟩
     ·rw [eS];exact sW.k
     ·rw [<-o3];exact o2
     ·rw [eL];exact jh.kp (aO B) aU
     ·rw [eU];rfl
  ·rcases PZ with ⟨nM,rfl⟩ | ⟨nM,rfl⟩
   ·have JW:q'=[]:=List.eq_nil_of_length_eq_zero (by rw [<-jh.len];exact nM)
    subst JW
    have fU:qH y [] m'=[]:=rfl
    have fL:ny [] m'=[]:=rfl
    have fS:uh [] m'=0:=rfl
    refine af ?_
    refine VS.lp (bF _ _) rfl (fun wz β kz oz en=> ?_)
    obtain ⟨o1,o2⟩:=fo (en.own 154 _ _ rfl) 0 g rfl rfl
    obtain ⟨o3,o4⟩:=fo (en.own 155 _ _ rfl) 1 b rfl rfl
    rw [ah] at o4
    replace o3:β 155=b:=o3
    rw [fU] at eU
    rw [fL] at eL
    rw [fS,show s' + 0=s' by grind] at eS
    have o5:=(en.own 47 _ _ rfl).new
    have o6:=(en.own 47 _ _ rfl).cls
    rw [List.map_append,ah] at o6
    have n1':β 47≠g:=fun e=>absurd (en.apart 154 47 (by intro h;cases h) (by intro h;cases h) (o1.trans e.symm)) bW
    have n2':β 47≠b:=fun e=>absurd (en.apart 155 47 (by intro h;cases h) (by intro h;cases h) (o3.trans e.symm)) bW
    have o7:w.heap.size≤β 47:=by
     have:=gi (show dm 77 [g,b] w 47 (β 47) from o5)
     simpa [n1',n2'] using this
    refine ⟨_,rfl,?_,oz.1,aX,n',c',ck,iT,aj,.slice (some ⟨β 47,0,none⟩) un uc,?_,o4,?_,.inr ⟨β 47,un,uc,rJ,oP.map (AV.leaf β),o7,rfl,o6,?_⟩⟩
    ·rw [eS];exact sW.k
    ·rw [<-o3];exact o2
    ·rw [eL];exact jh.kp (aO B) aU
    ·rw [eU,List.append_nil];exact (xk.kp aU).o β
   ·obtain ⟨e,gG,rfl⟩:∃ e gG,q'=e::gG:=by
     cases q' with
     | nil=>exact absurd jh.len nM
     | cons e gG=>exact ⟨e,gG,rfl⟩
    obtain ⟨cs,gX,rfl,hE,tT⟩:∃ cs gX,iT=cs::gX/\dz B w' cs e/\bL (dz B) w' gG gX:=by
     have:=jh.el
     cases this with
     | cons h1 h2=>exact ⟨_,_,rfl,h1,h2⟩
    obtain ⟨s3,p3,n3,c3,t3,y3,m3,d3,rfl,Tw⟩:=hE
    have yr:=jh.le
    have tI:=jh.len
    have yo:=jh.cm
    have jQ:ck.length=aX:=jh.pl.resolve_right ab
    obtain ⟨mP,CK,Gu⟩:=CG e cw
    refine af ?_
    obtain ⟨sg,me⟩:∃ sg,eg m' 0=sg:=⟨_,rfl⟩
    refine VO.call rfl rfl (fk Tryz.func13) (fun bD cQ bG=>(eR _ m' kk bD (Kf.ki (hK m' od xj rK)) ab sg me).mono ?_)
    rintro e w1 ⟨rfl,aI⟩
    skip
    refine ⟨_,rfl,aI,fun dt _ bb1=>wV rfl ?_⟩
    refine af ?_
    by_cases hm:0 < m'
    ·have mI:sg > 0:=by rw [<-me];exact gp.2 hm
     rw [if_pos hm] at jR
     refine VS.aP rfl (decide_eq_true mI) ?_
     refine af ?_
     refine VO.cW rfl (([.bool s3,.slice p3 n3 c3,.bool t3,.slice y3 m3 d3]:List Value).map .val) rfl (bC jQ 1 _ ⟨[],rfl⟩) (wV rfl ?_)
     refine af ?_
     have xO:=ct e.2 m'
     have Lx:0≤ae e.2 m':=by rcases xO with ⟨h,_⟩ | ⟨h,_⟩ <;> rw [h] <;> assumption
     have nC:Iz D (ae e.2 m'):=by rcases xO with ⟨h,_⟩ | ⟨h,_⟩ <;> rw [h] <;> assumption
     have Bm:=dv e.2 m'
     have zW:=cJ e.2 m'
     have og:=hK _ nC Lx (Rat.le_trans zW rK)
     refine VO.ee rfl (fk Tryz.func71) (fun cG β dQ cV ho=>((gT _ _ e.2 [m'] kk cG (Tw.rd.ki (hK e.2 mP CK Gu)) (cZ (ho.own 31 (.base (List.mem_singleton.2 rfl)) _ _ rfl) [] (vs:=[[.bool s1,.slice p1 n1 c1,.bool t1,.slice y1 m1 d1]]) (by rfl) rfl (bt.cons (Kf.ki (hK m' od xj rK)) bt.nil) (bu rfl) bW) ab (bu rfl)).mono (fun o w2 h=>And.intro h cV.1.size)).mono ?_)
     rintro o w2 ⟨⟨r4,rfl,q4,z4,ba⟩,tU⟩
     rw [eM] at q4
     have BS:aH w2 w.heap.size r4 (ae e.2 m'):=q4.mono tU
     obtain ⟨s4,p4,n4,c4,t4,y4,m4,d4,rfl⟩:=BS.form
     refine ⟨_,rfl,ba,fun dR _ bb2=>wV rfl ?_⟩
     refine af ?_
     refine VO.cW rfl (([.int .i64 (e.1:Int)]:List Value).map .val) rfl (bC jQ 0 _ ⟨_,rfl⟩) (wV rfl ?_)
     refine af ?_
     obtain ⟨zT,zV⟩:=xk.el.ok (eh B)
     have MD:=xk.len
     refine VO.app (bF _ _) (t:=34) (e:=fy) (sz:=6) (n:=un) (c:=uc) (mm:=1) (known:=rJ.flatten.map .val) (spare:=oP) (del:=some 47) (news:=([.int .i64 (e.1:Int),.int .i64 (y:Int),.bool s4,.slice p4 n4 c4,.bool t4,.slice y4 m4 d4]:List Value).map .val) (dst:=47) rfl rfl rfl rfl rfl rfl rfl rfl (bu rfl) rfl (.inr ⟨47,rfl,rfl,rfl⟩) (.inr rfl) (by rw [List.length_map,zV,MD]) xk.fl xk.le xk.cm ⟨ai _,xk.sl,rfl⟩ ⟨bh zT,xk.so,rfl⟩ rfl (by simp only [List.length_append,List.length_cons] at MD jR lB ⊢;omega)
      (fun w1 β k1 b1 ho=>⟨_,_,rfl,.inr ⟨β 46,0,rfl,df (rest:=[]) (ho.own 46 (.base (List.mem_append_right _ (List.mem_singleton.2 rfl))) _ _ rfl) rfl⟩⟩)
      (fun qG cap' fH ρ Nk Nl fJ jS iB ek pU eD=>VO.dI 155 rfl (cL (ai _) _ _) (wV rfl ?_))
     refine af ?_
     have Ct:yy B qG (un + 1) cap' (rJ++[[.int .i64 (e.1:Int),.int .i64 (y:Int),.bool s4,.slice p4 n4 c4,.bool t4,.slice y4 m4 d4]]:List (List Value)) fH ((done++[(e.1,y,ae e.2 m')])):=⟨by simp [MD] <;> omega,by simpa [List.append_assoc] using ((xk.el.kp (eh B) aU).snoc (show qy B qG [.int .i64 (e.1:Int),.int .i64 (y:Int),.bool s4,.slice p4 n4 c4,.bool t4,.slice y4 m4 d4] (e.1,y,ae e.2 m') from ⟨s4,p4,n4,c4,t4,y4,m4,d4,rfl,(BS.mono hB).kp aU⟩)),pU,eD,jS,iB,by simpa using ek⟩
     refine VO.call rfl rfl (fk Tryz.func16) (fun gE ju ia=>((fx _ _ s' (ae e.2 m') kk kk gE (sW.rd.ki (hK s' PY hs0 hsM)) (BS.rd.ki og) ab ab).mono (fun o w2 h=>And.intro h ia.1.size)).mono ?_)
     rintro o w5 ⟨⟨r5,rfl,q5,eP⟩,tV⟩
     obtain ⟨s5,p5,n5,c5,t5,y5,m5,d5,rfl⟩:=q5.form
     refine ⟨_,rfl,eP,fun jV _ qu=>wV rfl ?_⟩
     refine af ?_
     refine VO.call rfl rfl (fk Tryz.func72) (fun gF ld iC=>(dc _ _ m' (ae e.2 m') kk kk gF (Kf.ki (hK m' od xj rK)) (BS.rd.ki og) ab ab).mono ?_)
     rintro e w6 ⟨r6,rfl,q6,fK⟩
     obtain ⟨s6,p6,n6,c6,t6,y6,m6,d6,rfl⟩:=q6.form
     refine ⟨_,rfl,fK,fun lG _ pO=>wV rfl ?_⟩
     refine af ?_
     refine VO.cW rfl (([.bool s3,.slice p3 n3 c3,.bool t3,.slice y3 m3 d3]:List Value).map .val) rfl (bC jQ 1 _ ⟨[],rfl⟩) (wV rfl ?_)
     refine af ?_
     refine VO.call rfl rfl (fk Tryz.func72) (fun mW tJ lH=>((dc _ _ e.2 (ae e.2 m') kk kk mW (Tw.rd.ki (hK e.2 mP CK Gu)) (BS.rd.ki og) ab ab).mono (fun o w2 h=>And.intro h lH.1.size)).mono ?_)
     rintro o w7 ⟨⟨r7,rfl,q7,lL⟩,Ly⟩
     obtain ⟨s7,p7,n7,c7,t7,y7,m7,d7,rfl⟩:=q7.form
     refine ⟨_,rfl,lL,fun sU _ Cy=>wV rfl ?_⟩
     refine af ?_
     refine VO.cond rfl (by show aX + 1 + 4≤_;rw [List.length_map,List.length_append,List.length_append,List.flatten_cons,List.length_append,jQ];show aX + 1 + 4≤aX + (6 - 1 + _ + _);omega) (VO.dI 155 rfl (vC jQ) (wV rfl ?_))
     refine af ?_
     refine VO.cW rfl (([.bool s7,.slice p7 n7 c7,.bool t7,.slice y7 m7 d7]:List Value).map .val) rfl (bC jQ 1 _ ⟨[],rfl⟩) (wV rfl ?_)
     refine af ?_
     have Cv:0≤e.2 - ae e.2 m':=by grind
     have Tx:e.2 - ae e.2 m'≤M:=by grind
     have Ty:Iz D (e.2 - ae e.2 m'):=mP.sub nC
     obtain ⟨mC,nX⟩:∃ mC,eg (e.2 - ae e.2 m') 0=mC:=⟨_,rfl⟩
     refine VO.call rfl rfl (fk Tryz.func13) (fun sD Fc wj=>(eR _ (e.2 - ae e.2 m') kk sD (q7.ki (hK _ Ty Cv Tx)) ab mC nX).mono ?_)
     rintro e w8 ⟨rfl,qf⟩
     skip
     refine ⟨_,rfl,qf,fun wk _ Kd=>wV rfl ?_⟩
     refine af ?_
     have hE7:dz B w8 [.int .i64 (e.1:Int),.bool s7,.slice p7 n7 c7,.bool t7,.slice y7 m7 d7] (e.1,e.2 - ae e.2 m'):=⟨s7,p7,n7,c7,t7,y7,m7,d7,rfl,(q7.mono (Nat.le_trans hB Ly)).kp aU⟩
     have DG:=jh.so
     have PX:=jh.po
     have vZ:=jh.fl
     have DW:0≤m' - ae e.2 m':=by grind
     have KS:0≤s' + ae e.2 m':=by grind
     have BU:s' + ae e.2 m' + (m' - ae e.2 m')=m:=by grind
     have BV:=(q6.kr (w':=w8) aU)
     have BW:aH w8 w.heap.size _ (s' + ae e.2 m'):=(q5.mono tV).kp aU
     have Tz:bL (dz B) w8 gG gX:=tT.kp (aO B) aU
     by_cases hz:e.2 - ae e.2 m'=0
     ·have tW:(mC == 0)=true:=by rw [<-nX,hz];rfl
      refine VS.aP rfl tW ?_
      refine af ?_
      obtain ⟨e1,e2,e3⟩:=gW (y:=y) (p:=e) (q:=gG) hm hz
      rw [e1,<-List.singleton_append,<-List.append_assoc] at eU
      rw [e2] at eL
      rw [e3] at eS
      refine VO.jO rfl rfl (fk Tryz.func76) rfl ab yr yo (fun j hj=> ?_) (bu rfl) (fun w9 k9 b9=>wV rfl ?_)
      ·rcases List.mem_cons.1 hj with rfl | hj
       ·intro h;cases h
       ·cases List.mem_singleton.1 hj
        intro h;cases h
      refine af ?_
      have hO9:dT (dz B) 5 w9 (n' - 1) (if c'=1 then aX else aX + 5) (c' - 1) (ck++[.int .i64 (e.1:Int),.bool s7,.slice p7 n7 c7,.bool t7,.slice y7 m7 d7]) gX aj gG:=⟨by rw [tI];rfl,pV jQ,by rw [List.all_append,PX];rfl,Tz.kp (aO B) aU,DG,by omega,by omega,pW vZ⟩
      have iJ:∀ (v8:AV) (wb:World),bH (KU UU) w9 wb->((n' - 1=0/\v8=.val (.pointer none))\/(n' - 1≠0/\v8=.mR 155 (if c'=1 then aX else aX + 5)))->vD B D M w rv y q m (2 * gG.length + (if 0 < m' - ae e.2 m' then 1 else 0)) [(0,.box 154 0),(1,.val (.int .i64 (y:Int))),(5,.box 5 0),(6,.box 6 0),(7,.box 7 0),(8,v8)]
        ((154,(Runner,[.row 155 (if c'=1 then aX else aX + 5) (n' - 1) (c' - 1),.val rv,.row 47 0 (un + 1) cap']))::(155,(dG,((ck++([.int .i64 (e.1:Int),.bool s7,.slice p7 n7 c7,.bool t7,.slice y7 m7 d7]:List Value))++(gX.flatten++aj)).map AV.val))::(5,(26,([.bool s6,.slice p6 n6 c6,.bool t6,.slice y6 m6 d6]:List Value).map .val))::(6,(26,([.bool false,.slice none 0 0,.bool false,.slice none 0 0]:List Value).map .val))::(7,(26,([.bool s5,.slice p5 n5 c5,.bool t5,.slice y5 m5 d5]:List Value).map .val))::[(47,(fy,(rJ++[[.int .i64 (e.1:Int),.int .i64 (y:Int),.bool s4,.slice p4 n4 c4,.bool t4,.slice y4 m4 d4]]:List (List Value)).flatten.map AV.val++fH))]) wb:=fun v8 wb kb PZ=>
       ⟨gG,_,_,_,_,gX,aj,m' - ae e.2 m',s' + ae e.2 m',done++[(e.1,y,ae e.2 m')],v8,_,_,_,_,_,_,_,_,_,_,_,_,_,_,_,_,_,_,rfl,rfl,rfl,hO9.kp (aO B) aU,BV.k,BW.k,od.sub nC,PY.add nC,DW,KS,BU,fun p hp=>CG p (by simp [hp]),eU,eL,by rw [eS];grind,PZ,by simp at jR ⊢;split <;> omega,.inr ⟨_,_,_,_,rfl,rfl,Ct.kp aU⟩⟩
      have hlt:2 * gG.length + (if 0 < m' - ae e.2 m' then 1 else 0) < 2 * (e::gG).length + (if 0 < m' then 1 else 0):=by
       rw [if_pos hm,List.length_cons];split <;> omega
      by_cases rS:n' - 1=0
      ·refine VO.dU (x:=.row 155 (if c'=1 then aX else aX + 5) (n' - 1) (c' - 1)) (p:=fun _=>none) (c:=c' - 1) rfl (fun β=>.inr ⟨_,congrArg (fun n=>Value.slice (some ⟨β 155,(if c'=1 then aX else aX + 5),none⟩) n (c' - 1)) rS⟩) rfl (fk Tryz.func75) rfl (fun wb Qa TA=>wV rfl ?_)
       refine af ?_
       refine VS.back _ hlt ⟨_,_,?_,?_,?_,?_,iJ _ wb aU (.inl ⟨rS,rfl⟩)⟩
       ·exact cd
       ·exact ⟨rfl,congrArg (fun l=>some (dG,l)) (eN _ _ _ _),rfl,rfl,rfl,congrArg (fun l=>some (fy,l++fH)) cw,trivial⟩
       ·rfl
       ·exact ⟨.lit rfl,.vals _,.vals _,.vals _,.vals _,.append (.vals _) (.none eD),trivial⟩
      ·refine VO.dA rfl rfl (fk Tryz.func75) rfl rS (by intro h;cases h) (fun wb Qa TA=>wV rfl ?_)
       refine af ?_
       refine VS.back _ hlt ⟨_,_,?_,?_,?_,?_,iJ _ wb aU (.inr ⟨rS,rfl⟩)⟩
       ·exact cd
       ·exact ⟨rfl,congrArg (fun l=>some (dG,l)) (eN _ _ _ _),rfl,rfl,rfl,congrArg (fun l=>some (fy,l++fH)) cw,trivial⟩
       ·rfl
       ·exact ⟨.lit rfl,.vals _,.vals _,.vals _,.vals _,.append (.vals _) (.none eD),trivial⟩
     ·have tW:(mC == 0)=false:=by rw [<-nX,beq_eq_false_iff_ne];exact Ae hz
      refine VS.aQ rfl tW ?_
      refine af ?_
      obtain ⟨e0,e1,e2,e3⟩:=gV (y:=y) (p:=e) (q:=gG) hm hz
      refine VO.dA rfl rfl (fk Tryz.func75) rfl nM (by intro h;cases h) (fun wb Qa TA=>wV rfl ?_)
      refine af ?_
      refine VS.back (2 * (e::gG).length + 0) (by rw [if_pos hm];omega) ⟨_,_,?_,?_,?_,?_,⟨(e.1,e.2 - ae e.2 m')::gG,aX,n',c',ck,[.int .i64 (e.1:Int),.bool s7,.slice p7 n7 c7,.bool t7,.slice y7 m7 d7]::gX,aj,m' - ae e.2 m',s' + ae e.2 m',done++[(e.1,y,ae e.2 m')],.mR 155 aX,_,_,_,_,_,_,_,_,_,_,_,_,_,_,_,_,_,_,by rw [if_neg e0];rfl,rfl,rfl,⟨tI,.inl jQ,PX,.cons ((aO B).kp hE7 aU) (Tz.kp (aO B) aU),DG,yr,yo,by simpa using vZ⟩,BV.k,BW.k,od.sub nC,PY.add nC,DW,KS,BU,fun p hp=> ?_,?_,?_,?_,.inr ⟨nM,rfl⟩,?_,.inr ⟨_,_,_,_,rfl,rfl,Ct.kp aU⟩⟩⟩
      ·exact cd
      ·exact ⟨rfl,rfl,rfl,rfl,rfl,congrArg (fun l=>some (fy,l++fH)) cw,trivial⟩
      ·rfl
      ·exact ⟨.lit rfl,.vals _,.vals _,.vals _,.vals _,.append (.vals _) (.none eD),trivial⟩
      ·rcases List.mem_cons.1 hp with rfl | hp
       ·exact ⟨Ty,Cv,Tx⟩
       ·exact CG p (by simp [hp])
      ·rw [eU,e1,iM y _ e0,List.append_nil]
      ·rw [eL,e2,gU _ e0]
      ·rw [eS,e3,iP _ e0];grind
      ·rw [if_neg e0];simp at jR ⊢;omega
    ·have mI:¬ sg > 0:=by rw [<-me];exact fun h=>hm (gp.1 h)
     refine VS.aQ rfl (decide_eq_false mI) ?_
     have fU:=iM y (e::gG) hm
     have fL:=gU (e::gG) hm
     have fS:=iP (e::gG) hm
     refine af ?_
     refine VS.lp (bF _ _) rfl (fun wz β kz oz en=> ?_)
     obtain ⟨o1,o2⟩:=fo (en.own 154 _ _ rfl) 0 g rfl rfl
     obtain ⟨o3,o4⟩:=fo (en.own 155 _ _ rfl) 1 b rfl rfl
     rw [ah] at o4
     replace o3:β 155=b:=o3
     rw [fU] at eU
     rw [fL] at eL
     rw [fS,show s' + 0=s' by grind] at eS
     have o5:=(en.own 47 _ _ rfl).new
     have o6:=(en.own 47 _ _ rfl).cls
     rw [List.map_append,ah] at o6
     have n1':β 47≠g:=fun e=>absurd (en.apart 154 47 (by intro h;cases h) (by intro h;cases h) (o1.trans e.symm)) bW
     have n2':β 47≠b:=fun e=>absurd (en.apart 155 47 (by intro h;cases h) (by intro h;cases h) (o3.trans e.symm)) bW
     have o7:w.heap.size≤β 47:=by
      have:=gi (show dm 77 [g,b] w 47 (β 47) from o5)
      simpa [n1',n2'] using this
     refine ⟨_,rfl,?_,oz.1,aX,n',c',ck,_,aj,.slice (some ⟨β 47,0,none⟩) un uc,?_,o4,?_,.inr ⟨β 47,un,uc,rJ,oP.map (AV.leaf β),o7,rfl,o6,?_⟩⟩
     ·rw [eS];exact sW.k
     ·rw [<-o3];exact o2
     ·rw [eL];exact jh.kp (aO B) aU
     ·rw [eU,List.append_nil];exact (xk.kp aU).o β
set_option maxRecDepth 4000 in
theorem TB (B g b off n c y D kk:Nat) (M m:Rat) (pre:List Value) (vs:List (List Value)) (spare:List Value) (q:List Vq) (rv v:Value) (ub CR Fu:Nat) (oQ:List (List Value)) (qz:List Value) (us0:List Uq) (w:World)
  (hg:bg w g Runner #[.slice (some ⟨b,off,none⟩) n c,rv,.slice (some ⟨ub,0,none⟩) CR Fu]) (Rv:bg w ub fy (oQ.flatten++qz).toArray) (QZ:dT (qy B) 6 w CR 0 Fu [] oQ qz us0) (Fv:us0.length≤1000) (hb:bg w b dG (pre++(vs.flatten++spare)).toArray) (hO:dT (dz B) 5 w n off c pre vs spare q) (hr:aV rv=true) (hv:bE w v m) (hmI:Iz D m) (CP:0≤m) (hmM:m≤M) (hq:∀ p∈q,Iz D p.2/\0≤p.2/\p.2≤M)
  (hK:∀ x,Iz D x->0≤x->x≤M->et x kk) (hk:kk≤100000) (lB:q.length≤1000) (hB:B≤w.heap.size):
  Calls Tryz.prog 73 #[.pointer (some ⟨g,0,none⟩),.int .i64 (y:Int),v] w fun o w'=>∃ x,o=.returned x/\aH w' w.heap.size x (uh q m)/\tw [g,b,ub] w w'/\LeftA w' ub/\∃ aX n' c' ck iT aj uv,bg w' g Runner #[.slice (some ⟨b,aX,none⟩) n' c',rv,uv]/\bg w' b dG (ck++(iT.flatten++aj)).toArray/\dT (dz B) 5 w' n' aX c' ck iT aj (ny q m)/\(∃ b' un uc rJ oP,(w.heap.size≤b'\/b'=ub)/\uv=.slice (some ⟨b',0,none⟩) un uc/\bg w' b' fy (rJ.flatten++oP).toArray/\dT (qy B) 6 w' un 0 uc [] rJ oP (us0++qH y q m)):=by
 have hgb:g≠b:=fun e=>by subst e;exact absurd (bN hg hb) bW
 have hgu:g≠ub:=fun e=>by subst e;exact absurd (bN hg Rv) bW
 have hbu:b≠ub:=fun e=>by subst e;exact absurd (bN hb Rv) bW
 have hUo:yy B w CR Fu oQ (qz.map .val) us0:=⟨QZ.len,QZ.el,bh QZ.so,ai _,QZ.le,QZ.cm,by rw [<-List.map_append,List.length_map];exact QZ.fl⟩
 obtain ⟨huok,hulen⟩:=QZ.el.ok (eh B)
 obtain ⟨s0,p0,n0,c0,t0,y0,m0,d0,rfl⟩:=hv.form
 have sH:jX (KU UU) 77 [g,b,ub] [(Runner,[.row 155 off n c,.val rv,.row 156 0 CR Fu]),(dG,(pre++(vs.flatten++spare)).map .val),(fy,oQ.flatten.map .val++qz.map .val)] w:=by
  refine ⟨rfl,by simp [hgb,hgu,hbu],fun j g' c' hj hc=> ?_,fun c' hc=> ?_,fun c' hc k hk=> ?_⟩
  ·match j,hj,hc with
   | 0,hj,hc=>cases hj;cases hc;exact hg
   | 1,hj,hc=>cases hj;cases hc;rw [ah];exact hb
   | 2,hj,hc=>cases hj;cases hc;rw [<-List.map_append,ah];exact Rv
   | j + 3,hj,_=>simp at hj
  ·rcases List.mem_cons.1 hc with rfl | hc
   ·exact ⟨rfl,rnr_ok' rfl hr rfl⟩
   ·rcases List.mem_cons.1 hc with rfl | hc
    ·exact ⟨rfl,bh (hO.all (aO B))⟩
    ·cases List.mem_singleton.1 hc
     exact ⟨rfl,by rw [<-List.map_append];exact bh (by rw [List.all_append,huok,QZ.so];rfl)⟩
  ·rcases List.mem_cons.1 hc with rfl | hc
   ·have:k=155\/k=156:=by simpa [ax,AV.cT] using hk
    rcases this with rfl | rfl
    ·exact ⟨by omega,by show 155 < 2 * 77 + 3;omega⟩
    ·exact ⟨by omega,by show 156 < 2 * 77 + 3;omega⟩
   ·rcases List.mem_cons.1 hc with rfl | hc
    ·rw [ai] at hk;cases hk
    ·cases List.mem_singleton.1 hc
     rw [<-List.map_append,ai] at hk;cases hk
 refine fm Tryz.prog w _ (KU UU) (fun t=>Nat.beq t 22) table (fun _ _=>trivial) (ad:=[g,b,ub]) (us:=[_,_]) Tryz.func73 rfl Tryz.ntmps73 (bu rfl) sH (bu rfl) ?_
 refine af ?_
 refine VO.call rfl rfl (fk Tryz.func44) (fun bD cQ bG=>((bX 0 bD ab ab).mono (fun o w2 h=>And.intro h bG.1.size)).mono ?_)
 rintro o w1 ⟨⟨r9,rfl,q9,ME⟩,Lw⟩
 obtain ⟨s9,p9,n9,c9,t9,y9,m9,d9,rfl⟩:=q9.form
 refine ⟨_,rfl,ME,fun Ff _ bb9=>wV rfl ?_⟩
 refine af ?_
 have Ng:((0:Int):Rat)=0:=rfl
 rw [Ng] at q9
 apply VO.via (P:=fun F' H' w'=>Entry (vE B D M w rv y q m CR Fu oQ qz us0) (2 * q.length + (if 0 < m then 1 else 0)) F' H' w')
 ·intro cont
  by_cases nM:n=0
  ·refine VO.dU (x:=.row 155 off n c) (p:=fun _=>none) (c:=c) rfl (fun β=>.inr ⟨_,congrArg (fun n=>Value.slice (some ⟨β 155,off,none⟩) n c) nM⟩) rfl (fk Tryz.func75) rfl (fun w3 k3 b3=>wV rfl ?_)
   refine af ?_
   refine cont _ _ _ ⟨_,_,?_,?_,?_,?_,⟨q,off,n,c,pre,vs,spare,m,0,[],.val (.pointer none),_,_,_,_,_,_,_,_,_,_,_,_,_,_,_,_,_,_,rfl,rfl,rfl,hO.kp (aO B) aU,hv.k,(q9.mono Lw).kp aU,hmI,Iz.zero,CP,Rat.le_refl,by grind,hq,rfl,rfl,by grind,.inl ⟨nM,rfl⟩,by split <;> simp,.inl ⟨rfl,rfl,rfl,aU⟩⟩⟩
   ·exact cd
   ·exact cd
   ·rfl
   ·exact ⟨.lit rfl,.vals _,.vals _,.vals _,.vals _,.append (.vals _) (.vals _),trivial⟩
  ·refine VO.dA rfl rfl (fk Tryz.func75) rfl nM (by intro h;cases h) (fun w3 k3 b3=>wV rfl ?_)
   refine af ?_
   refine cont _ _ _ ⟨_,_,?_,?_,?_,?_,⟨q,off,n,c,pre,vs,spare,m,0,[],.mR 155 off,_,_,_,_,_,_,_,_,_,_,_,_,_,_,_,_,_,_,rfl,rfl,rfl,hO.kp (aO B) aU,hv.k,(q9.mono Lw).kp aU,hmI,Iz.zero,CP,Rat.le_refl,by grind,hq,rfl,rfl,by grind,.inr ⟨nM,rfl⟩,by split <;> simp,.inl ⟨rfl,rfl,rfl,aU⟩⟩⟩
   ·exact cd
   ·exact cd
   ·rfl
   ·exact ⟨.lit rfl,.vals _,.vals _,.vals _,.vals _,.append (.vals _) (.vals _),trivial⟩
 ·intro F0 H0 w0' hent
  refine VS.loop (J:=vE B D M w rv y q m CR Fu oQ qz us0) _ hent ?_
  rintro idx L Mm w' ⟨q',aX,n',c',ck,iT,aj,m',s',done,v8,Us,Um,s1,t1,s2,t2,p1,y1,p2,y2,n1,c1,m1,d1,n2,c2,m2,d2,rfl,rfl,rfl,jh,Kf,sW,od,PY,xj,hs0,hsm,CG,eU,eL,eS,PZ,jR,wm⟩
  have rK:m'≤M:=by grind
  have hsM:s'≤M:=by grind
  rcases wm with ⟨rfl,rfl,rfl,kw0⟩ | ⟨un,uc,rJ,oP,rfl,rfl,xk⟩
  ·rcases PZ with ⟨nM,rfl⟩ | ⟨nM,rfl⟩
   ·have JW:q'=[]:=List.eq_nil_of_length_eq_zero (by rw [<-jh.len];exact nM)
    subst JW
    have fU:qH y [] m'=[]:=rfl
    have fL:ny [] m'=[]:=rfl
    have fS:uh [] m'=0:=rfl
    refine af ?_
    refine VS.lp (bF _ _) rfl (fun wz β kz oz en=> ?_)
    obtain ⟨o1,o2⟩:=fo (en.own 154 _ _ rfl) 0 g rfl rfl
    obtain ⟨o3,o4⟩:=fo (en.own 155 _ _ rfl) 1 b rfl rfl
    rw [ah] at o4
    replace o3:β 155=b:=o3
    rw [fU] at eU
    rw [fL] at eL
    rw [fS,show s' + 0=s' by grind] at eS
    obtain ⟨o5,o6⟩:=fo (en.own 156 _ _ rfl) 2 ub rfl rfl
    replace o5:β 156=ub:=o5
    rw [List.map_append,ah,ah] at o6
    refine ⟨_,rfl,?_,oz.1,oz.2 ub cw,aX,n',c',ck,iT,aj,.slice (some ⟨ub,0,none⟩) CR Fu,?_,o4,?_,ub,CR,Fu,oQ,qz,.inr rfl,rfl,o6,?_⟩
    ·rw [eS];exact sW.k
    ·rw [<-o3,<-o5];exact o2
    ·rw [eL];exact jh.kp (aO B) aU
    ·rw [eU,List.nil_append,List.append_nil];exact QZ.kp (eh B) aU
   ·obtain ⟨e,gG,rfl⟩:∃ e gG,q'=e::gG:=by
     cases q' with
     | nil=>exact absurd jh.len nM
     | cons e gG=>exact ⟨e,gG,rfl⟩
    obtain ⟨cs,gX,rfl,hE,tT⟩:∃ cs gX,iT=cs::gX/\dz B w' cs e/\bL (dz B) w' gG gX:=by
     have:=jh.el
     cases this with
     | cons h1 h2=>exact ⟨_,_,rfl,h1,h2⟩
    obtain ⟨s3,p3,n3,c3,t3,y3,m3,d3,rfl,Tw⟩:=hE
    have yr:=jh.le
    have tI:=jh.len
    have yo:=jh.cm
    have jQ:ck.length=aX:=jh.pl.resolve_right ab
    obtain ⟨mP,CK,Gu⟩:=CG e cw
    refine af ?_
    obtain ⟨sg,me⟩:∃ sg,eg m' 0=sg:=⟨_,rfl⟩
    refine VO.call rfl rfl (fk Tryz.func13) (fun bD cQ bG=>(eR _ m' kk bD (Kf.ki (hK m' od xj rK)) ab sg me).mono ?_)
    rintro e w1 ⟨rfl,aI⟩
    skip
    refine ⟨_,rfl,aI,fun dt _ bb1=>wV rfl ?_⟩
    refine af ?_
    by_cases hm:0 < m'
    ·have mI:sg > 0:=by rw [<-me];exact gp.2 hm
     rw [if_pos hm] at jR
     refine VS.aP rfl (decide_eq_true mI) ?_
     refine af ?_
     refine VO.cW rfl (([.bool s3,.slice p3 n3 c3,.bool t3,.slice y3 m3 d3]:List Value).map .val) rfl (bC jQ 1 _ ⟨[],rfl⟩) (wV rfl ?_)
     refine af ?_
     have xO:=ct e.2 m'
     have Lx:0≤ae e.2 m':=by rcases xO with ⟨h,_⟩ | ⟨h,_⟩ <;> rw [h] <;> assumption
     have nC:Iz D (ae e.2 m'):=by rcases xO with ⟨h,_⟩ | ⟨h,_⟩ <;> rw [h] <;> assumption
     have Bm:=dv e.2 m'
     have zW:=cJ e.2 m'
     have og:=hK _ nC Lx (Rat.le_trans zW rK)
     refine VO.ee rfl (fk Tryz.func71) (fun cG β dQ cV ho=>((gT _ _ e.2 [m'] kk cG (Tw.rd.ki (hK e.2 mP CK Gu)) (cZ (ho.own 31 (.base (List.mem_singleton.2 rfl)) _ _ rfl) [] (vs:=[[.bool s1,.slice p1 n1 c1,.bool t1,.slice y1 m1 d1]]) (by rfl) rfl (bt.cons (Kf.ki (hK m' od xj rK)) bt.nil) (bu rfl) bW) ab (bu rfl)).mono (fun o w2 h=>And.intro h cV.1.size)).mono ?_)
     rintro o w2 ⟨⟨r4,rfl,q4,z4,ba⟩,tU⟩
     rw [eM] at q4
     have BS:aH w2 w.heap.size r4 (ae e.2 m'):=q4.mono tU
     obtain ⟨s4,p4,n4,c4,t4,y4,m4,d4,rfl⟩:=BS.form
     refine ⟨_,rfl,ba,fun dR _ bb2=>wV rfl ?_⟩
     refine af ?_
     refine VO.cW rfl (([.int .i64 (e.1:Int)]:List Value).map .val) rfl (bC jQ 0 _ ⟨_,rfl⟩) (wV rfl ?_)
     refine af ?_
     obtain ⟨zT,zV⟩:=hUo.el.ok (eh B)
     have MD:=hUo.len
     refine VO.app (bF _ _) (t:=34) (e:=fy) (sz:=6) (n:=CR) (c:=Fu) (mm:=1) (known:=oQ.flatten.map .val) (spare:=(qz.map AV.val)) (del:=some 156) (news:=([.int .i64 (e.1:Int),.int .i64 (y:Int),.bool s4,.slice p4 n4 c4,.bool t4,.slice y4 m4 d4]:List Value).map .val) (dst:=47) rfl rfl rfl rfl rfl rfl rfl rfl (bu rfl) rfl (.inr ⟨156,rfl,rfl,rfl⟩) (.inl rfl) (by rw [List.length_map,zV,MD]) hUo.fl hUo.le hUo.cm ⟨ai _,hUo.sl,rfl⟩ ⟨bh zT,hUo.so,rfl⟩ rfl (by simp only [List.length_append,List.length_cons] at MD jR lB ⊢;omega)
      (fun w1 β k1 b1 ho=>⟨_,_,rfl,.inr ⟨β 46,0,rfl,df (rest:=[]) (ho.own 46 (.base (List.mem_append_right _ (List.mem_singleton.2 rfl))) _ _ rfl) rfl⟩⟩)
      (fun qG cap' fH ρ Nk Nl fJ jS iB ek pU eD=>VO.dI 155 rfl (cL (ai _) _ _) (wV rfl ?_))
     refine af ?_
     have Ct:yy B qG (CR + 1) cap' (oQ++[[.int .i64 (e.1:Int),.int .i64 (y:Int),.bool s4,.slice p4 n4 c4,.bool t4,.slice y4 m4 d4]]:List (List Value)) fH (us0++([]++[(e.1,y,ae e.2 m')])):=⟨by simp [MD] <;> omega,by simpa [List.append_assoc] using ((hUo.el.kp (eh B) aU).snoc (show qy B qG [.int .i64 (e.1:Int),.int .i64 (y:Int),.bool s4,.slice p4 n4 c4,.bool t4,.slice y4 m4 d4] (e.1,y,ae e.2 m') from ⟨s4,p4,n4,c4,t4,y4,m4,d4,rfl,(BS.mono hB).kp aU⟩)),pU,eD,jS,iB,by simpa using ek⟩
     refine VO.call rfl rfl (fk Tryz.func16) (fun gE ju ia=>((fx _ _ s' (ae e.2 m') kk kk gE (sW.rd.ki (hK s' PY hs0 hsM)) (BS.rd.ki og) ab ab).mono (fun o w2 h=>And.intro h ia.1.size)).mono ?_)
     rintro o w5 ⟨⟨r5,rfl,q5,eP⟩,tV⟩
     obtain ⟨s5,p5,n5,c5,t5,y5,m5,d5,rfl⟩:=q5.form
     refine ⟨_,rfl,eP,fun jV _ qu=>wV rfl ?_⟩
     refine af ?_
     refine VO.call rfl rfl (fk Tryz.func72) (fun gF ld iC=>(dc _ _ m' (ae e.2 m') kk kk gF (Kf.ki (hK m' od xj rK)) (BS.rd.ki og) ab ab).mono ?_)
     rintro e w6 ⟨r6,rfl,q6,fK⟩
     obtain ⟨s6,p6,n6,c6,t6,y6,m6,d6,rfl⟩:=q6.form
     refine ⟨_,rfl,fK,fun lG _ pO=>wV rfl ?_⟩
     refine af ?_
     refine VO.cW rfl (([.bool s3,.slice p3 n3 c3,.bool t3,.slice y3 m3 d3]:List Value).map .val) rfl (bC jQ 1 _ ⟨[],rfl⟩) (wV rfl ?_)
     refine af ?_
     refine VO.call rfl rfl (fk Tryz.func72) (fun mW tJ lH=>((dc _ _ e.2 (ae e.2 m') kk kk mW (Tw.rd.ki (hK e.2 mP CK Gu)) (BS.rd.ki og) ab ab).mono (fun o w2 h=>And.intro h lH.1.size)).mono ?_)
     rintro o w7 ⟨⟨r7,rfl,q7,lL⟩,Ly⟩
     obtain ⟨s7,p7,n7,c7,t7,y7,m7,d7,rfl⟩:=q7.form
     refine ⟨_,rfl,lL,fun sU _ Cy=>wV rfl ?_⟩
     refine af ?_
     refine VO.cond rfl (by show aX + 1 + 4≤_;rw [List.length_map,List.length_append,List.length_append,List.flatten_cons,List.length_append,jQ];show aX + 1 + 4≤aX + (6 - 1 + _ + _);omega) (VO.dI 155 rfl (vC jQ) (wV rfl ?_))
     refine af ?_
     refine VO.cW rfl (([.bool s7,.slice p7 n7 c7,.bool t7,.slice y7 m7 d7]:List Value).map .val) rfl (bC jQ 1 _ ⟨[],rfl⟩) (wV rfl ?_)
     refine af ?_
     have Cv:0≤e.2 - ae e.2 m':=by grind
     have Tx:e.2 - ae e.2 m'≤M:=by grind
     have Ty:Iz D (e.2 - ae e.2 m'):=mP.sub nC
     obtain ⟨mC,nX⟩:∃ mC,eg (e.2 - ae e.2 m') 0=mC:=⟨_,rfl⟩
     refine VO.call rfl rfl (fk Tryz.func13) (fun sD Fc wj=>(eR _ (e.2 - ae e.2 m') kk sD (q7.ki (hK _ Ty Cv Tx)) ab mC nX).mono ?_)
     rintro e w8 ⟨rfl,qf⟩
     skip
     refine ⟨_,rfl,qf,fun wk _ Kd=>wV rfl ?_⟩
     refine af ?_
     have hE7:dz B w8 [.int .i64 (e.1:Int),.bool s7,.slice p7 n7 c7,.bool t7,.slice y7 m7 d7] (e.1,e.2 - ae e.2 m'):=⟨s7,p7,n7,c7,t7,y7,m7,d7,rfl,(q7.mono (Nat.le_trans hB Ly)).kp aU⟩
     have DG:=jh.so
     have PX:=jh.po
     have vZ:=jh.fl
     have DW:0≤m' - ae e.2 m':=by grind
     have KS:0≤s' + ae e.2 m':=by grind
     have BU:s' + ae e.2 m' + (m' - ae e.2 m')=m:=by grind
     have BV:=(q6.kr (w':=w8) aU)
     have BW:aH w8 w.heap.size _ (s' + ae e.2 m'):=(q5.mono tV).kp aU
     have Tz:bL (dz B) w8 gG gX:=tT.kp (aO B) aU
     by_cases hz:e.2 - ae e.2 m'=0
     ·have tW:(mC == 0)=true:=by rw [<-nX,hz];rfl
      refine VS.aP rfl tW ?_
      refine af ?_
      obtain ⟨e1,e2,e3⟩:=gW (y:=y) (p:=e) (q:=gG) hm hz
      rw [e1,<-List.singleton_append,<-List.append_assoc] at eU
      rw [e2] at eL
      rw [e3] at eS
      refine VO.jO rfl rfl (fk Tryz.func76) rfl ab yr yo (fun j hj=> ?_) (bu rfl) (fun w9 k9 b9=>wV rfl ?_)
      ·rcases List.mem_cons.1 hj with rfl | hj
       ·intro h;cases h
       ·cases List.mem_singleton.1 hj
        intro h;cases h
      refine af ?_
      have hO9:dT (dz B) 5 w9 (n' - 1) (if c'=1 then aX else aX + 5) (c' - 1) (ck++[.int .i64 (e.1:Int),.bool s7,.slice p7 n7 c7,.bool t7,.slice y7 m7 d7]) gX aj gG:=⟨by rw [tI];rfl,pV jQ,by rw [List.all_append,PX];rfl,Tz.kp (aO B) aU,DG,by omega,by omega,pW vZ⟩
      have iJ:∀ (v8:AV) (wb:World),bH (KU UU) w9 wb->((n' - 1=0/\v8=.val (.pointer none))\/(n' - 1≠0/\v8=.mR 155 (if c'=1 then aX else aX + 5)))->vE B D M w rv y q m CR Fu oQ qz us0 (2 * gG.length + (if 0 < m' - ae e.2 m' then 1 else 0)) [(0,.box 154 0),(1,.val (.int .i64 (y:Int))),(5,.box 5 0),(6,.box 6 0),(7,.box 7 0),(8,v8)]
        ((154,(Runner,[.row 155 (if c'=1 then aX else aX + 5) (n' - 1) (c' - 1),.val rv,.row 47 0 (CR + 1) cap']))::(155,(dG,((ck++([.int .i64 (e.1:Int),.bool s7,.slice p7 n7 c7,.bool t7,.slice y7 m7 d7]:List Value))++(gX.flatten++aj)).map AV.val))::(5,(26,([.bool s6,.slice p6 n6 c6,.bool t6,.slice y6 m6 d6]:List Value).map .val))::(6,(26,([.bool false,.slice none 0 0,.bool false,.slice none 0 0]:List Value).map .val))::(7,(26,([.bool s5,.slice p5 n5 c5,.bool t5,.slice y5 m5 d5]:List Value).map .val))::[(47,(fy,(oQ++[[.int .i64 (e.1:Int),.int .i64 (y:Int),.bool s4,.slice p4 n4 c4,.bool t4,.slice y4 m4 d4]]:List (List Value)).flatten.map AV.val++fH))]) wb:=fun v8 wb kb PZ=>
       ⟨gG,_,_,_,_,gX,aj,m' - ae e.2 m',s' + ae e.2 m',[]++[(e.1,y,ae e.2 m')],v8,_,_,_,_,_,_,_,_,_,_,_,_,_,_,_,_,_,_,rfl,rfl,rfl,hO9.kp (aO B) aU,BV.k,BW.k,od.sub nC,PY.add nC,DW,KS,BU,fun p hp=>CG p (by simp [hp]),eU,eL,by rw [eS];grind,PZ,by simp at jR ⊢;split <;> omega,.inr ⟨_,_,_,_,rfl,rfl,Ct.kp aU⟩⟩
      have hlt:2 * gG.length + (if 0 < m' - ae e.2 m' then 1 else 0) < 2 * (e::gG).length + (if 0 < m' then 1 else 0):=by
       rw [if_pos hm,List.length_cons];split <;> omega
      by_cases rS:n' - 1=0
      ·refine VO.dU (x:=.row 155 (if c'=1 then aX else aX + 5) (n' - 1) (c' - 1)) (p:=fun _=>none) (c:=c' - 1) rfl (fun β=>.inr ⟨_,congrArg (fun n=>Value.slice (some ⟨β 155,(if c'=1 then aX else aX + 5),none⟩) n (c' - 1)) rS⟩) rfl (fk Tryz.func75) rfl (fun wb Qa TA=>wV rfl ?_)
       refine af ?_
       refine VS.back _ hlt ⟨_,_,?_,?_,?_,?_,iJ _ wb aU (.inl ⟨rS,rfl⟩)⟩
       ·exact cd
       ·exact ⟨rfl,congrArg (fun l=>some (dG,l)) (eN _ _ _ _),rfl,rfl,rfl,congrArg (fun l=>some (fy,l++fH)) cw,trivial⟩
       ·rfl
       ·exact ⟨.lit rfl,.vals _,.vals _,.vals _,.vals _,.append (.vals _) (.none eD),trivial⟩
      ·refine VO.dA rfl rfl (fk Tryz.func75) rfl rS (by intro h;cases h) (fun wb Qa TA=>wV rfl ?_)
       refine af ?_
       refine VS.back _ hlt ⟨_,_,?_,?_,?_,?_,iJ _ wb aU (.inr ⟨rS,rfl⟩)⟩
       ·exact cd
       ·exact ⟨rfl,congrArg (fun l=>some (dG,l)) (eN _ _ _ _),rfl,rfl,rfl,congrArg (fun l=>some (fy,l++fH)) cw,trivial⟩
       ·rfl
       ·exact ⟨.lit rfl,.vals _,.vals _,.vals _,.vals _,.append (.vals _) (.none eD),trivial⟩
     ·have tW:(mC == 0)=false:=by rw [<-nX,beq_eq_false_iff_ne];exact Ae hz
      refine VS.aQ rfl tW ?_
      refine af ?_
      obtain ⟨e0,e1,e2,e3⟩:=gV (y:=y) (p:=e) (q:=gG) hm hz
      refine VO.dA rfl rfl (fk Tryz.func75) rfl nM (by intro h;cases h) (fun wb Qa TA=>wV rfl ?_)
      refine af ?_
      refine VS.back (2 * (e::gG).length + 0) (by rw [if_pos hm];omega) ⟨_,_,?_,?_,?_,?_,⟨(e.1,e.2 - ae e.2 m')::gG,aX,n',c',ck,[.int .i64 (e.1:Int),.bool s7,.slice p7 n7 c7,.bool t7,.slice y7 m7 d7]::gX,aj,m' - ae e.2 m',s' + ae e.2 m',[]++[(e.1,y,ae e.2 m')],.mR 155 aX,_,_,_,_,_,_,_,_,_,_,_,_,_,_,_,_,_,_,by rw [if_neg e0];rfl,rfl,rfl,⟨tI,.inl jQ,PX,.cons ((aO B).kp hE7 aU) (Tz.kp (aO B) aU),DG,yr,yo,by simpa using vZ⟩,BV.k,BW.k,od.sub nC,PY.add nC,DW,KS,BU,fun p hp=> ?_,?_,?_,?_,.inr ⟨nM,rfl⟩,?_,.inr ⟨_,_,_,_,rfl,rfl,Ct.kp aU⟩⟩⟩
      ·exact cd
      ·exact ⟨rfl,rfl,rfl,rfl,rfl,congrArg (fun l=>some (fy,l++fH)) cw,trivial⟩
      ·rfl
      ·exact ⟨.lit rfl,.vals _,.vals _,.vals _,.vals _,.append (.vals _) (.none eD),trivial⟩
      ·rcases List.mem_cons.1 hp with rfl | hp
       ·exact ⟨Ty,Cv,Tx⟩
       ·exact CG p (by simp [hp])
      ·rw [eU,e1,iM y _ e0,List.append_nil]
      ·rw [eL,e2,gU _ e0]
      ·rw [eS,e3,iP _ e0];grind
      ·rw [if_neg e0];simp at jR ⊢;omega
    ·have mI:¬ sg > 0:=by rw [<-me];exact fun h=>hm (gp.1 h)
     refine VS.aQ rfl (decide_eq_false mI) ?_
     have fU:=iM y (e::gG) hm
     have fL:=gU (e::gG) hm
     have fS:=iP (e::gG) hm
     refine af ?_
     refine VS.lp (bF _ _) rfl (fun wz β kz oz en=> ?_)
     obtain ⟨o1,o2⟩:=fo (en.own 154 _ _ rfl) 0 g rfl rfl
     obtain ⟨o3,o4⟩:=fo (en.own 155 _ _ rfl) 1 b rfl rfl
     rw [ah] at o4
     replace o3:β 155=b:=o3
     rw [fU] at eU
     rw [fL] at eL
     rw [fS,show s' + 0=s' by grind] at eS
     obtain ⟨o5,o6⟩:=fo (en.own 156 _ _ rfl) 2 ub rfl rfl
     replace o5:β 156=ub:=o5
     rw [List.map_append,ah,ah] at o6
     refine ⟨_,rfl,?_,oz.1,oz.2 ub cw,aX,n',c',ck,_,aj,.slice (some ⟨ub,0,none⟩) CR Fu,?_,o4,?_,ub,CR,Fu,oQ,qz,.inr rfl,rfl,o6,?_⟩
     ·rw [eS];exact sW.k
     ·rw [<-o3,<-o5];exact o2
     ·rw [eL];exact jh.kp (aO B) aU
     ·rw [eU,List.nil_append,List.append_nil];exact QZ.kp (eh B) aU
  ·rcases PZ with ⟨nM,rfl⟩ | ⟨nM,rfl⟩
   ·have JW:q'=[]:=List.eq_nil_of_length_eq_zero (by rw [<-jh.len];exact nM)
    subst JW
    have fU:qH y [] m'=[]:=rfl
    have fL:ny [] m'=[]:=rfl
    have fS:uh [] m'=0:=rfl
    refine af ?_
    refine VS.lp (bF _ _) rfl (fun wz β kz oz en=> ?_)
    obtain ⟨o1,o2⟩:=fo (en.own 154 _ _ rfl) 0 g rfl rfl
    obtain ⟨o3,o4⟩:=fo (en.own 155 _ _ rfl) 1 b rfl rfl
    rw [ah] at o4
    replace o3:β 155=b:=o3
    rw [fU] at eU
    rw [fL] at eL
    rw [fS,show s' + 0=s' by grind] at eS
    have o5:=(en.own 47 _ _ rfl).new
    have o6:=(en.own 47 _ _ rfl).cls
    rw [List.map_append,ah] at o6
    have n1':β 47≠g:=fun e=>absurd (en.apart 154 47 (by intro h;cases h) (by intro h;cases h) (o1.trans e.symm)) bW
    have n2':β 47≠b:=fun e=>absurd (en.apart 155 47 (by intro h;cases h) (by intro h;cases h) (o3.trans e.symm)) bW
    have o7:w.heap.size≤β 47\/β 47=ub:=by
     have:=gi (show dm 77 [g,b,ub] w 47 (β 47) from o5)
     simpa [n1',n2'] using this
    refine ⟨_,rfl,?_,oz.1,oz.2 ub cw,aX,n',c',ck,iT,aj,.slice (some ⟨β 47,0,none⟩) un uc,?_,o4,?_,⟨β 47,un,uc,rJ,oP.map (AV.leaf β),o7,rfl,o6,?_⟩⟩
    ·rw [eS];exact sW.k
    ·rw [<-o3];exact o2
    ·rw [eL];exact jh.kp (aO B) aU
    ·rw [eU,List.append_nil];exact (xk.kp aU).o β
   ·obtain ⟨e,gG,rfl⟩:∃ e gG,q'=e::gG:=by
     cases q' with
     | nil=>exact absurd jh.len nM
     | cons e gG=>exact ⟨e,gG,rfl⟩
    obtain ⟨cs,gX,rfl,hE,tT⟩:∃ cs gX,iT=cs::gX/\dz B w' cs e/\bL (dz B) w' gG gX:=by
     have:=jh.el
     cases this with
     | cons h1 h2=>exact ⟨_,_,rfl,h1,h2⟩
    obtain ⟨s3,p3,n3,c3,t3,y3,m3,d3,rfl,Tw⟩:=hE
    have yr:=jh.le
    have tI:=jh.len
    have yo:=jh.cm
    have jQ:ck.length=aX:=jh.pl.resolve_right ab
    obtain ⟨mP,CK,Gu⟩:=CG e cw
    refine af ?_
    obtain ⟨sg,me⟩:∃ sg,eg m' 0=sg:=⟨_,rfl⟩
    refine VO.call rfl rfl (fk Tryz.func13) (fun bD cQ bG=>(eR _ m' kk bD (Kf.ki (hK m' od xj rK)) ab sg me).mono ?_)
    rintro e w1 ⟨rfl,aI⟩
    skip
    refine ⟨_,rfl,aI,fun dt _ bb1=>wV rfl ?_⟩
    refine af ?_
    by_cases hm:0 < m'
    ·have mI:sg > 0:=by rw [<-me];exact gp.2 hm
     rw [if_pos hm] at jR
     refine VS.aP rfl (decide_eq_true mI) ?_
     refine af ?_
     refine VO.cW rfl (([.bool s3,.slice p3 n3 c3,.bool t3,.slice y3 m3 d3]:List Value).map .val) rfl (bC jQ 1 _ ⟨[],rfl⟩) (wV rfl ?_)
     refine af ?_
     have xO:=ct e.2 m'
     have Lx:0≤ae e.2 m':=by rcases xO with ⟨h,_⟩ | ⟨h,_⟩ <;> rw [h] <;> assumption
     have nC:Iz D (ae e.2 m'):=by rcases xO with ⟨h,_⟩ | ⟨h,_⟩ <;> rw [h] <;> assumption
     have Bm:=dv e.2 m'
     have zW:=cJ e.2 m'
     have og:=hK _ nC Lx (Rat.le_trans zW rK)
     refine VO.ee rfl (fk Tryz.func71) (fun cG β dQ cV ho=>((gT _ _ e.2 [m'] kk cG (Tw.rd.ki (hK e.2 mP CK Gu)) (cZ (ho.own 31 (.base (List.mem_singleton.2 rfl)) _ _ rfl) [] (vs:=[[.bool s1,.slice p1 n1 c1,.bool t1,.slice y1 m1 d1]]) (by rfl) rfl (bt.cons (Kf.ki (hK m' od xj rK)) bt.nil) (bu rfl) bW) ab (bu rfl)).mono (fun o w2 h=>And.intro h cV.1.size)).mono ?_)
     rintro o w2 ⟨⟨r4,rfl,q4,z4,ba⟩,tU⟩
     rw [eM] at q4
     have BS:aH w2 w.heap.size r4 (ae e.2 m'):=q4.mono tU
     obtain ⟨s4,p4,n4,c4,t4,y4,m4,d4,rfl⟩:=BS.form
     refine ⟨_,rfl,ba,fun dR _ bb2=>wV rfl ?_⟩
     refine af ?_
     refine VO.cW rfl (([.int .i64 (e.1:Int)]:List Value).map .val) rfl (bC jQ 0 _ ⟨_,rfl⟩) (wV rfl ?_)
     refine af ?_
     obtain ⟨zT,zV⟩:=xk.el.ok (eh B)
     have MD:=xk.len
     refine VO.app (bF _ _) (t:=34) (e:=fy) (sz:=6) (n:=un) (c:=uc) (mm:=1) (known:=rJ.flatten.map .val) (spare:=oP) (del:=some 47) (news:=([.int .i64 (e.1:Int),.int .i64 (y:Int),.bool s4,.slice p4 n4 c4,.bool t4,.slice y4 m4 d4]:List Value).map .val) (dst:=47) rfl rfl rfl rfl rfl rfl rfl rfl (bu rfl) rfl (.inr ⟨47,rfl,rfl,rfl⟩) (.inr rfl) (by rw [List.length_map,zV,MD]) xk.fl xk.le xk.cm ⟨ai _,xk.sl,rfl⟩ ⟨bh zT,xk.so,rfl⟩ rfl (by simp only [List.length_append,List.length_cons] at MD jR lB ⊢;omega)
      (fun w1 β k1 b1 ho=>⟨_,_,rfl,.inr ⟨β 46,0,rfl,df (rest:=[]) (ho.own 46 (.base (List.mem_append_right _ (List.mem_singleton.2 rfl))) _ _ rfl) rfl⟩⟩)
      (fun qG cap' fH ρ Nk Nl fJ jS iB ek pU eD=>VO.dI 155 rfl (cL (ai _) _ _) (wV rfl ?_))
     refine af ?_
     have Ct:yy B qG (un + 1) cap' (rJ++[[.int .i64 (e.1:Int),.int .i64 (y:Int),.bool s4,.slice p4 n4 c4,.bool t4,.slice y4 m4 d4]]:List (List Value)) fH (us0++(done++[(e.1,y,ae e.2 m')])):=⟨by simp [MD] <;> omega,by simpa [List.append_assoc] using ((xk.el.kp (eh B) aU).snoc (show qy B qG [.int .i64 (e.1:Int),.int .i64 (y:Int),.bool s4,.slice p4 n4 c4,.bool t4,.slice y4 m4 d4] (e.1,y,ae e.2 m') from ⟨s4,p4,n4,c4,t4,y4,m4,d4,rfl,(BS.mono hB).kp aU⟩)),pU,eD,jS,iB,by simpa using ek⟩
     refine VO.call rfl rfl (fk Tryz.func16) (fun gE ju ia=>((fx _ _ s' (ae e.2 m') kk kk gE (sW.rd.ki (hK s' PY hs0 hsM)) (BS.rd.ki og) ab ab).mono (fun o w2 h=>And.intro h ia.1.size)).mono ?_)
     rintro o w5 ⟨⟨r5,rfl,q5,eP⟩,tV⟩
     obtain ⟨s5,p5,n5,c5,t5,y5,m5,d5,rfl⟩:=q5.form
     refine ⟨_,rfl,eP,fun jV _ qu=>wV rfl ?_⟩
     refine af ?_
     refine VO.call rfl rfl (fk Tryz.func72) (fun gF ld iC=>(dc _ _ m' (ae e.2 m') kk kk gF (Kf.ki (hK m' od xj rK)) (BS.rd.ki og) ab ab).mono ?_)
     rintro e w6 ⟨r6,rfl,q6,fK⟩
     obtain ⟨s6,p6,n6,c6,t6,y6,m6,d6,rfl⟩:=q6.form
     refine ⟨_,rfl,fK,fun lG _ pO=>wV rfl ?_⟩
     refine af ?_
     refine VO.cW rfl (([.bool s3,.slice p3 n3 c3,.bool t3,.slice y3 m3 d3]:List Value).map .val) rfl (bC jQ 1 _ ⟨[],rfl⟩) (wV rfl ?_)
     refine af ?_
     refine VO.call rfl rfl (fk Tryz.func72) (fun mW tJ lH=>((dc _ _ e.2 (ae e.2 m') kk kk mW (Tw.rd.ki (hK e.2 mP CK Gu)) (BS.rd.ki og) ab ab).mono (fun o w2 h=>And.intro h lH.1.size)).mono ?_)
     rintro o w7 ⟨⟨r7,rfl,q7,lL⟩,Ly⟩
     obtain ⟨s7,p7,n7,c7,t7,y7,m7,d7,rfl⟩:=q7.form
     refine ⟨_,rfl,lL,fun sU _ Cy=>wV rfl ?_⟩
     refine af ?_
     refine VO.cond rfl (by show aX + 1 + 4≤_;rw [List.length_map,List.length_append,List.length_append,List.flatten_cons,List.length_append,jQ];show aX + 1 + 4≤aX + (6 - 1 + _ + _);omega) (VO.dI 155 rfl (vC jQ) (wV rfl ?_))
     refine af ?_
     refine VO.cW rfl (([.bool s7,.slice p7 n7 c7,.bool t7,.slice y7 m7 d7]:List Value).map .val) rfl (bC jQ 1 _ ⟨[],rfl⟩) (wV rfl ?_)
     refine af ?_
     have Cv:0≤e.2 - ae e.2 m':=by grind
     have Tx:e.2 - ae e.2 m'≤M:=by grind
     have Ty:Iz D (e.2 - ae e.2 m'):=mP.sub nC
     obtain ⟨mC,nX⟩:∃ mC,eg (e.2 - ae e.2 m') 0=mC:=⟨_,rfl⟩
     refine VO.call rfl rfl (fk Tryz.func13) (fun sD Fc wj=>(eR _ (e.2 - ae e.2 m') kk sD (q7.ki (hK _ Ty Cv Tx)) ab mC nX).mono ?_)
     rintro e w8 ⟨rfl,qf⟩
     skip
     refine ⟨_,rfl,qf,fun wk _ Kd=>wV rfl ?_⟩
     refine af ?_
     have hE7:dz B w8 [.int .i64 (e.1:Int),.bool s7,.slice p7 n7 c7,.bool t7,.slice y7 m7 d7] (e.1,e.2 - ae e.2 m'):=⟨s7,p7,n7,c7,t7,y7,m7,d7,rfl,(q7.mono (Nat.le_trans hB Ly)).kp aU⟩
     have DG:=jh.so
     have PX:=jh.po
     have vZ:=jh.fl
     have DW:0≤m' - ae e.2 m':=by grind
     have KS:0≤s' + ae e.2 m':=by grind
     have BU:s' + ae e.2 m' + (m' - ae e.2 m')=m:=by grind
     have BV:=(q6.kr (w':=w8) aU)
     have BW:aH w8 w.heap.size _ (s' + ae e.2 m'):=(q5.mono tV).kp aU
     have Tz:bL (dz B) w8 gG gX:=tT.kp (aO B) aU
     by_cases hz:e.2 - ae e.2 m'=0
     ·have tW:(mC == 0)=true:=by rw [<-nX,hz];rfl
      refine VS.aP rfl tW ?_
      refine af ?_
      obtain ⟨e1,e2,e3⟩:=gW (y:=y) (p:=e) (q:=gG) hm hz
      rw [e1,<-List.singleton_append,<-List.append_assoc] at eU
      rw [e2] at eL
      rw [e3] at eS
      refine VO.jO rfl rfl (fk Tryz.func76) rfl ab yr yo (fun j hj=> ?_) (bu rfl) (fun w9 k9 b9=>wV rfl ?_)
      ·rcases List.mem_cons.1 hj with rfl | hj
       ·intro h;cases h
       ·cases List.mem_singleton.1 hj
        intro h;cases h
      refine af ?_
      have hO9:dT (dz B) 5 w9 (n' - 1) (if c'=1 then aX else aX + 5) (c' - 1) (ck++[.int .i64 (e.1:Int),.bool s7,.slice p7 n7 c7,.bool t7,.slice y7 m7 d7]) gX aj gG:=⟨by rw [tI];rfl,pV jQ,by rw [List.all_append,PX];rfl,Tz.kp (aO B) aU,DG,by omega,by omega,pW vZ⟩
      have iJ:∀ (v8:AV) (wb:World),bH (KU UU) w9 wb->((n' - 1=0/\v8=.val (.pointer none))\/(n' - 1≠0/\v8=.mR 155 (if c'=1 then aX else aX + 5)))->vE B D M w rv y q m CR Fu oQ qz us0 (2 * gG.length + (if 0 < m' - ae e.2 m' then 1 else 0)) [(0,.box 154 0),(1,.val (.int .i64 (y:Int))),(5,.box 5 0),(6,.box 6 0),(7,.box 7 0),(8,v8)]
        ((154,(Runner,[.row 155 (if c'=1 then aX else aX + 5) (n' - 1) (c' - 1),.val rv,.row 47 0 (un + 1) cap']))::(155,(dG,((ck++([.int .i64 (e.1:Int),.bool s7,.slice p7 n7 c7,.bool t7,.slice y7 m7 d7]:List Value))++(gX.flatten++aj)).map AV.val))::(5,(26,([.bool s6,.slice p6 n6 c6,.bool t6,.slice y6 m6 d6]:List Value).map .val))::(6,(26,([.bool false,.slice none 0 0,.bool false,.slice none 0 0]:List Value).map .val))::(7,(26,([.bool s5,.slice p5 n5 c5,.bool t5,.slice y5 m5 d5]:List Value).map .val))::[(47,(fy,(rJ++[[.int .i64 (e.1:Int),.int .i64 (y:Int),.bool s4,.slice p4 n4 c4,.bool t4,.slice y4 m4 d4]]:List (List Value)).flatten.map AV.val++fH))]) wb:=fun v8 wb kb PZ=>
       ⟨gG,_,_,_,_,gX,aj,m' - ae e.2 m',s' + ae e.2 m',done++[(e.1,y,ae e.2 m')],v8,_,_,_,_,_,_,_,_,_,_,_,_,_,_,_,_,_,_,rfl,rfl,rfl,hO9.kp (aO B) aU,BV.k,BW.k,od.sub nC,PY.add nC,DW,KS,BU,fun p hp=>CG p (by simp [hp]),eU,eL,by rw [eS];grind,PZ,by simp at jR ⊢;split <;> omega,.inr ⟨_,_,_,_,rfl,rfl,Ct.kp aU⟩⟩
      have hlt:2 * gG.length + (if 0 < m' - ae e.2 m' then 1 else 0) < 2 * (e::gG).length + (if 0 < m' then 1 else 0):=by
       rw [if_pos hm,List.length_cons];split <;> omega
      by_cases rS:n' - 1=0
      ·refine VO.dU (x:=.row 155 (if c'=1 then aX else aX + 5) (n' - 1) (c' - 1)) (p:=fun _=>none) (c:=c' - 1) rfl (fun β=>.inr ⟨_,congrArg (fun n=>Value.slice (some ⟨β 155,(if c'=1 then aX else aX + 5),none⟩) n (c' - 1)) rS⟩) rfl (fk Tryz.func75) rfl (fun wb Qa TA=>wV rfl ?_)
       refine af ?_
       refine VS.back _ hlt ⟨_,_,?_,?_,?_,?_,iJ _ wb aU (.inl ⟨rS,rfl⟩)⟩
       ·exact cd
       ·exact ⟨rfl,congrArg (fun l=>some (dG,l)) (eN _ _ _ _),rfl,rfl,rfl,congrArg (fun l=>some (fy,l++fH)) cw,trivial⟩
       ·rfl
       ·exact ⟨.lit rfl,.vals _,.vals _,.vals _,.vals _,.append (.vals _) (.none eD),trivial⟩
      ·refine VO.dA rfl rfl (fk Tryz.func75) rfl rS (by intro h;cases h) (fun wb Qa TA=>wV rfl ?_)
       refine af ?_
       refine VS.back _ hlt ⟨_,_,?_,?_,?_,?_,iJ _ wb aU (.inr ⟨rS,rfl⟩)⟩
       ·exact cd
       ·exact ⟨rfl,congrArg (fun l=>some (dG,l)) (eN _ _ _ _),rfl,rfl,rfl,congrArg (fun l=>some (fy,l++fH)) cw,trivial⟩
       ·rfl
       ·exact ⟨.lit rfl,.vals _,.vals _,.vals _,.vals _,.append (.vals _) (.none eD),trivial⟩
     ·have tW:(mC == 0)=false:=by rw [<-nX,beq_eq_false_iff_ne];exact Ae hz
      refine VS.aQ rfl tW ?_
      refine af ?_
      obtain ⟨e0,e1,e2,e3⟩:=gV (y:=y) (p:=e) (q:=gG) hm hz
      refine VO.dA rfl rfl (fk Tryz.func75) rfl nM (by intro h;cases h) (fun wb Qa TA=>wV rfl ?_)
      refine af ?_
      refine VS.back (2 * (e::gG).length + 0) (by rw [if_pos hm];omega) ⟨_,_,?_,?_,?_,?_,⟨(e.1,e.2 - ae e.2 m')::gG,aX,n',c',ck,[.int .i64 (e.1:Int),.bool s7,.slice p7 n7 c7,.bool t7,.slice y7 m7 d7]::gX,aj,m' - ae e.2 m',s' + ae e.2 m',done++[(e.1,y,ae e.2 m')],.mR 155 aX,_,_,_,_,_,_,_,_,_,_,_,_,_,_,_,_,_,_,by rw [if_neg e0];rfl,rfl,rfl,⟨tI,.inl jQ,PX,.cons ((aO B).kp hE7 aU) (Tz.kp (aO B) aU),DG,yr,yo,by simpa using vZ⟩,BV.k,BW.k,od.sub nC,PY.add nC,DW,KS,BU,fun p hp=> ?_,?_,?_,?_,.inr ⟨nM,rfl⟩,?_,.inr ⟨_,_,_,_,rfl,rfl,Ct.kp aU⟩⟩⟩
      ·exact cd
      ·exact ⟨rfl,rfl,rfl,rfl,rfl,congrArg (fun l=>some (fy,l++fH)) cw,trivial⟩
      ·rfl
      ·exact ⟨.lit rfl,.vals _,.vals _,.vals _,.vals _,.append (.vals _) (.none eD),trivial⟩
      ·rcases List.mem_cons.1 hp with rfl | hp
       ·exact ⟨Ty,Cv,Tx⟩
       ·exact CG p (by simp [hp])
      ·rw [eU,e1,iM y _ e0,List.append_nil]
      ·rw [eL,e2,gU _ e0]
      ·rw [eS,e3,iP _ e0];grind
      ·rw [if_neg e0];simp at jR ⊢;omega
    ·have mI:¬ sg > 0:=by rw [<-me];exact fun h=>hm (gp.1 h)
     refine VS.aQ rfl (decide_eq_false mI) ?_
     have fU:=iM y (e::gG) hm
     have fL:=gU (e::gG) hm
     have fS:=iP (e::gG) hm
     refine af ?_
     refine VS.lp (bF _ _) rfl (fun wz β kz oz en=> ?_)
     obtain ⟨o1,o2⟩:=fo (en.own 154 _ _ rfl) 0 g rfl rfl
     obtain ⟨o3,o4⟩:=fo (en.own 155 _ _ rfl) 1 b rfl rfl
     rw [ah] at o4
     replace o3:β 155=b:=o3
     rw [fU] at eU
     rw [fL] at eL
     rw [fS,show s' + 0=s' by grind] at eS
     have o5:=(en.own 47 _ _ rfl).new
     have o6:=(en.own 47 _ _ rfl).cls
     rw [List.map_append,ah] at o6
     have n1':β 47≠g:=fun e=>absurd (en.apart 154 47 (by intro h;cases h) (by intro h;cases h) (o1.trans e.symm)) bW
     have n2':β 47≠b:=fun e=>absurd (en.apart 155 47 (by intro h;cases h) (by intro h;cases h) (o3.trans e.symm)) bW
     have o7:w.heap.size≤β 47\/β 47=ub:=by
      have:=gi (show dm 77 [g,b,ub] w 47 (β 47) from o5)
      simpa [n1',n2'] using this
     refine ⟨_,rfl,?_,oz.1,oz.2 ub cw,aX,n',c',ck,_,aj,.slice (some ⟨β 47,0,none⟩) un uc,?_,o4,?_,⟨β 47,un,uc,rJ,oP.map (AV.leaf β),o7,rfl,o6,?_⟩⟩
     ·rw [eS];exact sW.k
     ·rw [<-o3];exact o2
     ·rw [eL];exact jh.kp (aO B) aU
     ·rw [eU,List.append_nil];exact (xk.kp aU).o β
end
set_option maxRecDepth 4000
section
open Go.RowKit
attribute [local irreducible] aC VS
theorem TC {v off n c:Nat} {a y:AV} (h:aG a=true) (hy:aG y=true):[.row v off n c,a,y].all aG=true:=by
 rw [List.all_cons,List.all_cons,List.all_cons,h,hy];rfl
theorem BX {v off n c j:Nat} {a y:AV} (h:j∈ax [.row v off n c,a,y]):j=v\/j∈ax [a]\/j∈y.cT:=by
 obtain ⟨z,hz,hj⟩:=aZ.1 h
 simp only [List.mem_cons,List.not_mem_nil,or_false] at hz
 rcases hz with rfl | rfl | rfl
 ·exact .inl (by simpa [AV.cT] using hj)
 ·exact .inr (.inl (aZ.2 ⟨_,by simp,hj⟩))
 ·exact .inr (.inr hj)
theorem Fw {C:Cx} {β bZ:Nat->Nat} {H:Hp} {ids:List Nat} {del:Option Nat} {ups:List (Nat×(TypeId×List AV))} {ad:List Nat} {w w':World} (hb:tw ad w w') (had:∀ b∈ad,(∃ x∈ups,bZ x.1=b)\/∃ i,del=some i/\β i=b) (oy:∀ i,i∉ups.map (·.1)->bZ i=β i) (gone:∀ i,del=some i->Reach H ids i/\H i≠none)
  (left:∀ i,del=some i->∃ t cs,bg w' (β i) t (List.toArray cs)/\C.K.fz t=false/\cs.all aV=true) (own:∀ x∈ups,mU C bZ w' x.1 x.2.1 x.2.2)
  (Pg:∀ x∈ups,(H x.1≠none/\del≠some x.1/\Reach H ids x.1/\bZ x.1=β x.1)\/((H x.1=none\/del=some x.1)/\x.1 < 2 * C.N/\(w.heap.size≤bZ x.1\/∃ i,del=some i/\bZ x.1=β i)))
  (once:(ups.map (·.1)).Nodup) (tys:(ups.map (·.2.1)).Nodup) (closed:∀ x∈ups,∀ j∈ax x.2.2,j∈ups.map (·.1)\/(H j≠none/\del≠some j)):AX C β bZ H ids del ups w w':=by
 refine ⟨hb.os,hb.tape,hb.output,hb.size,fun k hk hx jR _=>hb.qq k hk fun hm=> ?_,oy,gone,fun i hi=>.inl (.inr (left i hi)),own,Pg,once,fun x hx y hy he=> ?_,closed⟩
 ·rcases had k hm with ⟨x,hx',e⟩ | ⟨i,hi,e⟩
  ·exact hx x hx' e.symm
  ·exact jR i hi e.symm
 ·have ht:x.2.1=y.2.1:=bN (own x hx).cls (he▸(own y hy).cls)
  obtain ⟨i,hi⟩:=List.mem_iff_getElem?.1 hx
  obtain ⟨j,hj⟩:=List.mem_iff_getElem?.1 hy
  have e1:(ups.map (·.2.1))[i]? =some x.2.1:=by rw [List.getElem?_map,hi];rfl
  have e2:(ups.map (·.2.1))[j]? =some x.2.1:=by rw [List.getElem?_map,hj,ht];rfl
  have:=(List.getElem?_inj (by rw [List.length_map];exact (List.getElem?_eq_some_iff.1 hi).1) tys).1 (e1.trans e2.symm)
  subst this
  rw [hi] at hj
  cases hj;rfl
theorem Qb (g y kk:Nat) (r u v:Value) (m:Rat) (w:World) (hg:bg w g Runner #[.slice none 0 0,r,u]) (hv:bE w v m):
  Calls Tryz.prog 73 #[.pointer (some ⟨g,0,none⟩),.int .i64 (y:Int),v] w fun o w'=>∃ x,o=.returned x/\aH w' w.heap.size x 0/\aL w w':=by
 obtain ⟨s0,p0,n0,c0,t0,y0,m0,d0,rfl⟩:=hv.form
 refine ag (C:=bP Tryz.prog w _) (args:=[_,_,_]) Tryz.func73 rfl Tryz.ntmps73 (bu rfl) ?_
 refine aa ?_
 refine VO.call rfl rfl (fk Tryz.func44) (fun bD cQ bG=>((bX 0 bD ab ab).mono (fun o w2 h=>And.intro h bG.size)).mono ?_)
 rintro o w1 ⟨⟨r9,rfl,q9,ME⟩,Lw⟩
 obtain ⟨s9,p9,n9,c9,t9,y9,m9,d9,rfl⟩:=q9.form
 refine ⟨_,rfl,ME,fun Ff _ bb9=>wV rfl ?_⟩
 refine aa ?_
 have q9':aH w1 w.heap.size (.agg #[.bool s9,.slice p9 n9 c9,.bool t9,.slice y9 m9 d9]) 0:=q9.mono Lw
 refine VO.call rfl rfl (fk Tryz.func75) (fun cG dQ cV=>(xZ g 0 none r u cG (hg.bo cV)).mono ?_)
 rintro e w2 ⟨rfl,ba⟩
 skip
 refine ⟨_,rfl,ba,fun dR _ bb2=>wV rfl ?_⟩
 refine aa ?_
 refine VS.loop (J:=fun m L M w'=>L=[(1,.val (.int .i64 (y:Int))),(5,.box 5 0),(6,.box 6 0),(7,.box 7 0),(8,.val (.pointer none))]/\M=[(5,(26,([.bool s0,.slice p0 n0 c0,.bool t0,.slice y0 m0 d0]:List Value).map .val)),(6,(26,([.bool false,.slice none 0 0,.bool false,.slice none 0 0]:List Value).map .val)),(7,(26,([.bool s9,.slice p9 n9 c9,.bool t9,.slice y9 m9 d9]:List Value).map .val))]/\aH w' w.heap.size (.agg #[.bool s9,.slice p9 n9 c9,.bool t9,.slice y9 m9 d9]) 0) 0 ⟨_,_,?_,?_,?_,?_,⟨rfl,rfl,q9'.k⟩⟩ ?_
 ·exact cd
 ·exact cd
 ·rfl
 ·exact iD
 rintro m' L M w3 ⟨rfl,rfl,hr3⟩
 refine aa ?_
 refine aR ?_;intro wz kz bz
 exact ⟨_,rfl,hr3.k,bz⟩
end
section
open Go.RowKit
section
variable {C:Cx} {F:Fr} {H:Hp} {w:World} {m:Option (List FuncId)} {full:Array Oper} {K:Fr->Hp->World->Prop} {o:Oper} {r:List Oper}
theorem VO.vF {B i y:Nat} {a u:AV} {val:Value} {mm:Rat} (kk:Nat) (hP:C.P=Tryz.prog) (e:stepOf C full F H o=.call (.fn 73 [.box i 0,.val (.int .i64 (y:Int)),.val val])) (hf:qV C.P 73) (h1:H i=some (Runner,[.val (.slice none 0 0),a,u])) (hv:∀ w1,bH C.K w w1->C.Old w1->bE w1 val mm) (hB:B≤C.w0.heap.size)
  (k:∀ w2 x,bH C.K w w2->C.Old w2->aH w2 B x 0->aC C m full r K (F.bB o.dst (.val x)) H w2):aC C m full (o::r) K F H w:=by
 refine VO.ee e hf fun w1 β a1 a2 a3=> ?_
 have o1:=a3.own i (.base (by simp [gJ,AV.ids])) _ _ h1
 refine Calls.mono (show Calls C.P _ #[.pointer (some ⟨β i,0,none⟩),.int .i64 (y:Int),val] w1 _ from hP▸Qb (β i) y kk _ _ val mm w1 o1.cls (hv w1 a1 a2)) ?_
 rintro e w2 ⟨x,rfl,hx,hb⟩
 exact ⟨_,rfl,hb,fun b1 b2 b3=>k w2 x b1 b3 (hx.mono (Nat.le_trans hB (C.fC _ a2)))⟩
theorem VO.Jo {B D i v d2 off n c y:Nat} {M mm:Rat} {a:AV} {pre spare:List Value} {vs:List (List Value)} {q:List Vq} {val:Value} (kk:Nat) (hP:C.P=Tryz.prog) (hK:C.K=KU UU)
  (e:stepOf C full F H o=.call (.fn 73 [.box i 0,.val (.int .i64 (y:Int)),.val val])) (hf:qV C.P 73) (h1:H i=some (Runner,[.row v off n c,a,.val (.slice none 0 0)])) (h2:H v=some (dG,(pre++(vs.flatten++spare)).map .val)) (h3:H d2=none) (hd2:d2 < 2 * C.N) (hiv:i≠v) (haok:aG a=true) (TD:∀ β:Nat->Nat,aV (a.leaf β)=true)
  (iK:∀ j∈ax [a],H j≠none) (hl:1≤lvl C.SU m o) (hO:∀ w1,bH C.K w w1->C.Old w1->dT (dz B) 5 w1 n off c pre vs spare q) (hv:∀ w1,bH C.K w w1->C.Old w1->bE w1 val mm) (hmI:Iz D mm) (CP:0≤mm) (hmM:mm≤M) (hq:∀ p∈q,Iz D p.2/\0≤p.2/\p.2≤M)
  (hKs:∀ x,Iz D x->0≤x->x≤M->et x kk) (hk:kk≤100000) (lB:q.length≤1000) (hB:B≤C.w0.heap.size)
  (k1:∀ w2 x aX n' c' ck iT aj,bH C.K w w2->C.Old w2->aH w2 B x (uh q mm)->qH y q mm=[]->dT (dz B) 5 w2 n' aX c' ck iT aj (ny q mm)->
   aC C m full r K (F.bB o.dst (.val x)) ((H.put i (Runner,[.row v aX n' c',a,.val (.slice none 0 0)])).put v (dG,(ck++(iT.flatten++aj)).map .val)) w2)
  (k2:∀ w2 x aX n' c' ck iT aj un uc rJ oP,bH C.K w w2->C.Old w2->aH w2 B x (uh q mm)->dT (dz B) 5 w2 n' aX c' ck iT aj (ny q mm)->dT (qy B) 6 w2 un 0 uc [] rJ oP (qH y q mm)->
   aC C m full r K (F.bB o.dst (.val x)) (((H.put i (Runner,[.row v aX n' c',a,.row d2 0 un uc])).put v (dG,(ck++(iT.flatten++aj)).map .val)).put d2 (fy,(rJ.flatten++oP).map .val)) w2):aC C m full (o::r) K F H w:=by
 show one C m full o (aC C m full r K) F H w
 unfold one
 rw [e]
 intro w1 β a1 a2 a3
 have jA:Reach H (fu.fn 73 [.box i 0,.val (.int .i64 (y:Int)),.val val]).ids i:=.base (by simp [fu.ids,gJ,AV.ids])
 have kE:Reach H (fu.fn 73 [.box i 0,.val (.int .i64 (y:Int)),.val val]).ids v:=.step jA h1 (by simp [ax,AV.cT])
 have o1:=a3.own i jA _ _ h1
 have o2:=a3.own v kE _ _ h2
 have iB:bg w1 (β v) dG (pre++(vs.flatten++spare)).toArray:=by have:=o2.cls;rw [ah] at this;exact this
 have hBw:B≤w1.heap.size:=Nat.le_trans hB (C.fC _ a2)
 have hne:∀ j,H j≠none->j≠d2:=fun j hj e=>hj (e▸h3)
 have hid:i≠d2:=hne i (by rw [h1];simp)
 have Nm:v≠d2:=hne v (by rw [h2];simp)
 refine ⟨hf,Calls.mono (show Calls C.P _ #[.pointer (some ⟨β i,0,none⟩),.int .i64 (y:Int),val] w1 _ from hP▸Tv B (β i) (β v) off n c y D kk M mm pre vs spare q (a.leaf β) val w1 o1.cls iB (hO w1 a1 a2) (TD β) (hv w1 a1 a2) hmI CP hmM hq hKs hk lB hBw) ?_⟩
 rintro e w2 ⟨x,rfl,hx,hb,aX,n',c',ck,iT,aj,uv,QY,Cs,jh,⟨rfl,OH⟩ | ⟨b',un,uc,rJ,oP,hbn,rfl,hu',xk⟩⟩
 ·refine ⟨β,.val x,none,[(i,(Runner,[.row v aX n' c',a,.val (.slice none 0 0)])),(v,(dG,(ck++(iT.flatten++aj)).map .val))],rfl,fun i hi=>(by cases hi),.inl hl,.inr rfl,?_,fun p1 _ p3 _ _=>k1 w2 x aX n' c' ck iT aj p1 p3 (hx.mono hBw) OH jh⟩
  refine Fw hb (fun b Cs=> ?_) (fun _ _=>rfl) (fun i hi=>(by cases hi)) (fun i hi=>(by cases hi)) (fun x hx=> ?_) (fun x hx=> ?_) (by simpa using hiv) (by show [Runner,dG].Nodup;decide) (fun x hx j hj=> ?_)
  ·simp only [List.mem_cons,List.not_mem_nil,or_false] at Cs
   rcases Cs with rfl | rfl
   ·exact .inl ⟨_,List.mem_cons_self,rfl⟩
   ·exact .inl ⟨_,List.mem_cons_of_mem _ List.mem_cons_self,rfl⟩
  ·simp only [List.mem_cons,List.not_mem_nil,or_false] at hx
   rcases hx with rfl | rfl
   ·exact ⟨o1.new,o1.ty,QY,TC haok rfl⟩
   ·exact ⟨o2.new,o2.ty,by rw [ah];exact Cs,bh (jh.all (aO B))⟩
  ·simp only [List.mem_cons,List.not_mem_nil,or_false] at hx
   rcases hx with rfl | rfl
   ·exact .inl ⟨by rw [h1];simp,by simp,jA,rfl⟩
   ·exact .inl ⟨by rw [h2];simp,by simp,kE,rfl⟩
  ·simp only [List.mem_cons,List.not_mem_nil,or_false] at hx
   rcases hx with rfl | rfl
   ·rcases BX hj with h | h | h
    ·exact .inl (by simp [h])
    ·exact .inr ⟨iK j h,by simp⟩
    ·cases h
   ·rw [ai] at hj;cases hj
 ·let bZ:Nat->Nat:=fun j=>if j=d2 then b' else β j
  have e2:bZ d2=b':=if_pos rfl
  have e1:∀ j,j≠d2->bZ j=β j:=fun j hj=>if_neg hj
  have hag:a.leaf bZ=a.leaf β:=AV.pC fun j hj=>e1 j (hne j (iK j (aZ.2 ⟨a,by simp,hj⟩)))
  refine ⟨bZ,.val x,none,[(i,(Runner,[.row v aX n' c',a,.row d2 0 un uc])),(v,(dG,(ck++(iT.flatten++aj)).map .val)),(d2,(fy,(rJ.flatten++oP).map .val))],rfl,fun i hi=>(by cases hi),.inl ab,.inr rfl,?_,fun p1 _ p3 ρ _=>k2 w2 x aX n' c' ck iT aj un uc rJ oP p1 p3 (hx.mono hBw) jh xk⟩
  refine Fw hb (fun b Cs=> ?_) (fun j hj=>e1 j (fun h=>hj (by simp [h]))) (fun i hi=>(by cases hi)) (fun i hi=>(by cases hi)) (fun x hx=> ?_) (fun x hx=> ?_) (by simp [hiv,hid,Nm]) (by show [Runner,dG,fy].Nodup;decide) (fun x hx j hj=> ?_)
  ·simp only [List.mem_cons,List.not_mem_nil,or_false] at Cs
   rcases Cs with rfl | rfl
   ·exact .inl ⟨_,List.mem_cons_self,e1 i hid⟩
   ·exact .inl ⟨_,List.mem_cons_of_mem _ List.mem_cons_self,e1 v Nm⟩
  ·simp only [List.mem_cons,List.not_mem_nil,or_false] at hx
   rcases hx with rfl | rfl | rfl
   ·refine ⟨by rw [e1 i hid];exact o1.new,o1.ty,?_,TC haok rfl⟩
    rw [e1 i hid]
    show bg w2 (β i) Runner #[.slice (some ⟨bZ v,aX,none⟩) n' c',a.leaf bZ,.slice (some ⟨bZ d2,0,none⟩) un uc]
    rw [e1 v Nm,e2,hag]
    exact QY
   ·exact ⟨by rw [e1 v Nm];exact o2.new,o2.ty,by rw [e1 v Nm,ah];exact Cs,bh (jh.all (aO B))⟩
   ·refine ⟨?_,by rw [hK];rfl,by rw [e2,ah];exact hu',bh (by have:=xk.all (eh B);exact this)⟩
    rw [e2]
    exact C.uK _ _ ab (by have:=C.fC _ a2;omega)
  ·simp only [List.mem_cons,List.not_mem_nil,or_false] at hx
   rcases hx with rfl | rfl | rfl
   ·exact .inl ⟨by rw [h1];simp,by simp,jA,e1 i hid⟩
   ·exact .inl ⟨by rw [h2];simp,by simp,kE,e1 v Nm⟩
   ·exact .inr ⟨.inl h3,hd2,.inl (by rw [e2];exact hbn)⟩
  ·simp only [List.mem_cons,List.not_mem_nil,or_false] at hx
   rcases hx with rfl | rfl | rfl
   ·rcases BX hj with h | h | h
    ·exact .inl (by simp [h])
    ·exact .inr ⟨iK j h,by simp⟩
    ·exact .inl (by have:j=d2:=by simpa [AV.cT] using h
                    simp [this])
   ·rw [ai] at hj;cases hj
   ·rw [ai] at hj;cases hj
theorem VO.Jp {B D i v d2 off n c y:Nat} {M mm:Rat} {a:AV} {pre spare:List Value} {vs:List (List Value)} {q:List Vq} {val:Value} {u CR Fu:Nat} {oQ:List (List Value)} {qz:List Value} {us0:List Uq} (kk:Nat) (hP:C.P=Tryz.prog) (hK:C.K=KU UU)
  (e:stepOf C full F H o=.call (.fn 73 [.box i 0,.val (.int .i64 (y:Int)),.val val])) (hf:qV C.P 73) (h1:H i=some (Runner,[.row v off n c,a,.row u 0 CR Fu])) (h2:H v=some (dG,(pre++(vs.flatten++spare)).map .val)) (h4:H u=some (fy,(oQ.flatten++qz).map .val)) (QZ:∀ w1,bH C.K w w1->C.Old w1->dT (qy B) 6 w1 CR 0 Fu [] oQ qz us0) (Fv:us0.length≤1000) (hiu:i≠u) (hvu:v≠u) (h3:H d2=none) (hd2:d2 < 2 * C.N) (hiv:i≠v) (haok:aG a=true) (TD:∀ β:Nat->Nat,aV (a.leaf β)=true)
  (iK:∀ j∈ax [a],H j≠none/\j≠u) (hl:lvl C.SU m o=2) (hO:∀ w1,bH C.K w w1->C.Old w1->dT (dz B) 5 w1 n off c pre vs spare q) (hv:∀ w1,bH C.K w w1->C.Old w1->bE w1 val mm) (hmI:Iz D mm) (CP:0≤mm) (hmM:mm≤M) (hq:∀ p∈q,Iz D p.2/\0≤p.2/\p.2≤M)
  (hKs:∀ x,Iz D x->0≤x->x≤M->et x kk) (hk:kk≤100000) (lB:q.length≤1000) (hB:B≤C.w0.heap.size)
  (k2:∀ w2 x aX n' c' ck iT aj un uc rJ oP ρ,bH C.K w w2->C.Old w2->aH w2 B x (uh q mm)->dT (dz B) 5 w2 n' aX c' ck iT aj (ny q mm)->dT (qy B) 6 w2 un 0 uc [] rJ oP (us0++qH y q mm)->
   aC C m full r K ((F.forget (some u) ρ).bB o.dst (.val x)) ((((H.forget (some u) ρ).put i (Runner,[.row v aX n' c',a,.row d2 0 un uc])).put v (dG,(ck++(iT.flatten++aj)).map .val)).put d2 (fy,(rJ.flatten++oP).map .val)) w2):aC C m full (o::r) K F H w:=by
 show one C m full o (aC C m full r K) F H w
 unfold one
 rw [e]
 intro w1 β a1 a2 a3
 have jA:Reach H (fu.fn 73 [.box i 0,.val (.int .i64 (y:Int)),.val val]).ids i:=.base (by simp [fu.ids,gJ,AV.ids])
 have kE:Reach H (fu.fn 73 [.box i 0,.val (.int .i64 (y:Int)),.val val]).ids v:=.step jA h1 (by simp [ax,AV.cT])
 have o1:=a3.own i jA _ _ h1
 have o2:=a3.own v kE _ _ h2
 have iB:bg w1 (β v) dG (pre++(vs.flatten++spare)).toArray:=by have:=o2.cls;rw [ah] at this;exact this
 have hBw:B≤w1.heap.size:=Nat.le_trans hB (C.fC _ a2)
 have hne:∀ j,H j≠none->j≠d2:=fun j hj e=>hj (e▸h3)
 have hid:i≠d2:=hne i (by rw [h1];simp)
 have Nm:v≠d2:=hne v (by rw [h2];simp)
 have hr4:Reach H (fu.fn 73 [.box i 0,.val (.int .i64 (y:Int)),.val val]).ids u:=.step jA h1 (by simp [ax,AV.cT])
 have o4:=a3.own u hr4 _ _ h4
 have uB:bg w1 (β u) fy (oQ.flatten++qz).toArray:=by have:=o4.cls;rw [ah] at this;exact this
 have hud:u≠d2:=hne u (by rw [h4];simp)
 refine ⟨hf,Calls.mono (show Calls C.P _ #[.pointer (some ⟨β i,0,none⟩),.int .i64 (y:Int),val] w1 _ from hP▸TB B (β i) (β v) off n c y D kk M mm pre vs spare q (a.leaf β) val (β u) CR Fu oQ qz us0 w1 o1.cls uB (QZ w1 a1 a2) Fv iB (hO w1 a1 a2) (TD β) (hv w1 a1 a2) hmI CP hmM hq hKs hk lB hBw) ?_⟩
 rintro e w2 ⟨x,rfl,hx,hb,⟨tl,cl,l1,l2,l3⟩,aX,n',c',ck,iT,aj,uv,QY,Cs,jh,b',un,uc,rJ,oP,hbn,rfl,hu',xk⟩
 ·let bZ:Nat->Nat:=fun j=>if j=d2 then b' else β j
  have e2:bZ d2=b':=if_pos rfl
  have e1:∀ j,j≠d2->bZ j=β j:=fun j hj=>if_neg hj
  have hag:a.leaf bZ=a.leaf β:=AV.pC fun j hj=>e1 j (hne j ((iK j (aZ.2 ⟨a,by simp,hj⟩)).1))
  refine ⟨bZ,.val x,some u,[(i,(Runner,[.row v aX n' c',a,.row d2 0 un uc])),(v,(dG,(ck++(iT.flatten++aj)).map .val)),(d2,(fy,(rJ.flatten++oP).map .val))],rfl,fun i hi=>(by cases hi),.inl ab,.inl ab,?_,fun p1 _ p3 ρ _=>k2 w2 x aX n' c' ck iT aj un uc rJ oP ρ p1 p3 (hx.mono hBw) jh xk⟩
  refine Fw hb (fun b Cs=> ?_) (fun j hj=>e1 j (fun h=>hj (by simp [h]))) (fun j hj=>by cases hj;exact ⟨hr4,by rw [h4];simp⟩) (fun j hj=>by cases hj;exact ⟨tl,cl,l1,by rw [hK];exact l2,l3⟩) (fun x hx=> ?_) (fun x hx=> ?_) (by simp [hiv,hid,Nm]) (by show [Runner,dG,fy].Nodup;decide) (fun x hx j hj=> ?_)
  ·simp only [List.mem_cons,List.not_mem_nil,or_false] at Cs
   rcases Cs with rfl | rfl | rfl
   ·exact .inl ⟨_,List.mem_cons_self,e1 i hid⟩
   ·exact .inl ⟨_,List.mem_cons_of_mem _ List.mem_cons_self,e1 v Nm⟩
   ·exact .inr ⟨u,rfl,rfl⟩
  ·simp only [List.mem_cons,List.not_mem_nil,or_false] at hx
   rcases hx with rfl | rfl | rfl
   ·refine ⟨by rw [e1 i hid];exact o1.new,o1.ty,?_,TC haok rfl⟩
    rw [e1 i hid]
    show bg w2 (β i) Runner #[.slice (some ⟨bZ v,aX,none⟩) n' c',a.leaf bZ,.slice (some ⟨bZ d2,0,none⟩) un uc]
    rw [e1 v Nm,e2,hag]
    exact QY
   ·exact ⟨by rw [e1 v Nm];exact o2.new,o2.ty,by rw [e1 v Nm,ah];exact Cs,bh (jh.all (aO B))⟩
   ·refine ⟨?_,by rw [hK];rfl,by rw [e2,ah];exact hu',bh (by have:=xk.all (eh B);exact this)⟩
    rw [e2]
    rcases hbn with h | h
    ·exact C.uK _ _ ab (by have:=C.fC _ a2;omega)
    ·rw [h];exact C.Hn u d2 _ o4.new ab
  ·simp only [List.mem_cons,List.not_mem_nil,or_false] at hx
   rcases hx with rfl | rfl | rfl
   ·exact .inl ⟨by rw [h1];simp,by simpa using fun h=>hiu h.symm,jA,e1 i hid⟩
   ·exact .inl ⟨by rw [h2];simp,by simpa using fun h=>hvu h.symm,kE,e1 v Nm⟩
   ·exact .inr ⟨.inl h3,hd2,hbn.imp (fun h=>by rw [e2];exact h) (fun h=>⟨u,rfl,by rw [e2];exact h⟩)⟩
  ·simp only [List.mem_cons,List.not_mem_nil,or_false] at hx
   rcases hx with rfl | rfl | rfl
   ·rcases BX hj with h | h | h
    ·exact .inl (by simp [h])
    ·exact .inr ⟨(iK j h).1,by simpa using fun h2=>(iK j h).2 h2.symm⟩
    ·exact .inl (by have:j=d2:=by simpa [AV.cT] using h
                    simp [this])
   ·rw [ai] at hj;cases hj
   ·rw [ai] at hj;cases hj
end
end
set_option maxRecDepth 4000
section
open Go.RowKit
attribute [local irreducible] aC VS
theorem xm {D:Nat}:∀ {q:List Vq} {m:Rat},(∀ p∈q,Iz D p.2/\0≤p.2)->Iz D m->0≤m->Iz D (uh q m)/\0≤uh q m/\uh q m≤m
 | [],m,_,_,hm=>⟨Iz.zero,Rat.le_refl,hm⟩
 | p::q,m,h,hI,hm=>by
   obtain ⟨p1,p2⟩:=h p cw
   have hq:∀ x∈q,Iz D x.2/\0≤x.2:=fun x hx=>h x (by simp [hx])
   have xO:=ct p.2 m
   have nM:0≤ae p.2 m:=by rcases xO with ⟨e,_⟩ | ⟨e,_⟩ <;> rw [e] <;> assumption
   have nC:Iz D (ae p.2 m):=by rcases xO with ⟨e,_⟩ | ⟨e,_⟩ <;> rw [e] <;> assumption
   have zW:=cJ p.2 m
   by_cases h0:0 < m
   ·by_cases hz:p.2 - ae p.2 m=0
    ·obtain ⟨_,_,e3⟩:=gW (y:=0) (p:=p) (q:=q) h0 hz
     obtain ⟨i1,i2,i3⟩:=xm (m:=m - ae p.2 m) hq (hI.sub nC) dp
     rw [e3]
     exact ⟨nC.add i1,by grind,by grind⟩
    ·obtain ⟨_,_,_,e3⟩:=gV (y:=0) (p:=p) (q:=q) h0 hz
     rw [e3]
     exact ⟨nC,nM,zW⟩
   ·rw [iP _ h0]
    exact ⟨Iz.zero,Rat.le_refl,hm⟩
theorem TE {D:Nat} {M:Rat}:∀ {q:List Vq} {m:Rat},(∀ p∈q,Iz D p.2/\0≤p.2/\p.2≤M)->Iz D m->0≤m->∀ p∈ny q m,Iz D p.2/\0≤p.2/\p.2≤M/\∃ p'∈q,p'.1=p.1
 | [],m,_,_,_,p,hp=>by cases hp
 | x::q,m,h,hI,hm,p,hp=>by
   obtain ⟨p1,p2,p3⟩:=h x cw
   have hq:∀ x∈q,Iz D x.2/\0≤x.2/\x.2≤M:=fun x hx=>h x (by simp [hx])
   have xO:=ct x.2 m
   have nM:0≤ae x.2 m:=by rcases xO with ⟨e,_⟩ | ⟨e,_⟩ <;> rw [e] <;> assumption
   have nC:Iz D (ae x.2 m):=by rcases xO with ⟨e,_⟩ | ⟨e,_⟩ <;> rw [e] <;> assumption
   have zW:=cJ x.2 m
   have Bm:=dv x.2 m
   by_cases h0:0 < m
   ·by_cases hz:x.2 - ae x.2 m=0
    ·obtain ⟨_,e2,_⟩:=gW (y:=0) (p:=x) (q:=q) h0 hz
     rw [e2] at hp
     obtain ⟨i1,i2,i3,p',i4,i5⟩:=TE (m:=m - ae x.2 m) hq (hI.sub nC) dp p hp
     exact ⟨i1,i2,i3,p',by simp [i4],i5⟩
    ·obtain ⟨_,_,e2,_⟩:=gV (y:=0) (p:=x) (q:=q) h0 hz
     rw [e2] at hp
     rcases List.mem_cons.1 hp with rfl | hp
     ·exact ⟨p1.sub nC,by show 0≤x.2 - ae x.2 m;grind,by show x.2 - ae x.2 m≤M;grind,x,by simp,rfl⟩
     ·obtain ⟨a,b,c⟩:=hq p hp
      exact ⟨a,b,c,p,by simp [hp],rfl⟩
   ·rw [gU _ h0] at hp
    obtain ⟨a,b,c⟩:=h p hp
    exact ⟨a,b,c,p,hp,rfl⟩
theorem BZ (y:Nat):∀ (q:List Vq) (m:Rat),(qH y q m).length + (ny q m).length≤q.length + 1/\(ny q m).length≤q.length
 | [],_=>⟨Nat.zero_le _,Nat.le_refl _⟩
 | p::q,m=>by
   by_cases h0:0 < m
   ·by_cases hz:p.2 - ae p.2 m=0
    ·obtain ⟨e1,e2,_⟩:=gW (y:=y) (p:=p) (q:=q) h0 hz
     have:=BZ y q (m - ae p.2 m)
     rw [e1,e2,List.length_cons,List.length_cons];omega
    ·obtain ⟨_,e1,e2,_⟩:=gV (y:=y) (p:=p) (q:=q) h0 hz
     rw [e1,e2];simp;omega
   ·rw [iM y _ h0,gU _ h0];simp
structure Jq (D:Nat) (M:Rat) (s:Ke):Prop where
 el:∀ p∈s.q,Iz D p.2/\0≤p.2/\p.2≤M + M/\p.1 < s.rows.length
 len:s.uses.length + s.q.length≤2 * s.rows.length
theorem exp_len (keep n:Nat) (s:Ke):(vA keep n s).rows.length=s.rows.length/\(vA keep n s).uses=s.uses/\(vA keep n s).q.length≤s.q.length/\∀ p∈(vA keep n s).q,p∈s.q:=by
 unfold vA
 split
 ·rename_i p q hq
  split
  ·exact ⟨List.length_modify ..,rfl,by rw [hq];simp,fun x hx=>by rw [hq];exact List.mem_cons_of_mem _ hx⟩
  ·exact ⟨rfl,rfl,Nat.le_refl _,fun x hx=>hx⟩
 ·exact ⟨rfl,rfl,Nat.le_refl _,fun x hx=>hx⟩
theorem nD {D:Nat} {M L x:Rat} (hL:Iz D L) (hL0:0≤L) (tX:L≤M) (hx:Iz D x) (iA: -M≤x) (Gx:x≤M):
  Iz D (ae x L)/\-M≤ae x L/\ae x L≤M/\Iz D (x - ae x L)/\0≤x - ae x L/\x - ae x L≤M + M/\Iz D (L - ae x L)/\0≤L - ae x L/\L - ae x L≤M + M:=by
 rcases ct x L with ⟨e,h⟩ | ⟨e,h⟩ <;> rw [e]
 ·exact ⟨hx,iA,Gx,hx.sub hx,by grind,by grind,hL.sub hx,by grind,by grind⟩
 ·exact ⟨hL,by grind,tX,hx.sub hL,by grind,by grind,hL.sub hL,by grind,by grind⟩
theorem year_ok {D:Nat} {M S F:Rat} {keep:Nat} {s:Ke} {e:Rat×Rat} (h:Jq D M s) (hL:Iz D (ay S F e.2)) (tX:ay S F e.2≤M) (hx:Iz D e.1) (iA: -M≤e.1) (Gx:e.1≤M):Jq D M (eC S F keep s.rows.length s e)/\(eC S F keep s.rows.length s e).rows.length=s.rows.length + 1:=by
 obtain ⟨g1,g2,g3,g4,g5,g6,g7,g8,g9⟩:=nD hL (lQ S F e.2) tX hx iA Gx
 unfold eC
 obtain ⟨e1,e2,e3,e4⟩:=exp_len keep s.rows.length ⟨mY s.rows.length (eG S F s.q e).aE (ny s.q (ay S F e.2 - ae e.1 (ay S F e.2))),s.rows++[eG S F s.q e],s.uses++qH s.rows.length s.q (ay S F e.2 - ae e.1 (ay S F e.2))⟩
 obtain ⟨u1,u2⟩:=BZ s.rows.length s.q (ay S F e.2 - ae e.1 (ay S F e.2))
 have hl:(s.rows++[eG S F s.q e]).length=s.rows.length + 1:=by rw [List.length_append];rfl
 have hput:(mY s.rows.length (eG S F s.q e).aE (ny s.q (ay S F e.2 - ae e.1 (ay S F e.2)))).length≤(ny s.q (ay S F e.2 - ae e.1 (ay S F e.2))).length + 1:=by
  unfold mY;split
  ·rw [List.length_append];exact Nat.le_refl _
  ·omega
 refine ⟨⟨fun p hp=> ?_,?_⟩,by rw [e1];exact hl⟩
 ·rw [e1,hl]
  have hp':=e4 p hp
  have key:p∈ny s.q (ay S F e.2 - ae e.1 (ay S F e.2))\/p=(s.rows.length,e.1 - ae e.1 (ay S F e.2)):=by
   unfold mY at hp'
   dsimp only at hp'
   split at hp'
   ·rcases List.mem_append.1 hp' with h | h
    ·exact .inl h
    ·exact .inr (List.mem_singleton.1 h)
   ·exact .inl hp'
  rcases key with hk | rfl
  ·obtain ⟨a,b,c,p',d1,d2⟩:=TE (fun p hp=>⟨(h.el p hp).1,(h.el p hp).2.1,(h.el p hp).2.2.1⟩) g7 g8 p hk
   have:=(h.el p' d1).2.2.2
   exact ⟨a,b,c,by omega⟩
  ·exact ⟨g4,g5,g6,Nat.lt_succ_self _⟩
 ·rw [e1,e2,hl]
  dsimp only at e3 ⊢
  rw [List.length_append]
  have:=h.len
  omega
def eI (B:Nat) (w:World) (cs:List Value) (r:aM):Prop:=
 ∃ a b c d e f g,cs=a++(b++(c++(d++(e++(f++g)))))/\R4 B w a r.aW/\R4 B w b r.allowed/\R4 B w c r.aE/\R4 B w d r.used/\R4 B w e r.au/\R4 B w f r.ao/\R4 B w g r.closing
theorem R4.len {B:Nat} {w:World} {cs:List Value} {q:Rat} (h:R4 B w cs q):cs.length=4:=by obtain ⟨s,p,n,c,t,r,m,d,rfl,_⟩:=h;rfl
theorem R4.ok {B:Nat} {w:World} {cs:List Value} {q:Rat} (h:R4 B w cs q):cs.all aV=true:=by obtain ⟨s,p,n,c,t,r,m,d,rfl,_⟩:=h;rfl
theorem aA (B:Nat):gL (eI B) 28 where
 kp:=fun h k=>by
  obtain ⟨a,b,c,d,e,f,g,h0,h1,h2,h3,h4,h5,h6,h7⟩:=h
  exact ⟨a,b,c,d,e,f,g,h0,h1.kp k,h2.kp k,h3.kp k,h4.kp k,h5.kp k,h6.kp k,h7.kp k⟩
 len:=fun h=>by
  obtain ⟨a,b,c,d,e,f,g,rfl,h1,h2,h3,h4,h5,h6,h7⟩:=h
  simp [h1.len,h2.len,h3.len,h4.len,h5.len,h6.len,h7.len]
 ok:=fun h=>by
  obtain ⟨a,b,c,d,e,f,g,rfl,h1,h2,h3,h4,h5,h6,h7⟩:=h
  simp only [List.all_append,h1.ok,h2.ok,h3.ok,h4.ok,h5.ok,h6.ok,h7.ok,Bool.and_self]
structure qA {α:Type} (E:World->List Value->α->Prop) (sz:Nat) (w:World) (n c:Nat) (vs:List (List Value)) (sp:List AV) (es:List α):Prop where
 len:n=es.length
 el:bL E w es vs
 so:sp.all aG=true
 sl:ax sp=[]
 le:n≤c
 cm:c≤9223372036854775807
 fl:(vs.flatten.map AV.val++sp).length=c * sz
theorem qA.kp {α:Type} {E:World->List Value->α->Prop} {sz n c:Nat} (hE:gL E sz) {w w':World} {vs:List (List Value)} {sp:List AV} {es:List α} (h:qA E sz w n c vs sp es) (k:Kp UU w w'):qA E sz w' n c vs sp es:=⟨h.len,h.el.kp hE k,h.so,h.sl,h.le,h.cm,h.fl⟩
theorem qA.o {α:Type} {E:World->List Value->α->Prop} {sz n c:Nat} {w:World} {vs:List (List Value)} {sp:List AV} {es:List α} (h:qA E sz w n c vs sp es) (β:Nat->Nat):dT E sz w n 0 c [] vs (sp.map (AV.leaf β)) es:=
 ⟨h.len,.inl rfl,rfl,h.el,du h.so,h.le,h.cm,by have:=h.fl;rw [List.length_append,List.length_map] at this;rw [List.length_append,List.length_map];exact this⟩
theorem dT.a {α:Type} {E:World->List Value->α->Prop} {sz n c:Nat} {w:World} {vs:List (List Value)} {sp:List Value} {es:List α} (h:dT E sz w n 0 c [] vs sp es):qA E sz w n c vs (sp.map .val) es:=
 ⟨h.len,h.el,bh h.so,ai _,h.le,h.cm,by rw [<-List.map_append,List.length_map];exact h.fl⟩
theorem dB {vs:List (List Value)} {sz:Nat} (h:∀ x∈vs,x.length=sz):vs.flatten.length=vs.length * sz:=by
 induction vs with
 | nil=>simp
 | cons x vs ih=>rw [List.flatten_cons,List.length_append,h x cw,ih (fun y hy=>h y (by simp [hy])),List.length_cons,Nat.add_mul];omega
theorem Ei {vs:List (List Value)} {sz i o:Nat} {x new:List Value} {sp:List AV} (h:∀ x∈vs,x.length=sz) (hi:vs[i]? =some x) (ho:o + new.length≤sz):
  (vs.flatten.map AV.val++sp).take (i * sz + o)++(new.map AV.val++(vs.flatten.map AV.val++sp).drop (i * sz + o + new.length))=(vs.set i (x.take o++(new++x.drop (o + new.length)))).flatten.map AV.val++sp:=by
 obtain ⟨hlt,hx⟩:=List.getElem?_eq_some_iff.1 hi
 have CO:vs=vs.take i++x::vs.drop (i + 1):=by rw [<-hx,<-List.drop_eq_getElem_cons hlt,List.take_append_drop]
 have fA:x.length=sz:=h x (List.mem_of_getElem? hi)
 have hal:(vs.take i).flatten.length=i * sz:=by
  rw [dB (fun y hy=>h y (List.mem_of_mem_take hy)),List.length_take,Nat.min_eq_left ab]
 have hset:vs.set i (x.take o++(new++x.drop (o + new.length)))=vs.take i++(x.take o++(new++x.drop (o + new.length)))::vs.drop (i + 1):=by rw [List.set_eq_take_append_cons_drop,if_pos hlt]
 rw [hset]
 conv=>lhs;rw [CO]
 generalize (vs.take i)=A at *
 generalize (vs.drop (i + 1))=C at *
 have e1:((A++x::C).flatten.map AV.val++sp)=(A.flatten.map AV.val)++((x.map AV.val)++(C.flatten.map AV.val++sp)):=by simp
 have hA:(A.flatten.map AV.val).length=i * sz:=by rw [List.length_map];exact hal
 rw [e1,<-hA,Nat.add_assoc,List.take_length_add_append,List.drop_length_add_append,List.take_append_of_le_length (by rw [List.length_map];omega),List.drop_append_of_le_length (by rw [List.length_map];omega)]
 simp
theorem bL.set {α:Type} {E:World->List Value->α->Prop} {w:World}:∀ {es:List α} {vs:List (List Value)} {i:Nat} {a:α} {cs:List Value},bL E w es vs->E w cs a->bL E w (es.set i a) (vs.set i cs)
 | _,_,i,_,_,.nil,_=>.nil
 | _,_,0,_,_,.cons _ h2,h=>.cons h h2
 | _,_,i + 1,_,_,.cons h1 h2,h=>.cons h1 (bL.set h2 h)
theorem ew {l:List aM} {i:Nat} {r:aM} {f:aM->aM} (h:l[i]? =some r):l.modify i f=l.set i (f r):=by
 apply List.ext_getElem?
 intro j
 by_cases e:i=j
 ·subst e
  rw [BP rfl,List.getElem?_set,if_pos rfl,if_pos (List.getElem?_eq_some_iff.1 h).1,h];rfl
 ·rw [vB e,List.getElem?_set,if_neg e]
def SlE {α:Type} (E:World->List Value->α->Prop) (sz:Nat) (t:TypeId) (w:World) (b:Nat) (v:Value) (es:List α):Prop:=
 ∃ off n c pre vs spare,v=.slice (some ⟨b,off,none⟩) n c/\bg w b t (pre++(vs.flatten++spare)).toArray/\dT E sz w n off c pre vs spare es
def SlZ {α:Type} (E:World->List Value->α->Prop) (sz:Nat) (t:TypeId) (w:World) (b:Nat) (v:Value) (es:List α):Prop:=
 ∃ n c vs spare,v=.slice (some ⟨b,0,none⟩) n c/\bg w b t (vs.flatten++spare).toArray/\dT E sz w n 0 c [] vs spare es
def qj (B:Nat) (w:World) (g:Nat) (ad:List Nat) (s:Ke):Prop:=(∀ b∈ad,B≤b)/\∃ v r u,bg w g Runner #[v,r,u]/\
 ((ad=[g]/\v=.slice none 0 0/\r=.slice none 0 0/\u=.slice none 0 0/\s.q=[]/\s.rows=[]/\s.uses=[])\/
  (∃ rb,ad=[g,rb]/\v=.slice none 0 0/\u=.slice none 0 0/\s.q=[]/\s.uses=[]/\SlZ (eI B) 28 eT w rb r s.rows)\/
  (∃ vb rb,ad=[g,vb,rb]/\u=.slice none 0 0/\s.uses=[]/\SlE (dz B) 5 dG w vb v s.q/\SlZ (eI B) 28 eT w rb r s.rows)\/
  (∃ vb rb ub,ad=[g,vb,rb,ub]/\SlE (dz B) 5 dG w vb v s.q/\SlZ (eI B) 28 eT w rb r s.rows/\SlZ (qy B) 6 fy w ub u s.uses))
def Lz (w:World) (v:Value) (S F:Rat) (keep:Int) (ks:Nat):Prop:=∃ s p n c t y m d s' p' n' c' t' y' m' d',v=.agg #[.bool s,.slice p n c,.bool t,.slice y m d,.bool s',.slice p' n' c',.bool t',.slice y' m' d',.int .i64 keep]/\
 bA w (.agg #[.bool s,.slice p n c,.bool t,.slice y m d]) S ks/\bA w (.agg #[.bool s',.slice p' n' c',.bool t',.slice y' m' d']) F ks
def YrV (w:World) (v:Value) (e:Rat×Rat) (ks:Nat):Prop:=∃ s p n c t y m d s' p' n' c' t' y' m' d',v=.agg #[.bool s,.slice p n c,.bool t,.slice y m d,.bool s',.slice p' n' c',.bool t',.slice y' m' d']/\
 bA w (.agg #[.bool s,.slice p n c,.bool t,.slice y m d]) e.1 ks/\bA w (.agg #[.bool s',.slice p' n' c',.bool t',.slice y' m' d']) e.2 ks
theorem bA.up {w:World} {v:Value} {q:Rat} {j k:Nat} (h:bA w v q j) (hk:j≤k):bA w v q k:=by
 obtain ⟨s,xs,t,ys,h1,h2,h3,h4⟩:=h
 exact ⟨s,xs,t,ys,h1,h2,Nat.le_trans h3 hk,Nat.le_trans h4 hk⟩
set_option maxRecDepth 4000 in
theorem pX (v u:Value) (S F:Rat) (keep:Int) (e:Rat×Rat) (ks:Nat) (w:World) (hv:Lz w v S F keep ks) (hu:YrV w u e ks) (DI:1≤ks) (hk:ks≤100000):
  Calls Tryz.prog 70 #[v,u] w fun o w'=>∃ x,o=.returned x/\aH w' w.heap.size x (ay S F e.2)/\aL w w':=by
 obtain ⟨sS,pS,nS,cS,tS,yS,mS,dS,sF,pF,nF,cF,tF,yF,mF,dF,rfl,hS,hF⟩:=hv
 obtain ⟨sN,pN,nN,cN,tN,yN,mN,dN,sE,pE,nE,cE,tE,yE,mE,dE,rfl,hN,hE⟩:=hu
 refine ag (C:=bP Tryz.prog w _) (args:=[_,_]) Tryz.func70 rfl Tryz.ntmps70 (bu rfl) ?_
 refine aa ?_
 refine VO.call rfl rfl (fk Tryz.func105) (fun bD cQ bG=>(Lk _ _ S e.2 ks ks bD (hS.k) (hE.k) ab ab).mono ?_)
 rintro e w1 ⟨r1,rfl,q1,aI⟩
 obtain ⟨s1,p1,n1,c1,t1,y1,m1,d1,rfl⟩:=q1.form
 refine ⟨_,rfl,aI,fun dt _ bb1=>wV rfl ?_⟩
 refine aa ?_
 have z1:=(hS.sz DI).mul (hE.sz DI)
 refine VO.call rfl rfl (fk Tryz.func44) (fun cG dQ cV=>(bX 0 cG ab ab).mono ?_)
 rintro e w2 ⟨r2,rfl,q2,ba⟩
 obtain ⟨s2,p2,n2,c2,t2,y2,m2,d2,rfl⟩:=q2.form
 refine ⟨_,rfl,ba,fun dR _ bb2=>wV rfl ?_⟩
 refine aa ?_
 refine VO.ee rfl (fk Tryz.func104) (fun eX β fF fM ho=>((Ll _ _ F [S * e.2,0] (ks + ks) eX ((hF.k).up ab) (cZ (ho.own 13 (.base (List.mem_singleton.2 rfl)) _ _ rfl) [] (vs:=[[.bool s1,.slice p1 n1 c1,.bool t1,.slice y1 m1 d1],[.bool s2,.slice p2 n2 c2,.bool t2,.slice y2 m2 d2]]) (by rfl) rfl (bt.cons (q1.ki z1) (bt.cons (q2.ki (et.zero.mono (show 1≤ks + ks by omega))) bt.nil)) (bu rfl) bW) ab (bu rfl)).mono (fun o w2 h=>And.intro h fM.size)).mono ?_)
 rintro o w3 ⟨⟨r3,rfl,q3,z3,cC⟩,CS⟩
 obtain ⟨s3,p3,n3,c3,t3,y3,m3,d3,rfl⟩:=q3.form
 refine ⟨_,rfl,cC,fun gZ _ bb3=>wV rfl ?_⟩
 refine aa ?_
 refine aR ?_;intro wz kz bz
 exact ⟨_,rfl,(q3.mono CS).k,bz⟩
set_option maxRecDepth 4000
theorem gr {B N i g:Nat} {ad:List Nat} {w:World} (hB:B≤w.heap.size) (had:∀ b∈ad,B≤b) (h:dm N ad w i g):B≤g:=by
 rcases gi h with h | h
 ·omega
 ·exact had g h
theorem mJ {vs:List (List Value)} {sz i o:Nat} {x new:List Value} {sp:List AV} (h:∀ x∈vs,x.length=sz) (hi:vs[i]? =some x) (ho:o + new.length≤sz):
  (vs.flatten.map AV.val++sp).take (0 + ((i:Nat):Int).toNat * sz + o)++(new.map AV.val++(vs.flatten.map AV.val++sp).drop (0 + ((i:Nat):Int).toNat * sz + o + new.length))=(vs.set i (x.take o++(new++x.drop (o + new.length)))).flatten.map AV.val++sp:=by
 rw [Int.toNat_natCast,Nat.zero_add]
 exact Ei h hi ho
theorem rL {B:Nat} {w:World} {cs new:List Value} {r:aM} {x:Rat} (h:eI B w cs r) (hx:R4 B w new x):eI B w (cs.take 20++(new++cs.drop (20 + new.length))) { r with ao:=x }:=by
 obtain ⟨a,b,c,d,e,f,g,rfl,h1,h2,h3,h4,h5,h6,h7⟩:=h
 refine ⟨a,b,c,d,e,new,g,?_,h1,h2,h3,h4,h5,hx,h7⟩
 have l1:=h1.len
 have l2:=h2.len
 have l3:=h3.len
 have l4:=h4.len
 have l5:=h5.len
 have l6:=h6.len
 rw [hx.len]
 have e1:a++(b++(c++(d++(e++(f++g)))))=(a++b++c++d++e)++(f++g):=by simp
 have e2:(a++b++c++d++e).length=20:=by simp [l1,l2,l3,l4,l5]
 have e3:a++(b++(c++(d++(e++(f++g)))))=(a++b++c++d++e++f)++g:=by simp
 have e4:(a++b++c++d++e++f).length=24:=by simp [l1,l2,l3,l4,l5,l6]
 have t1:(a++(b++(c++(d++(e++(f++g)))))).take 20=a++b++c++d++e:=by rw [e1,<-e2,List.take_left'];rfl
 have t2:(a++(b++(c++(d++(e++(f++g)))))).drop 24=g:=by rw [e3,<-e4,List.drop_left'];rfl
 rw [t1,t2]
 simp
theorem vG {cs new:List Value} (h:cs.length=28) (hn:new.length=4):(cs.take 20++(new++cs.drop (20 + new.length))).length=28:=by
 rw [List.length_append,List.length_append,List.length_take,List.length_drop,h,hn];rfl
theorem mK {vs:List (List Value)} {sz i:Nat} {x:List Value} (h:∀ y∈vs,y.length=sz) (hx:x.length=sz):∀ y∈vs.set i x,y.length=sz:=fun y hy=>by
 rcases List.mem_or_eq_of_mem_set hy with e | e
 ·exact h y e
 ·rw [e];exact hx
set_option maxRecDepth 4000 in
theorem iYear_A {B g keep D kk ks:Nat} {M S F:Rat} {e:Rat×Rat} {q:List Vq} {rows:List aM} {uses:List Uq} {v u:Value} {w:World} (hg:bg w g Runner #[.slice none 0 0,.slice none 0 0,.slice none 0 0])
  (yz:Lz w v S F keep ks) (Ra:YrV w u e ks) (vH:1≤ks) (CT:ks≤kk) (Eb:kk≤100000) (Ej:Iz D (ay S F e.2)) (tX:ay S F e.2≤M) (Rb:Iz D e.1) (iA: -M≤e.1) (Gx:e.1≤M) (hK:∀ x,Iz D x->-(M + M)≤x->x≤M + M->et x kk)
  (Af:Jq D M ⟨[],[],[]⟩) (ya:([]:List aM).length≤64) (yb:keep≤40) (hB:B≤w.heap.size) (eZ:∀ b∈[g],B≤b):
  Calls Tryz.prog 39 #[.pointer (some ⟨g,0,none⟩),v,.int .i64 (([]:List aM).length:Int),u] w fun o w'=>o=.returned (jc [])/\tw [g] w w'/\∃ TF,qj B w' g TF (eC S F keep ([]:List aM).length ⟨[],[],[]⟩ e):=by
 have hL0:=lQ S F e.2
 have hM0:0≤M:=by grind
 obtain ⟨g1,g2,g3,g4,g5,g6,g7,g8,g9⟩:=nD Ej hL0 tX Rb iA Gx
 have Ek:B≤g:=eZ g cw
 have hlen:=Af.len
 obtain ⟨sS,pS,nS,cS,tS,yS,mS,dS,sF,pF,nF,cF,tF,yF,mF,dF,rfl,hS,hF⟩:=yz
 obtain ⟨sN,pN,nN,cN,tN,yN,mN,dN,sE,pE,nE,cE,tE,yE,mE,dE,rfl,hN,hE⟩:=Ra
 have sH:jX (KU UU) 99 [g] [(Runner,[.val (.slice none 0 0),.val (.slice none 0 0),.val (.slice none 0 0)])] w:=by
  refine ⟨rfl,by simp,fun j g' c' hj hc=> ?_,fun c' hc=> ?_,fun c' hc k hk=> ?_⟩
  ·match j,hj,hc with
   | 0,hj,hc=>cases hj;cases hc;exact hg
   | j + 1,hj,_=>simp at hj
  ·simp only [List.mem_cons,List.not_mem_nil,or_false] at hc
   subst hc
   exact ⟨rfl,rfl⟩
  ·simp only [List.mem_cons,List.not_mem_nil,or_false] at hc
   subst hc
   cases hk
 refine fm Tryz.prog w _ (KU UU) (fun t=>Nat.beq t 22) table (fun _ _=>trivial) (ad:=[g]) (us:=[_,_,_]) Tryz.func39 rfl Tryz.ntmps39 (bu rfl) sH (bu rfl) ?_
 refine af ?_
 refine VO.call rfl rfl (fk Tryz.func70) (fun bD cQ bG=>((pX _ _ S F keep e ks bD ⟨_,_,_,_,_,_,_,_,_,_,_,_,_,_,_,_,rfl,hS.k,hF.k⟩ ⟨_,_,_,_,_,_,_,_,_,_,_,_,_,_,_,_,rfl,hN.k,hE.k⟩ vH ab).mono (fun o w2 h=>And.intro h bG.1.size)).mono ?_)
 rintro o w1 ⟨⟨r1,rfl,q1,aI⟩,LA⟩
 obtain ⟨s1,p1,n1,c1,t1,y1,m1,d1,rfl⟩:=q1.form
 refine ⟨_,rfl,aI,fun dt _ bb1=>wV rfl ?_⟩
 replace q1:=q1.mono (Nat.le_trans hB LA)
 refine af ?_
 refine VO.call rfl rfl (fk Tryz.func44) (fun cG dQ cV=>((bX 0 cG ab ab).mono (fun o w2 h=>And.intro h cV.1.size)).mono ?_)
 rintro o w2 ⟨⟨r2,rfl,q2,ba⟩,tU⟩
 obtain ⟨s2,p2,n2,c2,t2,y2,m2,d2,rfl⟩:=q2.form
 refine ⟨_,rfl,ba,fun dR _ bb2=>wV rfl ?_⟩
 replace q2:=q2.mono (Nat.le_trans hB tU)
 refine af ?_
 refine VO.call rfl rfl (fk Tryz.func44) (fun eX fF fM=>((bX 0 eX ab ab).mono (fun o w2 h=>And.intro h fM.1.size)).mono ?_)
 rintro o w3 ⟨⟨r3,rfl,q3,cC⟩,CS⟩
 obtain ⟨s3,p3,n3,c3,t3,y3,m3,d3,rfl⟩:=q3.form
 refine ⟨_,rfl,cC,fun gZ _ bb3=>wV rfl ?_⟩
 replace q3:=q3.mono (Nat.le_trans hB CS)
 refine af ?_
 refine VO.ee rfl (fk Tryz.func71) (fun jg β kZ kt ho=>((gT _ _ e.1 [ay S F e.2] kk jg ((hN.k).up ab) (cZ (ho.own 20 (.base (List.mem_singleton.2 rfl)) _ _ rfl) [] (vs:=[[.bool s1,.slice p1 n1 c1,.bool t1,.slice y1 m1 d1]]) (by rfl) rfl (bt.cons (q1.ki (hK _ Ej dp dp)) bt.nil) (bu rfl) bW) ab (bu rfl)).mono (fun o w2 h=>And.intro h kt.1.size)).mono ?_)
 rintro o w4 ⟨⟨r4,rfl,q4,z4,fq⟩,LB⟩
 rw [eM] at q4
 obtain ⟨s4,p4,n4,c4,t4,y4,m4,d4,rfl⟩:=q4.form
 refine ⟨_,rfl,fq,fun lz _ tH=>wV rfl ?_⟩
 replace q4:=q4.mono (Nat.le_trans hB LB)
 refine af ?_
 refine VO.call rfl rfl (fk Tryz.func72) (fun gE ju ia=>((dc _ _ e.1 (ae e.1 (ay S F e.2)) kk kk gE ((hN.k).up ab) (q4.ki (hK _ g1 dp dp)) ab ab).mono (fun o w2 h=>And.intro h ia.1.size)).mono ?_)
 rintro o w5 ⟨⟨r5,rfl,q5,eP⟩,tV⟩
 obtain ⟨s5,p5,n5,c5,t5,y5,m5,d5,rfl⟩:=q5.form
 refine ⟨_,rfl,eP,fun jV _ qu=>wV rfl ?_⟩
 replace q5:=q5.mono (Nat.le_trans hB tV)
 refine af ?_
 refine VO.call rfl rfl (fk Tryz.func72) (fun gF ld iC=>((dc _ _ (ay S F e.2) (ae e.1 (ay S F e.2)) kk kk gF (q1.ki (hK _ Ej dp dp)) (q4.ki (hK _ g1 dp dp)) ab ab).mono (fun o w2 h=>And.intro h iC.1.size)).mono ?_)
 rintro o w6 ⟨⟨r6,rfl,q6,fK⟩,LC⟩
 obtain ⟨s6,p6,n6,c6,t6,y6,m6,d6,rfl⟩:=q6.form
 refine ⟨_,rfl,fK,fun lG _ pO=>wV rfl ?_⟩
 replace q6:=q6.mono (Nat.le_trans hB LC)
 refine af ?_
 have oT:eC S F keep ([]:List aM).length ⟨[],[],[]⟩ e=vA keep ([]:List aM).length ⟨mY ([]:List aM).length (e.1 - ae e.1 (ay S F e.2)) (ny [] (ay S F e.2 - ae e.1 (ay S F e.2))),[]++[eG S F [] e],[]++qH ([]:List aM).length [] (ay S F e.2 - ae e.1 (ay S F e.2))⟩:=rfl
 refine VO.vF (B:=B) (mm:=ay S F e.2 - ae e.1 (ay S F e.2)) kk rfl rfl (fk Tryz.func73) rfl (fun wi LD Nn=>q6.kr) hB (fun w7 r7 k7 b7 q7=> ?_)
 obtain ⟨s7,p7,n7,c7,t7,y7,m7,d7,rfl⟩:=q7.form
 refine wV rfl ?_
 refine af ?_
 have Ca:([]:List Uq)++qH ([]:List aM).length [] (ay S F e.2 - ae e.1 (ay S F e.2))=[]:=rfl
 obtain ⟨u1,u2,u3⟩:=xm (q:=[]) (m:=ay S F e.2 - ae e.1 (ay S F e.2)) (fun p hp=>(by cases hp)) g7 g8
 refine VO.call rfl rfl (fk Tryz.func16) (fun sD Fc wj=>((fx _ _ (ae e.1 (ay S F e.2)) ((0:Rat)) kk kk sD (q4.ki (hK _ g1 dp dp)) (q7.ki (hK _ u1 dp dp)) ab ab).mono (fun o w2 h=>And.intro h wj.1.size)).mono ?_)
 rintro o w8 ⟨⟨r8,rfl,q8,qf⟩,CU⟩
 obtain ⟨s8,p8,n8,c8,t8,y8,m8,d8,rfl⟩:=q8.form
 refine ⟨_,rfl,qf,fun wk _ Kd=>wV rfl ?_⟩
 replace q8:=q8.mono (Nat.le_trans hB CU)
 refine af ?_
 have Ng:((0:Int):Rat)=0:=rfl
 have Fx:eI B w8 [.bool s1,.slice p1 n1 c1,.bool t1,.slice y1 m1 d1,.bool s4,.slice p4 n4 c4,.bool t4,.slice y4 m4 d4,.bool s5,.slice p5 n5 c5,.bool t5,.slice y5 m5 d5,.bool s7,.slice p7 n7 c7,.bool t7,.slice y7 m7 d7,.bool s8,.slice p8 n8 c8,.bool t8,.slice y8 m8 d8,.bool s2,.slice p2 n2 c2,.bool t2,.slice y2 m2 d2,.bool s3,.slice p3 n3 c3,.bool t3,.slice y3 m3 d3] (eG S F [] e):=⟨[.bool s1,.slice p1 n1 c1,.bool t1,.slice y1 m1 d1],[.bool s4,.slice p4 n4 c4,.bool t4,.slice y4 m4 d4],[.bool s5,.slice p5 n5 c5,.bool t5,.slice y5 m5 d5],[.bool s7,.slice p7 n7 c7,.bool t7,.slice y7 m7 d7],[.bool s8,.slice p8 n8 c8,.bool t8,.slice y8 m8 d8],[.bool s2,.slice p2 n2 c2,.bool t2,.slice y2 m2 d2],[.bool s3,.slice p3 n3 c3,.bool t3,.slice y3 m3 d3],rfl,⟨_,_,_,_,_,_,_,_,rfl,q1.k⟩,⟨_,_,_,_,_,_,_,_,rfl,q4.k⟩,⟨_,_,_,_,_,_,_,_,rfl,q5.k⟩,⟨_,_,_,_,_,_,_,_,rfl,q7.k⟩,⟨_,_,_,_,_,_,_,_,rfl,q8.k⟩,⟨_,_,_,_,_,_,_,_,rfl,q2.k⟩,⟨_,_,_,_,_,_,_,_,rfl,q3.k⟩⟩
 refine VO.app (bF _ _) (t:=33) (e:=eT) (sz:=28) (n:=0) (c:=0) (mm:=1) (known:=[]) (spare:=[]) (del:=none) (news:=([.bool s1,.slice p1 n1 c1,.bool t1,.slice y1 m1 d1,.bool s4,.slice p4 n4 c4,.bool t4,.slice y4 m4 d4,.bool s5,.slice p5 n5 c5,.bool t5,.slice y5 m5 d5,.bool s7,.slice p7 n7 c7,.bool t7,.slice y7 m7 d7,.bool s8,.slice p8 n8 c8,.bool t8,.slice y8 m8 d8,.bool s2,.slice p2 n2 c2,.bool t2,.slice y2 m2 d2,.bool s3,.slice p3 n3 c3,.bool t3,.slice y3 m3 d3]:List Value).map .val) (dst:=52) rfl rfl rfl rfl rfl rfl rfl rfl (bu rfl) rfl (.inl ⟨rfl,rfl,rfl,rfl,rfl,rfl,by omega⟩) (.inl rfl) rfl rfl (Nat.le_refl _) ab ⟨rfl,rfl,rfl⟩ ⟨rfl,rfl,rfl⟩ rfl ab
  (fun w1 β k1 b1 ho=>⟨_,_,rfl,.inr ⟨β 51,0,rfl,df (rest:=[]) (ho.own 51 (.base (List.mem_append_right _ (List.mem_singleton.2 rfl))) _ _ rfl) rfl⟩⟩)
  (fun qG iz oi ρ Nk Nl fJ jS iB ek Fy jP=>wV rfl ?_)
 (repeat (first | refine wN ?_ | refine wP rfl ?_ | refine DU rfl ?_ | refine wO rfl rfl ?_))
 obtain ⟨qJ,vI⟩:∃ qJ,qJ=0 + 1:=⟨_,rfl⟩
 obtain ⟨sX,vJ⟩:∃ sX,sX=([[.bool s1,.slice p1 n1 c1,.bool t1,.slice y1 m1 d1,.bool s4,.slice p4 n4 c4,.bool t4,.slice y4 m4 d4,.bool s5,.slice p5 n5 c5,.bool t5,.slice y5 m5 d5,.bool s7,.slice p7 n7 c7,.bool t7,.slice y7 m7 d7,.bool s8,.slice p8 n8 c8,.bool t8,.slice y8 m8 d8,.bool s2,.slice p2 n2 c2,.bool t2,.slice y2 m2 d2,.bool s3,.slice p3 n3 c3,.bool t3,.slice y3 m3 d3]]:List (List Value)):=⟨_,rfl⟩
 have gB:qA (eI B) 28 qG qJ iz sX oi ([]++[eG S F [] e]):=by rw [vI,vJ];exact ⟨rfl,.cons ((aA B).kp Fx aU) .nil,Fy,jP,jS,iB,by simpa using ek⟩
 refine VS.narrow [(0,.box 198 0),(2,.val (.int .i64 (([]:List aM).length:Int))),(5,.box 5 0),(8,.box 8 0)] [(198,(Runner,[.val (.slice none 0 0),.row 52 0 qJ iz,.val (.slice none 0 0)])),(52,(eT,sX.flatten.map AV.val++oi)),(5,(28,([.bool sS,.slice pS nS cS,.bool tS,.slice yS mS dS,.bool sF,.slice pF nF cF,.bool tF,.slice yF mF dF,.int .i64 (keep:Int)]:List Value).map AV.val)),(8,(eT,([.bool s1,.slice p1 n1 c1,.bool t1,.slice y1 m1 d1,.bool s4,.slice p4 n4 c4,.bool t4,.slice y4 m4 d4,.bool s5,.slice p5 n5 c5,.bool t5,.slice y5 m5 d5,.bool s7,.slice p7 n7 c7,.bool t7,.slice y7 m7 d7,.bool s8,.slice p8 n8 c8,.bool t8,.slice y8 m8 d8,.bool s2,.slice p2 n2 c2,.bool t2,.slice y2 m2 d2,.bool s3,.slice p3 n3 c3,.bool t3,.slice y3 m3 d3]:List Value).map AV.val))] ⟨rfl,rfl,rfl,rfl,trivial⟩ ⟨by rw [vI];rfl,by rw [vJ];rfl,rfl,rfl,trivial⟩ rfl ⟨.lit rfl,.append (.vals _) (.none jP),.vals _,.vals _,trivial⟩ ?_
 refine VS.draw (bF _ _) (mc _ _) [74] (by kernel_rfl) (VO.run 80 rfl ?_)
 refine VO.Jn (B:=B) (d2:=62) (d:=e.1 - ae e.1 (ay S F e.2)) kk rfl rfl rfl (fk Tryz.func74) rfl rfl (by show 62 < 2 * 99;omega) (fun j hj=> ?_) (bu rfl) (fun wi LD Nn=>q5.kr) (hK _ g4 dp dp) Eb hB (fun CV k19 b19 Ms=>wV rfl ?_) (fun CV qF LG Np k19 b19 Ms gM=>wV rfl ?_)
 ·have:j=52:=by simpa [ax,AV.cT] using hj
  subst this;intro h;cases h
 ·have zI:mY ([]:List aM).length (e.1 - ae e.1 (ay S F e.2)) (ny [] (ay S F e.2 - ae e.1 (ay S F e.2)))=[]:=if_neg Ms
  refine af ?_
  refine VO.dU (x:=.val (.slice none 0 0)) (p:=fun _=>none) (c:=0) rfl (fun β=>.inr ⟨none,rfl⟩) rfl (fk Tryz.func75) rfl (fun Kg TG TH=>wV rfl ?_)
  refine af ?_
  have sI:eC S F keep ([]:List aM).length ⟨[],[],[]⟩ e=⟨[],[]++[eG S F [] e],[]⟩:=by rw [oT,zI,Ca];rfl
  refine af ?_
  refine VS.mX (bF _ _) rfl (fun wz β kz oz en=> ?_)
  obtain ⟨o1,o2⟩:=fo (en.own 198 _ _ rfl) 0 g rfl rfl
  have oR:=(en.own 52 _ _ rfl).cls
  rw [List.map_append,ah] at oR
  have nR:=gr hB eZ (show dm 99 [g] w 52 (β 52) from (en.own 52 _ _ rfl).new)
  rw [sI]
  refine ⟨rfl,oz.1,[g,β 52],⟨fun b hb=> ?_,_,_,_,o2,?_⟩⟩
  ·simp only [List.mem_cons,List.not_mem_nil,or_false] at hb
   rcases hb with rfl | rfl
   ·exact Ek
   ·exact nR
  ·exact .inr (.inl ⟨β 52,rfl,rfl,rfl,rfl,rfl,⟨_,_,_,_,rfl,oR,(gB.kp (aA B) aU).o β⟩⟩)
 ·obtain ⟨q2,vK⟩:∃ q2:List Vq,q2=[(([]:List aM).length,e.1 - ae e.1 (ay S F e.2))]:=⟨_,rfl⟩
  rw [<-vK] at gM
  have zI:mY ([]:List aM).length (e.1 - ae e.1 (ay S F e.2)) (ny [] (ay S F e.2 - ae e.1 (ay S F e.2)))=q2:=by rw [vK];exact if_pos Ms
  obtain ⟨nz,TJ⟩:∃ nz,nz=1:=⟨_,rfl⟩
  obtain ⟨gH,Jr⟩:∃ gH,gH=0:=⟨_,rfl⟩
  obtain ⟨mZ,Js⟩:∃ mZ:List Value,mZ=[]:=⟨_,rfl⟩
  have gM:dT (dz B) 5 CV nz gH qF mZ LG Np q2:=by rw [TJ,Jr,Js];exact gM
  refine VO.nil ?_
  refine VS.narrow [(0,.box 198 0),(2,.val (.int .i64 (([]:List aM).length:Int))),(5,.box 5 0),(8,.box 8 0)] [(198,(Runner,[.row 62 gH nz qF,.row 52 0 qJ iz,.val (.slice none 0 0)])),(52,(eT,sX.flatten.map AV.val++oi)),(5,(28,([.bool sS,.slice pS nS cS,.bool tS,.slice yS mS dS,.bool sF,.slice pF nF cF,.bool tF,.slice yF mF dF,.int .i64 (keep:Int)]:List Value).map AV.val)),(8,(eT,([.bool s1,.slice p1 n1 c1,.bool t1,.slice y1 m1 d1,.bool s4,.slice p4 n4 c4,.bool t4,.slice y4 m4 d4,.bool s5,.slice p5 n5 c5,.bool t5,.slice y5 m5 d5,.bool s7,.slice p7 n7 c7,.bool t7,.slice y7 m7 d7,.bool s8,.slice p8 n8 c8,.bool t8,.slice y8 m8 d8,.bool s2,.slice p2 n2 c2,.bool t2,.slice y2 m2 d2,.bool s3,.slice p3 n3 c3,.bool t3,.slice y3 m3 d3]:List Value).map AV.val)),(62,(dG,(mZ++(LG.flatten++Np)).map AV.val))] ⟨rfl,rfl,rfl,rfl,trivial⟩ ⟨by rw [Jr,TJ];rfl,rfl,rfl,rfl,by rw [Js];rfl,trivial⟩ rfl ⟨.lit rfl,.append (.vals _) (.none jP),.vals _,.vals _,.vals _,trivial⟩ ?_
  refine af ?_
  by_cases og:nz=0
  ·refine VO.dU (x:=.row 62 gH nz qF) (p:=fun _=>none) (c:=qF) rfl (fun β=>.inr ⟨_,congrArg (fun n=>Value.slice (some ⟨β 62,gH,none⟩) n qF) og⟩) rfl (fk Tryz.func75) rfl (fun Kg TG TH=>wV rfl ?_)
   refine af ?_
   have Fz:q2=[]:=List.eq_nil_of_length_eq_zero (by rw [<-gM.len];exact og)
   have sI:eC S F keep ([]:List aM).length ⟨[],[],[]⟩ e=⟨q2,[]++[eG S F [] e],[]⟩:=by rw [oT,zI,Ca,Fz];rfl
   refine af ?_
   refine VS.mX (bF _ _) rfl (fun wz β kz oz en=> ?_)
   obtain ⟨o1,o2⟩:=fo (en.own 198 _ _ rfl) 0 g rfl rfl
   have oR:=(en.own 52 _ _ rfl).cls
   rw [List.map_append,ah] at oR
   have nR:=gr hB eZ (show dm 99 [g] w 52 (β 52) from (en.own 52 _ _ rfl).new)
   have oV:=(en.own 62 _ _ rfl).cls
   rw [ah] at oV
   have nV:=gr hB eZ (show dm 99 [g] w 62 (β 62) from (en.own 62 _ _ rfl).new)
   rw [sI]
   refine ⟨rfl,oz.1,[g,β 62,β 52],⟨fun b hb=> ?_,_,_,_,o2,?_⟩⟩
   ·simp only [List.mem_cons,List.not_mem_nil,or_false] at hb
    rcases hb with rfl | rfl | rfl
    ·exact Ek
    ·exact nV
    ·exact nR
   ·exact .inr (.inr (.inl ⟨β 62,β 52,rfl,rfl,rfl,⟨_,_,_,_,_,_,rfl,oV,gM.kp (aO B) aU⟩,⟨_,_,_,_,rfl,oR,(gB.kp (aA B) aU).o β⟩⟩))
  obtain ⟨pp,qt,Gv⟩:∃ pp qt,q2=pp::qt:=by
   cases q2 with
   | nil=>exact absurd gM.len og
   | cons pp qt=>exact ⟨pp,qt,rfl⟩
  subst Gv
  obtain ⟨FA,Ag,rfl,hE4,vL⟩:∃ FA Ag,LG=FA::Ag/\dz B CV FA pp/\bL (dz B) CV qt Ag:=by
   have:=gM.el
   cases this with
   | cons h1 h2=>exact ⟨_,_,rfl,h1,h2⟩
  obtain ⟨s9,p9,n9,c9,t9,y9,m9,d9,rfl,Qc⟩:=hE4
  have FD:=gM.le
  have FE:=gM.len
  have FF:=gM.cm
  have lR:mZ.length=gH:=gM.pl.resolve_right ab
  refine VO.dA rfl rfl (fk Tryz.func75) rfl og (by intro h;cases h) (fun Kg TG TH=>wV rfl ?_)
  refine af ?_
  refine VO.cW rfl (([.int .i64 (pp.1:Int)]:List Value).map .val) rfl (bC lR 0 _ ⟨_,rfl⟩) (wV rfl ?_)
  refine af ?_
  have Nq:IntKind.i64.wrap ((([]:List aM).length:Int) - (keep:Int))=(([]:List aM).length:Int) - (keep:Int):=IntWalk.i64_in _ ab
  by_cases hx:pp.1 + keep=([]:List aM).length
  ·refine VS.aP rfl (by rw [Nq,beq_iff_eq];omega) ?_
   refine af ?_
   refine VO.cW rfl (([.int .i64 (pp.1:Int)]:List Value).map .val) rfl (bC lR 0 _ ⟨_,rfl⟩) (wV rfl ?_)
   refine af ?_
   refine VO.cW rfl (([.bool s9,.slice p9 n9 c9,.bool t9,.slice y9 m9 d9]:List Value).map .val) rfl (bC lR 1 _ ⟨[],rfl⟩) (wV rfl ?_)
   refine af ?_
   have gu:=gB.len
   have DJ:pp.1 < qJ:=by rw [gu,List.length_append,List.length_singleton];omega
   refine VO.cond rfl dw (wV rfl ?_)
   obtain ⟨rq,El⟩:∃ rq,([]++[eG S F [] e])[pp.1]? =some rq:=⟨_,List.getElem?_eq_getElem (by rw [<-gu];exact DJ)⟩
   obtain ⟨yA,qB,ui⟩:=gB.el.at pp.1 rq El
   have ja:=gB.fl
   have Qd:=gB.le
   refine VO.cond rfl (by show 0 + ((pp.1:Int)).toNat * 28 + 20 + 4≤_;rw [ja,Int.toNat_natCast];omega) (VO.dI 52 rfl (mJ (new:=[.bool s9,.slice p9 n9 c9,.bool t9,.slice y9 m9 d9]) (o:=20) (gB.el.lens (aA B)) qB (bu rfl)) (wV rfl ?_))
   refine af ?_
   have hR3:qA (eI B) 28 Kg qJ iz (sX.set pp.1 (yA.take 20++([.bool s9,.slice p9 n9 c9,.bool t9,.slice y9 m9 d9]++yA.drop (20 + ([.bool s9,.slice p9 n9 c9,.bool t9,.slice y9 m9 d9]:List Value).length)))) oi (([]++[eG S F [] e]).modify pp.1 (fun r=>{ r with ao:=pp.2 })):=
    ⟨by rw [List.length_modify];exact gu,by rw [ew El];exact (gB.el.kp (aA B) aU).set (rL ((aA B).kp ui aU) ⟨_,_,_,_,_,_,_,_,rfl,Qc.kp aU⟩),gB.so,gB.sl,gB.le,gB.cm,by
     rw [List.length_append,List.length_map,dB (mK (gB.el.lens (aA B)) (vG ((aA B).len ui) rfl)),List.length_set]
     rw [List.length_append,List.length_map,dB (gB.el.lens (aA B))] at ja
     exact ja⟩
   refine VO.jO rfl rfl (fk Tryz.func76) rfl ab FD FF (fun j hj=> ?_) (bu rfl) (fun Qe k21 b21=>wV rfl ?_)
   ·simp only [ax,AV.cT,List.flatMap_cons,List.flatMap_nil,List.mem_append,List.mem_cons,List.not_mem_nil,or_false,List.append_nil] at hj
    rcases hj with rfl | rfl <;> (intro h;cases h)
   refine af ?_
   have hV4:dT (dz B) 5 Qe (nz - 1) (if qF=1 then gH else gH + 5) (qF - 1) (mZ++[.int .i64 (pp.1:Int),.bool s9,.slice p9 n9 c9,.bool t9,.slice y9 m9 d9]) Ag Np qt:=⟨by rw [FE];rfl,pV lR,by rw [List.all_append,gM.po];rfl,vL.kp (aO B) aU,gM.so,by omega,by omega,pW gM.fl⟩
   have sI:eC S F keep ([]:List aM).length ⟨[],[],[]⟩ e=⟨qt,([]++[eG S F [] e]).modify pp.1 (fun r=>{ r with ao:=pp.2 }),[]⟩:=by
    rw [oT,zI,Ca]
    exact if_pos hx
   refine af ?_
   refine VS.mX (bF _ _) rfl (fun wz β kz oz en=> ?_)
   obtain ⟨o1,o2⟩:=fo (en.own 198 _ _ rfl) 0 g rfl rfl
   have oR:=(en.own 52 _ _ rfl).cls
   rw [List.map_append,ah] at oR
   have nR:=gr hB eZ (show dm 99 [g] w 52 (β 52) from (en.own 52 _ _ rfl).new)
   have oV:=(en.own 62 _ _ rfl).cls
   rw [eN,ah] at oV
   have nV:=gr hB eZ (show dm 99 [g] w 62 (β 62) from (en.own 62 _ _ rfl).new)
   rw [sI]
   refine ⟨rfl,oz.1,[g,β 62,β 52],⟨fun b hb=> ?_,_,_,_,o2,?_⟩⟩
   ·simp only [List.mem_cons,List.not_mem_nil,or_false] at hb
    rcases hb with rfl | rfl | rfl
    ·exact Ek
    ·exact nV
    ·exact nR
   ·exact .inr (.inr (.inl ⟨β 62,β 52,rfl,rfl,rfl,⟨_,_,_,_,_,_,rfl,oV,hV4.kp (aO B) aU⟩,⟨_,_,_,_,rfl,oR,(hR3.kp (aA B) aU).o β⟩⟩))
  ·refine VS.aQ rfl (by rw [Nq,beq_eq_false_iff_ne];omega) ?_
   have sI:eC S F keep ([]:List aM).length ⟨[],[],[]⟩ e=⟨pp::qt,[]++[eG S F [] e],[]⟩:=by
    rw [oT,zI,Ca]
    exact if_neg hx
   refine af ?_
   refine VS.mX (bF _ _) rfl (fun wz β kz oz en=> ?_)
   obtain ⟨o1,o2⟩:=fo (en.own 198 _ _ rfl) 0 g rfl rfl
   have oR:=(en.own 52 _ _ rfl).cls
   rw [List.map_append,ah] at oR
   have nR:=gr hB eZ (show dm 99 [g] w 52 (β 52) from (en.own 52 _ _ rfl).new)
   have oV:=(en.own 62 _ _ rfl).cls
   rw [ah] at oV
   have nV:=gr hB eZ (show dm 99 [g] w 62 (β 62) from (en.own 62 _ _ rfl).new)
   rw [sI]
   refine ⟨rfl,oz.1,[g,β 62,β 52],⟨fun b hb=> ?_,_,_,_,o2,?_⟩⟩
   ·simp only [List.mem_cons,List.not_mem_nil,or_false] at hb
    rcases hb with rfl | rfl | rfl
    ·exact Ek
    ·exact nV
    ·exact nR
   ·exact .inr (.inr (.inl ⟨β 62,β 52,rfl,rfl,rfl,⟨_,_,_,_,_,_,rfl,oV,gM.kp (aO B) aU⟩,⟨_,_,_,_,rfl,oR,(gB.kp (aA B) aU).o β⟩⟩))
set_option maxRecDepth 4000
set_option maxRecDepth 4000 in
theorem iYear_B {B g keep D kk ks:Nat} {M S F:Rat} {e:Rat×Rat} {rb nr cr:Nat} {kM:List (List Value)} {nH:List Value} {q:List Vq} {rows:List aM} {uses:List Uq} {v u:Value} {w:World} (hg:bg w g Runner #[.slice none 0 0,.slice (some ⟨rb,0,none⟩) nr cr,.slice none 0 0]) (Em:bg w rb eT (kM.flatten++nH).toArray) (hR:dT (eI B) 28 w nr 0 cr [] kM nH rows)
  (yz:Lz w v S F keep ks) (Ra:YrV w u e ks) (vH:1≤ks) (CT:ks≤kk) (Eb:kk≤100000) (Ej:Iz D (ay S F e.2)) (tX:ay S F e.2≤M) (Rb:Iz D e.1) (iA: -M≤e.1) (Gx:e.1≤M) (hK:∀ x,Iz D x->-(M + M)≤x->x≤M + M->et x kk)
  (Af:Jq D M ⟨[],rows,[]⟩) (ya:(rows:List aM).length≤64) (yb:keep≤40) (hB:B≤w.heap.size) (eZ:∀ b∈[g,rb],B≤b):
  Calls Tryz.prog 39 #[.pointer (some ⟨g,0,none⟩),v,.int .i64 ((rows:List aM).length:Int),u] w fun o w'=>o=.returned (jc [])/\tw [g,rb] w w'/\∃ TF,qj B w' g TF (eC S F keep (rows:List aM).length ⟨[],rows,[]⟩ e):=by
 have hL0:=lQ S F e.2
 have hM0:0≤M:=by grind
 obtain ⟨g1,g2,g3,g4,g5,g6,g7,g8,g9⟩:=nD Ej hL0 tX Rb iA Gx
 have Ek:B≤g:=eZ g cw
 have hlen:=Af.len
 obtain ⟨sS,pS,nS,cS,tS,yS,mS,dS,sF,pF,nF,cF,tF,yF,mF,dF,rfl,hS,hF⟩:=yz
 obtain ⟨sN,pN,nN,cN,tN,yN,mN,dN,sE,pE,nE,cE,tE,yE,mE,dE,rfl,hN,hE⟩:=Ra
 have sH:jX (KU UU) 99 [g,rb] [(Runner,[.val (.slice none 0 0),.row 199 0 nr cr,.val (.slice none 0 0)]),(eT,(kM.flatten++nH).map .val)] w:=by
  have Qf:g≠rb:=fun e=>by subst e;exact absurd (bN hg Em) bW
  refine ⟨rfl,by simp [Qf],fun j g' c' hj hc=> ?_,fun c' hc=> ?_,fun c' hc k hk=> ?_⟩
  ·match j,hj,hc with
   | 0,hj,hc=>cases hj;cases hc;exact hg
   | 1,hj,hc=>cases hj;cases hc;rw [ah];exact Em
   | j + 2,hj,_=>simp at hj
  ·simp only [List.mem_cons,List.not_mem_nil,or_false] at hc
   rcases hc with rfl | rfl
   ·exact ⟨rfl,rfl⟩
   ·exact ⟨rfl,bh (hR.all (aA B))⟩
  ·simp only [List.mem_cons,List.not_mem_nil,or_false] at hc
   rcases hc with rfl | rfl
   ·have:k=199:=by simpa [ax,AV.cT] using hk
    subst this;exact ⟨by omega,by show 199 < 2 * 99 + 2;omega⟩
   ·rw [ai] at hk;cases hk
 refine fm Tryz.prog w _ (KU UU) (fun t=>Nat.beq t 22) table (fun _ _=>trivial) (ad:=[g,rb]) (us:=[_,_,_]) Tryz.func39 rfl Tryz.ntmps39 (bu rfl) sH (bu rfl) ?_
 refine af ?_
 refine VO.call rfl rfl (fk Tryz.func70) (fun bD cQ bG=>((pX _ _ S F keep e ks bD ⟨_,_,_,_,_,_,_,_,_,_,_,_,_,_,_,_,rfl,hS.k,hF.k⟩ ⟨_,_,_,_,_,_,_,_,_,_,_,_,_,_,_,_,rfl,hN.k,hE.k⟩ vH ab).mono (fun o w2 h=>And.intro h bG.1.size)).mono ?_)
 rintro o w1 ⟨⟨r1,rfl,q1,aI⟩,LA⟩
 obtain ⟨s1,p1,n1,c1,t1,y1,m1,d1,rfl⟩:=q1.form
 refine ⟨_,rfl,aI,fun dt _ bb1=>wV rfl ?_⟩
 replace q1:=q1.mono (Nat.le_trans hB LA)
 refine af ?_
 refine VO.call rfl rfl (fk Tryz.func44) (fun cG dQ cV=>((bX 0 cG ab ab).mono (fun o w2 h=>And.intro h cV.1.size)).mono ?_)
 rintro o w2 ⟨⟨r2,rfl,q2,ba⟩,tU⟩
 obtain ⟨s2,p2,n2,c2,t2,y2,m2,d2,rfl⟩:=q2.form
 refine ⟨_,rfl,ba,fun dR _ bb2=>wV rfl ?_⟩
 replace q2:=q2.mono (Nat.le_trans hB tU)
 refine af ?_
 refine VO.call rfl rfl (fk Tryz.func44) (fun eX fF fM=>((bX 0 eX ab ab).mono (fun o w2 h=>And.intro h fM.1.size)).mono ?_)
 rintro o w3 ⟨⟨r3,rfl,q3,cC⟩,CS⟩
 obtain ⟨s3,p3,n3,c3,t3,y3,m3,d3,rfl⟩:=q3.form
 refine ⟨_,rfl,cC,fun gZ _ bb3=>wV rfl ?_⟩
 replace q3:=q3.mono (Nat.le_trans hB CS)
 refine af ?_
 refine VO.ee rfl (fk Tryz.func71) (fun jg β kZ kt ho=>((gT _ _ e.1 [ay S F e.2] kk jg ((hN.k).up ab) (cZ (ho.own 20 (.base (List.mem_singleton.2 rfl)) _ _ rfl) [] (vs:=[[.bool s1,.slice p1 n1 c1,.bool t1,.slice y1 m1 d1]]) (by rfl) rfl (bt.cons (q1.ki (hK _ Ej dp dp)) bt.nil) (bu rfl) bW) ab (bu rfl)).mono (fun o w2 h=>And.intro h kt.1.size)).mono ?_)
 rintro o w4 ⟨⟨r4,rfl,q4,z4,fq⟩,LB⟩
 rw [eM] at q4
 obtain ⟨s4,p4,n4,c4,t4,y4,m4,d4,rfl⟩:=q4.form
 refine ⟨_,rfl,fq,fun lz _ tH=>wV rfl ?_⟩
 replace q4:=q4.mono (Nat.le_trans hB LB)
 refine af ?_
 refine VO.call rfl rfl (fk Tryz.func72) (fun gE ju ia=>((dc _ _ e.1 (ae e.1 (ay S F e.2)) kk kk gE ((hN.k).up ab) (q4.ki (hK _ g1 dp dp)) ab ab).mono (fun o w2 h=>And.intro h ia.1.size)).mono ?_)
 rintro o w5 ⟨⟨r5,rfl,q5,eP⟩,tV⟩
 obtain ⟨s5,p5,n5,c5,t5,y5,m5,d5,rfl⟩:=q5.form
 refine ⟨_,rfl,eP,fun jV _ qu=>wV rfl ?_⟩
 replace q5:=q5.mono (Nat.le_trans hB tV)
 refine af ?_
 refine VO.call rfl rfl (fk Tryz.func72) (fun gF ld iC=>((dc _ _ (ay S F e.2) (ae e.1 (ay S F e.2)) kk kk gF (q1.ki (hK _ Ej dp dp)) (q4.ki (hK _ g1 dp dp)) ab ab).mono (fun o w2 h=>And.intro h iC.1.size)).mono ?_)
 rintro o w6 ⟨⟨r6,rfl,q6,fK⟩,LC⟩
 obtain ⟨s6,p6,n6,c6,t6,y6,m6,d6,rfl⟩:=q6.form
 refine ⟨_,rfl,fK,fun lG _ pO=>wV rfl ?_⟩
 replace q6:=q6.mono (Nat.le_trans hB LC)
 refine af ?_
 have oT:eC S F keep (rows:List aM).length ⟨[],rows,[]⟩ e=vA keep (rows:List aM).length ⟨mY (rows:List aM).length (e.1 - ae e.1 (ay S F e.2)) (ny [] (ay S F e.2 - ae e.1 (ay S F e.2))),rows++[eG S F [] e],[]++qH (rows:List aM).length [] (ay S F e.2 - ae e.1 (ay S F e.2))⟩:=rfl
 refine VO.vF (B:=B) (mm:=ay S F e.2 - ae e.1 (ay S F e.2)) kk rfl rfl (fk Tryz.func73) rfl (fun wi LD Nn=>q6.kr) hB (fun w7 r7 k7 b7 q7=> ?_)
 obtain ⟨s7,p7,n7,c7,t7,y7,m7,d7,rfl⟩:=q7.form
 refine wV rfl ?_
 refine af ?_
 have Ca:([]:List Uq)++qH (rows:List aM).length [] (ay S F e.2 - ae e.1 (ay S F e.2))=[]:=rfl
 obtain ⟨u1,u2,u3⟩:=xm (q:=[]) (m:=ay S F e.2 - ae e.1 (ay S F e.2)) (fun p hp=>(by cases hp)) g7 g8
 refine VO.call rfl rfl (fk Tryz.func16) (fun sD Fc wj=>((fx _ _ (ae e.1 (ay S F e.2)) ((0:Rat)) kk kk sD (q4.ki (hK _ g1 dp dp)) (q7.ki (hK _ u1 dp dp)) ab ab).mono (fun o w2 h=>And.intro h wj.1.size)).mono ?_)
 rintro o w8 ⟨⟨r8,rfl,q8,qf⟩,CU⟩
 obtain ⟨s8,p8,n8,c8,t8,y8,m8,d8,rfl⟩:=q8.form
 refine ⟨_,rfl,qf,fun wk _ Kd=>wV rfl ?_⟩
 replace q8:=q8.mono (Nat.le_trans hB CU)
 refine af ?_
 have Ng:((0:Int):Rat)=0:=rfl
 have Fx:eI B w8 [.bool s1,.slice p1 n1 c1,.bool t1,.slice y1 m1 d1,.bool s4,.slice p4 n4 c4,.bool t4,.slice y4 m4 d4,.bool s5,.slice p5 n5 c5,.bool t5,.slice y5 m5 d5,.bool s7,.slice p7 n7 c7,.bool t7,.slice y7 m7 d7,.bool s8,.slice p8 n8 c8,.bool t8,.slice y8 m8 d8,.bool s2,.slice p2 n2 c2,.bool t2,.slice y2 m2 d2,.bool s3,.slice p3 n3 c3,.bool t3,.slice y3 m3 d3] (eG S F [] e):=⟨[.bool s1,.slice p1 n1 c1,.bool t1,.slice y1 m1 d1],[.bool s4,.slice p4 n4 c4,.bool t4,.slice y4 m4 d4],[.bool s5,.slice p5 n5 c5,.bool t5,.slice y5 m5 d5],[.bool s7,.slice p7 n7 c7,.bool t7,.slice y7 m7 d7],[.bool s8,.slice p8 n8 c8,.bool t8,.slice y8 m8 d8],[.bool s2,.slice p2 n2 c2,.bool t2,.slice y2 m2 d2],[.bool s3,.slice p3 n3 c3,.bool t3,.slice y3 m3 d3],rfl,⟨_,_,_,_,_,_,_,_,rfl,q1.k⟩,⟨_,_,_,_,_,_,_,_,rfl,q4.k⟩,⟨_,_,_,_,_,_,_,_,rfl,q5.k⟩,⟨_,_,_,_,_,_,_,_,rfl,q7.k⟩,⟨_,_,_,_,_,_,_,_,rfl,q8.k⟩,⟨_,_,_,_,_,_,_,_,rfl,q2.k⟩,⟨_,_,_,_,_,_,_,_,rfl,q3.k⟩⟩
 obtain ⟨jA,kE⟩:=hR.el.ok (aA B)
 have pj:=hR.len
 refine VO.app (bF _ _) (t:=33) (e:=eT) (sz:=28) (n:=nr) (c:=cr) (mm:=1) (known:=kM.flatten.map .val) (spare:=nH.map .val) (del:=some 199) (news:=([.bool s1,.slice p1 n1 c1,.bool t1,.slice y1 m1 d1,.bool s4,.slice p4 n4 c4,.bool t4,.slice y4 m4 d4,.bool s5,.slice p5 n5 c5,.bool t5,.slice y5 m5 d5,.bool s7,.slice p7 n7 c7,.bool t7,.slice y7 m7 d7,.bool s8,.slice p8 n8 c8,.bool t8,.slice y8 m8 d8,.bool s2,.slice p2 n2 c2,.bool t2,.slice y2 m2 d2,.bool s3,.slice p3 n3 c3,.bool t3,.slice y3 m3 d3]:List Value).map .val) (dst:=52) rfl rfl rfl rfl rfl rfl rfl rfl (bu rfl) rfl (.inr ⟨199,rfl,congrArg (fun l=>some (eT,l)) (List.map_append ..),rfl⟩) (.inl rfl) (by rw [List.length_map,kE,pj]) (by rw [<-List.map_append,List.length_map];exact hR.fl) hR.le hR.cm ⟨ai _,ai _,rfl⟩ ⟨bh jA,bh hR.so,rfl⟩ rfl ab
  (fun w1 β k1 b1 ho=>⟨_,_,rfl,.inr ⟨β 51,0,rfl,df (rest:=[]) (ho.own 51 (.base (List.mem_append_right _ (List.mem_singleton.2 rfl))) _ _ rfl) rfl⟩⟩)
  (fun qG iz oi ρ Nk Nl fJ jS iB ek Fy jP=>wV rfl ?_)
 (repeat (first | refine wN ?_ | refine wP rfl ?_ | refine DU rfl ?_ | refine wO rfl rfl ?_))
 obtain ⟨qJ,vI⟩:∃ qJ,qJ=nr + 1:=⟨_,rfl⟩
 obtain ⟨sX,vJ⟩:∃ sX,sX=(kM++[[.bool s1,.slice p1 n1 c1,.bool t1,.slice y1 m1 d1,.bool s4,.slice p4 n4 c4,.bool t4,.slice y4 m4 d4,.bool s5,.slice p5 n5 c5,.bool t5,.slice y5 m5 d5,.bool s7,.slice p7 n7 c7,.bool t7,.slice y7 m7 d7,.bool s8,.slice p8 n8 c8,.bool t8,.slice y8 m8 d8,.bool s2,.slice p2 n2 c2,.bool t2,.slice y2 m2 d2,.bool s3,.slice p3 n3 c3,.bool t3,.slice y3 m3 d3]]:List (List Value)):=⟨_,rfl⟩
 have gB:qA (eI B) 28 qG qJ iz sX oi (rows++[eG S F [] e]):=by rw [vI,vJ];exact ⟨by rw [pj,List.length_append];rfl,(hR.el.kp (aA B) aU).snoc ((aA B).kp Fx aU),Fy,jP,jS,iB,by simpa using ek⟩
 refine VS.narrow [(0,.box 198 0),(2,.val (.int .i64 ((rows:List aM).length:Int))),(5,.box 5 0),(8,.box 8 0)] [(198,(Runner,[.val (.slice none 0 0),.row 52 0 qJ iz,.val (.slice none 0 0)])),(52,(eT,sX.flatten.map AV.val++oi)),(5,(28,([.bool sS,.slice pS nS cS,.bool tS,.slice yS mS dS,.bool sF,.slice pF nF cF,.bool tF,.slice yF mF dF,.int .i64 (keep:Int)]:List Value).map AV.val)),(8,(eT,([.bool s1,.slice p1 n1 c1,.bool t1,.slice y1 m1 d1,.bool s4,.slice p4 n4 c4,.bool t4,.slice y4 m4 d4,.bool s5,.slice p5 n5 c5,.bool t5,.slice y5 m5 d5,.bool s7,.slice p7 n7 c7,.bool t7,.slice y7 m7 d7,.bool s8,.slice p8 n8 c8,.bool t8,.slice y8 m8 d8,.bool s2,.slice p2 n2 c2,.bool t2,.slice y2 m2 d2,.bool s3,.slice p3 n3 c3,.bool t3,.slice y3 m3 d3]:List Value).map AV.val))] ⟨rfl,rfl,rfl,rfl,trivial⟩ ⟨by rw [vI];rfl,by rw [vJ];exact congrArg (fun l=>some (eT,l++oi)) cw,rfl,rfl,trivial⟩ rfl ⟨.lit rfl,.append (.vals _) (.none jP),.vals _,.vals _,trivial⟩ ?_
 refine VS.draw (bF _ _) (mc _ _) [74] (by kernel_rfl) (VO.run 80 rfl ?_)
 refine VO.Jn (B:=B) (d2:=62) (d:=e.1 - ae e.1 (ay S F e.2)) kk rfl rfl rfl (fk Tryz.func74) rfl rfl (by show 62 < 2 * 99;omega) (fun j hj=> ?_) (bu rfl) (fun wi LD Nn=>q5.kr) (hK _ g4 dp dp) Eb hB (fun CV k19 b19 Ms=>wV rfl ?_) (fun CV qF LG Np k19 b19 Ms gM=>wV rfl ?_)
 ·have:j=52:=by simpa [ax,AV.cT] using hj
  subst this;intro h;cases h
 ·have zI:mY (rows:List aM).length (e.1 - ae e.1 (ay S F e.2)) (ny [] (ay S F e.2 - ae e.1 (ay S F e.2)))=[]:=if_neg Ms
  refine af ?_
  refine VO.dU (x:=.val (.slice none 0 0)) (p:=fun _=>none) (c:=0) rfl (fun β=>.inr ⟨none,rfl⟩) rfl (fk Tryz.func75) rfl (fun Kg TG TH=>wV rfl ?_)
  refine af ?_
  have sI:eC S F keep (rows:List aM).length ⟨[],rows,[]⟩ e=⟨[],rows++[eG S F [] e],[]⟩:=by rw [oT,zI,Ca];rfl
  refine af ?_
  refine VS.mX (bF _ _) rfl (fun wz β kz oz en=> ?_)
  obtain ⟨o1,o2⟩:=fo (en.own 198 _ _ rfl) 0 g rfl rfl
  have oR:=(en.own 52 _ _ rfl).cls
  rw [List.map_append,ah] at oR
  have nR:=gr hB eZ (show dm 99 [g,rb] w 52 (β 52) from (en.own 52 _ _ rfl).new)
  rw [sI]
  refine ⟨rfl,oz.1,[g,β 52],⟨fun b hb=> ?_,_,_,_,o2,?_⟩⟩
  ·simp only [List.mem_cons,List.not_mem_nil,or_false] at hb
   rcases hb with rfl | rfl
   ·exact Ek
   ·exact nR
  ·exact .inr (.inl ⟨β 52,rfl,rfl,rfl,rfl,rfl,⟨_,_,_,_,rfl,oR,(gB.kp (aA B) aU).o β⟩⟩)
 ·obtain ⟨q2,vK⟩:∃ q2:List Vq,q2=[((rows:List aM).length,e.1 - ae e.1 (ay S F e.2))]:=⟨_,rfl⟩
  rw [<-vK] at gM
  have zI:mY (rows:List aM).length (e.1 - ae e.1 (ay S F e.2)) (ny [] (ay S F e.2 - ae e.1 (ay S F e.2)))=q2:=by rw [vK];exact if_pos Ms
  obtain ⟨nz,TJ⟩:∃ nz,nz=1:=⟨_,rfl⟩
  obtain ⟨gH,Jr⟩:∃ gH,gH=0:=⟨_,rfl⟩
  obtain ⟨mZ,Js⟩:∃ mZ:List Value,mZ=[]:=⟨_,rfl⟩
  have gM:dT (dz B) 5 CV nz gH qF mZ LG Np q2:=by rw [TJ,Jr,Js];exact gM
  refine VO.nil ?_
  refine VS.narrow [(0,.box 198 0),(2,.val (.int .i64 ((rows:List aM).length:Int))),(5,.box 5 0),(8,.box 8 0)] [(198,(Runner,[.row 62 gH nz qF,.row 52 0 qJ iz,.val (.slice none 0 0)])),(52,(eT,sX.flatten.map AV.val++oi)),(5,(28,([.bool sS,.slice pS nS cS,.bool tS,.slice yS mS dS,.bool sF,.slice pF nF cF,.bool tF,.slice yF mF dF,.int .i64 (keep:Int)]:List Value).map AV.val)),(8,(eT,([.bool s1,.slice p1 n1 c1,.bool t1,.slice y1 m1 d1,.bool s4,.slice p4 n4 c4,.bool t4,.slice y4 m4 d4,.bool s5,.slice p5 n5 c5,.bool t5,.slice y5 m5 d5,.bool s7,.slice p7 n7 c7,.bool t7,.slice y7 m7 d7,.bool s8,.slice p8 n8 c8,.bool t8,.slice y8 m8 d8,.bool s2,.slice p2 n2 c2,.bool t2,.slice y2 m2 d2,.bool s3,.slice p3 n3 c3,.bool t3,.slice y3 m3 d3]:List Value).map AV.val)),(62,(dG,(mZ++(LG.flatten++Np)).map AV.val))] ⟨rfl,rfl,rfl,rfl,trivial⟩ ⟨by rw [Jr,TJ];rfl,rfl,rfl,rfl,by rw [Js];rfl,trivial⟩ rfl ⟨.lit rfl,.append (.vals _) (.none jP),.vals _,.vals _,.vals _,trivial⟩ ?_
  refine af ?_
  by_cases og:nz=0
  ·refine VO.dU (x:=.row 62 gH nz qF) (p:=fun _=>none) (c:=qF) rfl (fun β=>.inr ⟨_,congrArg (fun n=>Value.slice (some ⟨β 62,gH,none⟩) n qF) og⟩) rfl (fk Tryz.func75) rfl (fun Kg TG TH=>wV rfl ?_)
   refine af ?_
   have Fz:q2=[]:=List.eq_nil_of_length_eq_zero (by rw [<-gM.len];exact og)
   have sI:eC S F keep (rows:List aM).length ⟨[],rows,[]⟩ e=⟨q2,rows++[eG S F [] e],[]⟩:=by rw [oT,zI,Ca,Fz];rfl
   refine af ?_
   refine VS.mX (bF _ _) rfl (fun wz β kz oz en=> ?_)
   obtain ⟨o1,o2⟩:=fo (en.own 198 _ _ rfl) 0 g rfl rfl
   have oR:=(en.own 52 _ _ rfl).cls
   rw [List.map_append,ah] at oR
   have nR:=gr hB eZ (show dm 99 [g,rb] w 52 (β 52) from (en.own 52 _ _ rfl).new)
   have oV:=(en.own 62 _ _ rfl).cls
   rw [ah] at oV
   have nV:=gr hB eZ (show dm 99 [g,rb] w 62 (β 62) from (en.own 62 _ _ rfl).new)
   rw [sI]
   refine ⟨rfl,oz.1,[g,β 62,β 52],⟨fun b hb=> ?_,_,_,_,o2,?_⟩⟩
   ·simp only [List.mem_cons,List.not_mem_nil,or_false] at hb
    rcases hb with rfl | rfl | rfl
    ·exact Ek
    ·exact nV
    ·exact nR
   ·exact .inr (.inr (.inl ⟨β 62,β 52,rfl,rfl,rfl,⟨_,_,_,_,_,_,rfl,oV,gM.kp (aO B) aU⟩,⟨_,_,_,_,rfl,oR,(gB.kp (aA B) aU).o β⟩⟩))
  obtain ⟨pp,qt,Gv⟩:∃ pp qt,q2=pp::qt:=by
   cases q2 with
   | nil=>exact absurd gM.len og
   | cons pp qt=>exact ⟨pp,qt,rfl⟩
  subst Gv
  obtain ⟨FA,Ag,rfl,hE4,vL⟩:∃ FA Ag,LG=FA::Ag/\dz B CV FA pp/\bL (dz B) CV qt Ag:=by
   have:=gM.el
   cases this with
   | cons h1 h2=>exact ⟨_,_,rfl,h1,h2⟩
  obtain ⟨s9,p9,n9,c9,t9,y9,m9,d9,rfl,Qc⟩:=hE4
  have FD:=gM.le
  have FE:=gM.len
  have FF:=gM.cm
  have lR:mZ.length=gH:=gM.pl.resolve_right ab
  refine VO.dA rfl rfl (fk Tryz.func75) rfl og (by intro h;cases h) (fun Kg TG TH=>wV rfl ?_)
  refine af ?_
  refine VO.cW rfl (([.int .i64 (pp.1:Int)]:List Value).map .val) rfl (bC lR 0 _ ⟨_,rfl⟩) (wV rfl ?_)
  refine af ?_
  have Nq:IntKind.i64.wrap (((rows:List aM).length:Int) - (keep:Int))=((rows:List aM).length:Int) - (keep:Int):=IntWalk.i64_in _ ab
  by_cases hx:pp.1 + keep=(rows:List aM).length
  ·refine VS.aP rfl (by rw [Nq,beq_iff_eq];omega) ?_
   refine af ?_
   refine VO.cW rfl (([.int .i64 (pp.1:Int)]:List Value).map .val) rfl (bC lR 0 _ ⟨_,rfl⟩) (wV rfl ?_)
   refine af ?_
   refine VO.cW rfl (([.bool s9,.slice p9 n9 c9,.bool t9,.slice y9 m9 d9]:List Value).map .val) rfl (bC lR 1 _ ⟨[],rfl⟩) (wV rfl ?_)
   refine af ?_
   have gu:=gB.len
   have DJ:pp.1 < qJ:=by rw [gu,List.length_append,List.length_singleton];omega
   refine VO.cond rfl dw (wV rfl ?_)
   obtain ⟨rq,El⟩:∃ rq,(rows++[eG S F [] e])[pp.1]? =some rq:=⟨_,List.getElem?_eq_getElem (by rw [<-gu];exact DJ)⟩
   obtain ⟨yA,qB,ui⟩:=gB.el.at pp.1 rq El
   have ja:=gB.fl
   have Qd:=gB.le
   refine VO.cond rfl (by show 0 + ((pp.1:Int)).toNat * 28 + 20 + 4≤_;rw [ja,Int.toNat_natCast];omega) (VO.dI 52 rfl (mJ (new:=[.bool s9,.slice p9 n9 c9,.bool t9,.slice y9 m9 d9]) (o:=20) (gB.el.lens (aA B)) qB (bu rfl)) (wV rfl ?_))
   refine af ?_
   have hR3:qA (eI B) 28 Kg qJ iz (sX.set pp.1 (yA.take 20++([.bool s9,.slice p9 n9 c9,.bool t9,.slice y9 m9 d9]++yA.drop (20 + ([.bool s9,.slice p9 n9 c9,.bool t9,.slice y9 m9 d9]:List Value).length)))) oi ((rows++[eG S F [] e]).modify pp.1 (fun r=>{ r with ao:=pp.2 })):=
    ⟨by rw [List.length_modify];exact gu,by rw [ew El];exact (gB.el.kp (aA B) aU).set (rL ((aA B).kp ui aU) ⟨_,_,_,_,_,_,_,_,rfl,Qc.kp aU⟩),gB.so,gB.sl,gB.le,gB.cm,by
     rw [List.length_append,List.length_map,dB (mK (gB.el.lens (aA B)) (vG ((aA B).len ui) rfl)),List.length_set]
     rw [List.length_append,List.length_map,dB (gB.el.lens (aA B))] at ja
     exact ja⟩
   refine VO.jO rfl rfl (fk Tryz.func76) rfl ab FD FF (fun j hj=> ?_) (bu rfl) (fun Qe k21 b21=>wV rfl ?_)
   ·simp only [ax,AV.cT,List.flatMap_cons,List.flatMap_nil,List.mem_append,List.mem_cons,List.not_mem_nil,or_false,List.append_nil] at hj
    rcases hj with rfl | rfl <;> (intro h;cases h)
   refine af ?_
   have hV4:dT (dz B) 5 Qe (nz - 1) (if qF=1 then gH else gH + 5) (qF - 1) (mZ++[.int .i64 (pp.1:Int),.bool s9,.slice p9 n9 c9,.bool t9,.slice y9 m9 d9]) Ag Np qt:=⟨by rw [FE];rfl,pV lR,by rw [List.all_append,gM.po];rfl,vL.kp (aO B) aU,gM.so,by omega,by omega,pW gM.fl⟩
   have sI:eC S F keep (rows:List aM).length ⟨[],rows,[]⟩ e=⟨qt,(rows++[eG S F [] e]).modify pp.1 (fun r=>{ r with ao:=pp.2 }),[]⟩:=by
    rw [oT,zI,Ca]
    exact if_pos hx
   refine af ?_
   refine VS.mX (bF _ _) rfl (fun wz β kz oz en=> ?_)
   obtain ⟨o1,o2⟩:=fo (en.own 198 _ _ rfl) 0 g rfl rfl
   have oR:=(en.own 52 _ _ rfl).cls
   rw [List.map_append,ah] at oR
   have nR:=gr hB eZ (show dm 99 [g,rb] w 52 (β 52) from (en.own 52 _ _ rfl).new)
   have oV:=(en.own 62 _ _ rfl).cls
   rw [eN,ah] at oV
   have nV:=gr hB eZ (show dm 99 [g,rb] w 62 (β 62) from (en.own 62 _ _ rfl).new)
   rw [sI]
   refine ⟨rfl,oz.1,[g,β 62,β 52],⟨fun b hb=> ?_,_,_,_,o2,?_⟩⟩
   ·simp only [List.mem_cons,List.not_mem_nil,or_false] at hb
    rcases hb with rfl | rfl | rfl
    ·exact Ek
    ·exact nV
    ·exact nR
   ·exact .inr (.inr (.inl ⟨β 62,β 52,rfl,rfl,rfl,⟨_,_,_,_,_,_,rfl,oV,hV4.kp (aO B) aU⟩,⟨_,_,_,_,rfl,oR,(hR3.kp (aA B) aU).o β⟩⟩))
  ·refine VS.aQ rfl (by rw [Nq,beq_eq_false_iff_ne];omega) ?_
   have sI:eC S F keep (rows:List aM).length ⟨[],rows,[]⟩ e=⟨pp::qt,rows++[eG S F [] e],[]⟩:=by
    rw [oT,zI,Ca]
    exact if_neg hx
   refine af ?_
   refine VS.mX (bF _ _) rfl (fun wz β kz oz en=> ?_)
   obtain ⟨o1,o2⟩:=fo (en.own 198 _ _ rfl) 0 g rfl rfl
   have oR:=(en.own 52 _ _ rfl).cls
   rw [List.map_append,ah] at oR
   have nR:=gr hB eZ (show dm 99 [g,rb] w 52 (β 52) from (en.own 52 _ _ rfl).new)
   have oV:=(en.own 62 _ _ rfl).cls
   rw [ah] at oV
   have nV:=gr hB eZ (show dm 99 [g,rb] w 62 (β 62) from (en.own 62 _ _ rfl).new)
   rw [sI]
   refine ⟨rfl,oz.1,[g,β 62,β 52],⟨fun b hb=> ?_,_,_,_,o2,?_⟩⟩
   ·simp only [List.mem_cons,List.not_mem_nil,or_false] at hb
    rcases hb with rfl | rfl | rfl
    ·exact Ek
    ·exact nV
    ·exact nR
   ·exact .inr (.inr (.inl ⟨β 62,β 52,rfl,rfl,rfl,⟨_,_,_,_,_,_,rfl,oV,gM.kp (aO B) aU⟩,⟨_,_,_,_,rfl,oR,(gB.kp (aA B) aU).o β⟩⟩))
set_option maxRecDepth 4000
set_option maxRecDepth 4000 in
theorem iYear_C {B g keep D kk ks:Nat} {M S F:Rat} {e:Rat×Rat} {vb off nq cq:Nat} {pre TK:List Value} {TL:List (List Value)} {rb nr cr:Nat} {kM:List (List Value)} {nH:List Value} {q:List Vq} {rows:List aM} {uses:List Uq} {v u:Value} {w:World} (hg:bg w g Runner #[.slice (some ⟨vb,off,none⟩) nq cq,.slice (some ⟨rb,0,none⟩) nr cr,.slice none 0 0]) (Gy:bg w vb dG (pre++(TL.flatten++TK)).toArray) (hV:dT (dz B) 5 w nq off cq pre TL TK q) (Em:bg w rb eT (kM.flatten++nH).toArray) (hR:dT (eI B) 28 w nr 0 cr [] kM nH rows)
  (yz:Lz w v S F keep ks) (Ra:YrV w u e ks) (vH:1≤ks) (CT:ks≤kk) (Eb:kk≤100000) (Ej:Iz D (ay S F e.2)) (tX:ay S F e.2≤M) (Rb:Iz D e.1) (iA: -M≤e.1) (Gx:e.1≤M) (hK:∀ x,Iz D x->-(M + M)≤x->x≤M + M->et x kk)
  (Af:Jq D M ⟨q,rows,[]⟩) (ya:(rows:List aM).length≤64) (yb:keep≤40) (hB:B≤w.heap.size) (eZ:∀ b∈[g,vb,rb],B≤b):
  Calls Tryz.prog 39 #[.pointer (some ⟨g,0,none⟩),v,.int .i64 ((rows:List aM).length:Int),u] w fun o w'=>o=.returned (jc [])/\tw [g,vb,rb] w w'/\∃ TF,qj B w' g TF (eC S F keep (rows:List aM).length ⟨q,rows,[]⟩ e):=by
 have hL0:=lQ S F e.2
 have hM0:0≤M:=by grind
 obtain ⟨g1,g2,g3,g4,g5,g6,g7,g8,g9⟩:=nD Ej hL0 tX Rb iA Gx
 have Ek:B≤g:=eZ g cw
 have hlen:=Af.len
 obtain ⟨sS,pS,nS,cS,tS,yS,mS,dS,sF,pF,nF,cF,tF,yF,mF,dF,rfl,hS,hF⟩:=yz
 obtain ⟨sN,pN,nN,cN,tN,yN,mN,dN,sE,pE,nE,cE,tE,yE,mE,dE,rfl,hN,hE⟩:=Ra
 have lB:q.length≤1000:=by dsimp only at hlen;omega
 have sH:jX (KU UU) 99 [g,vb,rb] [(Runner,[.row 199 off nq cq,.row 200 0 nr cr,.val (.slice none 0 0)]),(dG,(pre++(TL.flatten++TK)).map .val),(eT,(kM.flatten++nH).map .val)] w:=by
  have Qf:g≠vb:=fun e=>by subst e;exact absurd (bN hg Gy) bW
  have h02:g≠rb:=fun e=>by subst e;exact absurd (bN hg Em) bW
  have Ea:vb≠rb:=fun e=>by subst e;exact absurd (bN Gy Em) bW
  refine ⟨rfl,by simp [Qf,h02,Ea],fun j g' c' hj hc=> ?_,fun c' hc=> ?_,fun c' hc k hk=> ?_⟩
  ·match j,hj,hc with
   | 0,hj,hc=>cases hj;cases hc;exact hg
   | 1,hj,hc=>cases hj;cases hc;rw [ah];exact Gy
   | 2,hj,hc=>cases hj;cases hc;rw [ah];exact Em
   | j + 3,hj,_=>simp at hj
  ·simp only [List.mem_cons,List.not_mem_nil,or_false] at hc
   rcases hc with rfl | rfl | rfl
   ·exact ⟨rfl,rfl⟩
   ·exact ⟨rfl,bh (hV.all (aO B))⟩
   ·exact ⟨rfl,bh (hR.all (aA B))⟩
  ·simp only [List.mem_cons,List.not_mem_nil,or_false] at hc
   rcases hc with rfl | rfl | rfl
   ·have:k=199\/k=200:=by simpa [ax,AV.cT] using hk
    rcases this with rfl | rfl
    ·exact ⟨by omega,by show 199 < 2 * 99 + 3;omega⟩
    ·exact ⟨by omega,by show 200 < 2 * 99 + 3;omega⟩
   ·rw [ai] at hk;cases hk
   ·rw [ai] at hk;cases hk
 refine fm Tryz.prog w _ (KU UU) (fun t=>Nat.beq t 22) table (fun _ _=>trivial) (ad:=[g,vb,rb]) (us:=[_,_,_]) Tryz.func39 rfl Tryz.ntmps39 (bu rfl) sH (bu rfl) ?_
 refine af ?_
 refine VO.call rfl rfl (fk Tryz.func70) (fun bD cQ bG=>((pX _ _ S F keep e ks bD ⟨_,_,_,_,_,_,_,_,_,_,_,_,_,_,_,_,rfl,hS.k,hF.k⟩ ⟨_,_,_,_,_,_,_,_,_,_,_,_,_,_,_,_,rfl,hN.k,hE.k⟩ vH ab).mono (fun o w2 h=>And.intro h bG.1.size)).mono ?_)
 rintro o w1 ⟨⟨r1,rfl,q1,aI⟩,LA⟩
 obtain ⟨s1,p1,n1,c1,t1,y1,m1,d1,rfl⟩:=q1.form
 refine ⟨_,rfl,aI,fun dt _ bb1=>wV rfl ?_⟩
 replace q1:=q1.mono (Nat.le_trans hB LA)
 refine af ?_
 refine VO.call rfl rfl (fk Tryz.func44) (fun cG dQ cV=>((bX 0 cG ab ab).mono (fun o w2 h=>And.intro h cV.1.size)).mono ?_)
 rintro o w2 ⟨⟨r2,rfl,q2,ba⟩,tU⟩
 obtain ⟨s2,p2,n2,c2,t2,y2,m2,d2,rfl⟩:=q2.form
 refine ⟨_,rfl,ba,fun dR _ bb2=>wV rfl ?_⟩
 replace q2:=q2.mono (Nat.le_trans hB tU)
 refine af ?_
 refine VO.call rfl rfl (fk Tryz.func44) (fun eX fF fM=>((bX 0 eX ab ab).mono (fun o w2 h=>And.intro h fM.1.size)).mono ?_)
 rintro o w3 ⟨⟨r3,rfl,q3,cC⟩,CS⟩
 obtain ⟨s3,p3,n3,c3,t3,y3,m3,d3,rfl⟩:=q3.form
 refine ⟨_,rfl,cC,fun gZ _ bb3=>wV rfl ?_⟩
 replace q3:=q3.mono (Nat.le_trans hB CS)
 refine af ?_
 refine VO.ee rfl (fk Tryz.func71) (fun jg β kZ kt ho=>((gT _ _ e.1 [ay S F e.2] kk jg ((hN.k).up ab) (cZ (ho.own 20 (.base (List.mem_singleton.2 rfl)) _ _ rfl) [] (vs:=[[.bool s1,.slice p1 n1 c1,.bool t1,.slice y1 m1 d1]]) (by rfl) rfl (bt.cons (q1.ki (hK _ Ej dp dp)) bt.nil) (bu rfl) bW) ab (bu rfl)).mono (fun o w2 h=>And.intro h kt.1.size)).mono ?_)
 rintro o w4 ⟨⟨r4,rfl,q4,z4,fq⟩,LB⟩
 rw [eM] at q4
 obtain ⟨s4,p4,n4,c4,t4,y4,m4,d4,rfl⟩:=q4.form
 refine ⟨_,rfl,fq,fun lz _ tH=>wV rfl ?_⟩
 replace q4:=q4.mono (Nat.le_trans hB LB)
 refine af ?_
 refine VO.call rfl rfl (fk Tryz.func72) (fun gE ju ia=>((dc _ _ e.1 (ae e.1 (ay S F e.2)) kk kk gE ((hN.k).up ab) (q4.ki (hK _ g1 dp dp)) ab ab).mono (fun o w2 h=>And.intro h ia.1.size)).mono ?_)
 rintro o w5 ⟨⟨r5,rfl,q5,eP⟩,tV⟩
 obtain ⟨s5,p5,n5,c5,t5,y5,m5,d5,rfl⟩:=q5.form
 refine ⟨_,rfl,eP,fun jV _ qu=>wV rfl ?_⟩
 replace q5:=q5.mono (Nat.le_trans hB tV)
 refine af ?_
 refine VO.call rfl rfl (fk Tryz.func72) (fun gF ld iC=>((dc _ _ (ay S F e.2) (ae e.1 (ay S F e.2)) kk kk gF (q1.ki (hK _ Ej dp dp)) (q4.ki (hK _ g1 dp dp)) ab ab).mono (fun o w2 h=>And.intro h iC.1.size)).mono ?_)
 rintro o w6 ⟨⟨r6,rfl,q6,fK⟩,LC⟩
 obtain ⟨s6,p6,n6,c6,t6,y6,m6,d6,rfl⟩:=q6.form
 refine ⟨_,rfl,fK,fun lG _ pO=>wV rfl ?_⟩
 replace q6:=q6.mono (Nat.le_trans hB LC)
 refine af ?_
 have oT:eC S F keep (rows:List aM).length ⟨q,rows,[]⟩ e=vA keep (rows:List aM).length ⟨mY (rows:List aM).length (e.1 - ae e.1 (ay S F e.2)) (ny q (ay S F e.2 - ae e.1 (ay S F e.2))),rows++[eG S F q e],[]++qH (rows:List aM).length q (ay S F e.2 - ae e.1 (ay S F e.2))⟩:=rfl
 refine VO.Jo (B:=B) (D:=D) (v:=199) (d2:=36) (M:=M + M) (mm:=ay S F e.2 - ae e.1 (ay S F e.2)) (q:=q) kk rfl rfl rfl (fk Tryz.func73) rfl rfl rfl (by show 36 < 2 * 99;omega) bW rfl (fun _=>rfl) (fun j hj=> ?_) (bu rfl) (fun wi LD Nn=>hV.kp (aO B) aU) (fun wi LD Nn=>q6.kr) g7 g8 g9 (fun p hp=>⟨(Af.el p hp).1,(Af.el p hp).2.1,(Af.el p hp).2.2.1⟩) (fun x h1 h2 h3=>hK x h1 dp h3) Eb lB hB (fun w7 r7 TM nq1 cq1 TN TP TQ k7 b7 q7 hun hV1=> ?_) (fun w7 r7 TM nq1 cq1 TN TP TQ un uc vsu1 spu1 k7 b7 q7 hV1 hU1=> ?_)
 ·have:j=200:=by simpa [ax,AV.cT] using hj
  subst this;intro h;cases h
 ·obtain ⟨s7,p7,n7,c7,t7,y7,m7,d7,rfl⟩:=q7.form
  refine wV rfl ?_
  refine af ?_
  have Ca:([]:List Uq)++qH rows.length q (ay S F e.2 - ae e.1 (ay S F e.2))=[]:=hun
  obtain ⟨u1,u2,u3⟩:=xm (q:=q) (m:=ay S F e.2 - ae e.1 (ay S F e.2)) (fun p hp=>⟨(Af.el p hp).1,(Af.el p hp).2.1⟩) g7 g8
  refine VO.call rfl rfl (fk Tryz.func16) (fun sD Fc wj=>((fx _ _ (ae e.1 (ay S F e.2)) (uh q (ay S F e.2 - ae e.1 (ay S F e.2))) kk kk sD (q4.ki (hK _ g1 dp dp)) (q7.ki (hK _ u1 dp dp)) ab ab).mono (fun o w2 h=>And.intro h wj.1.size)).mono ?_)
  rintro o w8 ⟨⟨r8,rfl,q8,qf⟩,CU⟩
  obtain ⟨s8,p8,n8,c8,t8,y8,m8,d8,rfl⟩:=q8.form
  refine ⟨_,rfl,qf,fun wk _ Kd=>wV rfl ?_⟩
  replace q8:=q8.mono (Nat.le_trans hB CU)
  refine af ?_
  have Ng:((0:Int):Rat)=0:=rfl
  have Fx:eI B w8 [.bool s1,.slice p1 n1 c1,.bool t1,.slice y1 m1 d1,.bool s4,.slice p4 n4 c4,.bool t4,.slice y4 m4 d4,.bool s5,.slice p5 n5 c5,.bool t5,.slice y5 m5 d5,.bool s7,.slice p7 n7 c7,.bool t7,.slice y7 m7 d7,.bool s8,.slice p8 n8 c8,.bool t8,.slice y8 m8 d8,.bool s2,.slice p2 n2 c2,.bool t2,.slice y2 m2 d2,.bool s3,.slice p3 n3 c3,.bool t3,.slice y3 m3 d3] (eG S F q e):=⟨[.bool s1,.slice p1 n1 c1,.bool t1,.slice y1 m1 d1],[.bool s4,.slice p4 n4 c4,.bool t4,.slice y4 m4 d4],[.bool s5,.slice p5 n5 c5,.bool t5,.slice y5 m5 d5],[.bool s7,.slice p7 n7 c7,.bool t7,.slice y7 m7 d7],[.bool s8,.slice p8 n8 c8,.bool t8,.slice y8 m8 d8],[.bool s2,.slice p2 n2 c2,.bool t2,.slice y2 m2 d2],[.bool s3,.slice p3 n3 c3,.bool t3,.slice y3 m3 d3],rfl,⟨_,_,_,_,_,_,_,_,rfl,q1.k⟩,⟨_,_,_,_,_,_,_,_,rfl,q4.k⟩,⟨_,_,_,_,_,_,_,_,rfl,q5.k⟩,⟨_,_,_,_,_,_,_,_,rfl,q7.k⟩,⟨_,_,_,_,_,_,_,_,rfl,q8.k⟩,⟨_,_,_,_,_,_,_,_,rfl,q2.k⟩,⟨_,_,_,_,_,_,_,_,rfl,q3.k⟩⟩
  obtain ⟨jA,kE⟩:=hR.el.ok (aA B)
  have pj:=hR.len
  refine VO.app (bF _ _) (t:=33) (e:=eT) (sz:=28) (n:=nr) (c:=cr) (mm:=1) (known:=kM.flatten.map .val) (spare:=nH.map .val) (del:=some 200) (news:=([.bool s1,.slice p1 n1 c1,.bool t1,.slice y1 m1 d1,.bool s4,.slice p4 n4 c4,.bool t4,.slice y4 m4 d4,.bool s5,.slice p5 n5 c5,.bool t5,.slice y5 m5 d5,.bool s7,.slice p7 n7 c7,.bool t7,.slice y7 m7 d7,.bool s8,.slice p8 n8 c8,.bool t8,.slice y8 m8 d8,.bool s2,.slice p2 n2 c2,.bool t2,.slice y2 m2 d2,.bool s3,.slice p3 n3 c3,.bool t3,.slice y3 m3 d3]:List Value).map .val) (dst:=52) rfl rfl rfl rfl rfl rfl rfl rfl (bu rfl) rfl (.inr ⟨200,rfl,congrArg (fun l=>some (eT,l)) (List.map_append ..),rfl⟩) (.inl rfl) (by rw [List.length_map,kE,pj]) (by rw [<-List.map_append,List.length_map];exact hR.fl) hR.le hR.cm ⟨ai _,ai _,rfl⟩ ⟨bh jA,bh hR.so,rfl⟩ rfl ab
   (fun w1 β k1 b1 ho=>⟨_,_,rfl,.inr ⟨β 51,0,rfl,df (rest:=[]) (ho.own 51 (.base (List.mem_append_right _ (List.mem_singleton.2 rfl))) _ _ rfl) rfl⟩⟩)
   (fun qG iz oi ρ Nk Nl fJ jS iB ek Fy jP=>VO.dI 199 rfl (cL (ai _) _ _) (wV rfl ?_))
  (repeat (first | refine wN ?_ | refine wP rfl ?_ | refine DU rfl ?_ | refine wO rfl rfl ?_))
  obtain ⟨qJ,vI⟩:∃ qJ,qJ=nr + 1:=⟨_,rfl⟩
  obtain ⟨sX,vJ⟩:∃ sX,sX=(kM++[[.bool s1,.slice p1 n1 c1,.bool t1,.slice y1 m1 d1,.bool s4,.slice p4 n4 c4,.bool t4,.slice y4 m4 d4,.bool s5,.slice p5 n5 c5,.bool t5,.slice y5 m5 d5,.bool s7,.slice p7 n7 c7,.bool t7,.slice y7 m7 d7,.bool s8,.slice p8 n8 c8,.bool t8,.slice y8 m8 d8,.bool s2,.slice p2 n2 c2,.bool t2,.slice y2 m2 d2,.bool s3,.slice p3 n3 c3,.bool t3,.slice y3 m3 d3]]:List (List Value)):=⟨_,rfl⟩
  have gB:qA (eI B) 28 qG qJ iz sX oi (rows++[eG S F q e]):=by rw [vI,vJ];exact ⟨by rw [pj,List.length_append];rfl,(hR.el.kp (aA B) aU).snoc ((aA B).kp Fx aU),Fy,jP,jS,iB,by simpa using ek⟩
  refine VS.narrow [(0,.box 198 0),(2,.val (.int .i64 ((rows:List aM).length:Int))),(5,.box 5 0),(8,.box 8 0)] [(198,(Runner,[.row 199 TM nq1 cq1,.row 52 0 qJ iz,.val (.slice none 0 0)])),(52,(eT,sX.flatten.map AV.val++oi)),(5,(28,([.bool sS,.slice pS nS cS,.bool tS,.slice yS mS dS,.bool sF,.slice pF nF cF,.bool tF,.slice yF mF dF,.int .i64 (keep:Int)]:List Value).map AV.val)),(8,(eT,([.bool s1,.slice p1 n1 c1,.bool t1,.slice y1 m1 d1,.bool s4,.slice p4 n4 c4,.bool t4,.slice y4 m4 d4,.bool s5,.slice p5 n5 c5,.bool t5,.slice y5 m5 d5,.bool s7,.slice p7 n7 c7,.bool t7,.slice y7 m7 d7,.bool s8,.slice p8 n8 c8,.bool t8,.slice y8 m8 d8,.bool s2,.slice p2 n2 c2,.bool t2,.slice y2 m2 d2,.bool s3,.slice p3 n3 c3,.bool t3,.slice y3 m3 d3]:List Value).map AV.val)),(199,(dG,(TN++(TP.flatten++TQ)).map AV.val))] ⟨rfl,rfl,rfl,rfl,trivial⟩ ⟨by rw [vI];rfl,by rw [vJ];exact congrArg (fun l=>some (eT,l++oi)) cw,rfl,rfl,rfl,trivial⟩ rfl ⟨.lit rfl,.append (.vals _) (.none jP),.vals _,.vals _,.vals _,trivial⟩ ?_
  refine VS.draw (bF _ _) (mc _ _) [1000000 + 74] (by kernel_rfl) (VO.run 80 rfl ?_)
  have TR:nq1≤1000:=by rw [hV1.len];have:=(BZ rows.length q (ay S F e.2 - ae e.1 (ay S F e.2))).2;omega
  refine VO.BR (B:=B) (v:=199) (d2:=62) (d:=e.1 - ae e.1 (ay S F e.2)) (q:=ny q (ay S F e.2 - ae e.1 (ay S F e.2))) kk rfl rfl rfl (fk Tryz.func74) rfl rfl rfl (by show 62 < 2 * 99;omega) bW (fun j hj=> ?_) rfl (fun wi LD Nn=>hV1.kp (aO B) aU) (fun wi LD Nn=>q5.kr) (hK _ g4 dp dp) Eb TR hB (fun CV gH nz qF mZ LG Np ρ19 k19 b19 gM=> ?_)
  ·have:j=52:=by simpa [ax,AV.cT] using hj
   subst this;exact ⟨(by intro h;cases h),by decide⟩
  obtain ⟨q2,vK⟩:∃ q2:List Vq,q2=mY rows.length (e.1 - ae e.1 (ay S F e.2)) (ny q (ay S F e.2 - ae e.1 (ay S F e.2))):=⟨_,rfl⟩
  rw [<-vK] at gM
  have zI:=vK.symm
  refine VO.dI 52 rfl (cL (by rw [cU,ai,jP];rfl) _ _) (wV rfl ?_)
  refine af ?_
  by_cases og:nz=0
  ·refine VO.dU (x:=.row 62 gH nz qF) (p:=fun _=>none) (c:=qF) rfl (fun β=>.inr ⟨_,congrArg (fun n=>Value.slice (some ⟨β 62,gH,none⟩) n qF) og⟩) rfl (fk Tryz.func75) rfl (fun Kg TG TH=>wV rfl ?_)
   refine af ?_
   have Fz:q2=[]:=List.eq_nil_of_length_eq_zero (by rw [<-gM.len];exact og)
   have sI:eC S F keep (rows:List aM).length ⟨q,rows,[]⟩ e=⟨q2,rows++[eG S F q e],[]⟩:=by rw [oT,zI,Ca,Fz];rfl
   refine af ?_
   refine VS.mX (bF _ _) rfl (fun wz β kz oz en=> ?_)
   obtain ⟨o1,o2⟩:=fo (en.own 198 _ _ rfl) 0 g rfl rfl
   have oR:=(en.own 52 _ _ rfl).cls
   rw [List.map_append,ah] at oR
   have nR:=gr hB eZ (show dm 99 [g,vb,rb] w 52 (β 52) from (en.own 52 _ _ rfl).new)
   have oV:=(en.own 62 _ _ rfl).cls
   rw [ah] at oV
   have nV:=gr hB eZ (show dm 99 [g,vb,rb] w 62 (β 62) from (en.own 62 _ _ rfl).new)
   rw [sI]
   refine ⟨rfl,oz.1,[g,β 62,β 52],⟨fun b hb=> ?_,_,_,_,o2,?_⟩⟩
   ·simp only [List.mem_cons,List.not_mem_nil,or_false] at hb
    rcases hb with rfl | rfl | rfl
    ·exact Ek
    ·exact nV
    ·exact nR
   ·exact .inr (.inr (.inl ⟨β 62,β 52,rfl,rfl,rfl,⟨_,_,_,_,_,_,rfl,oV,gM.kp (aO B) aU⟩,⟨_,_,_,_,rfl,oR,(gB.kp (aA B) aU).o β⟩⟩))
  obtain ⟨pp,qt,Gv⟩:∃ pp qt,q2=pp::qt:=by
   cases q2 with
   | nil=>exact absurd gM.len og
   | cons pp qt=>exact ⟨pp,qt,rfl⟩
  subst Gv
  obtain ⟨FA,Ag,rfl,hE4,vL⟩:∃ FA Ag,LG=FA::Ag/\dz B CV FA pp/\bL (dz B) CV qt Ag:=by
   have:=gM.el
   cases this with
   | cons h1 h2=>exact ⟨_,_,rfl,h1,h2⟩
  obtain ⟨s9,p9,n9,c9,t9,y9,m9,d9,rfl,Qc⟩:=hE4
  have FD:=gM.le
  have FE:=gM.len
  have FF:=gM.cm
  have lR:mZ.length=gH:=gM.pl.resolve_right ab
  refine VO.dA rfl rfl (fk Tryz.func75) rfl og (by intro h;cases h) (fun Kg TG TH=>wV rfl ?_)
  refine af ?_
  refine VO.cW rfl (([.int .i64 (pp.1:Int)]:List Value).map .val) rfl (bC lR 0 _ ⟨_,rfl⟩) (wV rfl ?_)
  refine af ?_
  have Nq:IntKind.i64.wrap (((rows:List aM).length:Int) - (keep:Int))=((rows:List aM).length:Int) - (keep:Int):=IntWalk.i64_in _ ab
  by_cases hx:pp.1 + keep=(rows:List aM).length
  ·refine VS.aP rfl (by rw [Nq,beq_iff_eq];omega) ?_
   refine af ?_
   refine VO.cW rfl (([.int .i64 (pp.1:Int)]:List Value).map .val) rfl (bC lR 0 _ ⟨_,rfl⟩) (wV rfl ?_)
   refine af ?_
   refine VO.cW rfl (([.bool s9,.slice p9 n9 c9,.bool t9,.slice y9 m9 d9]:List Value).map .val) rfl (bC lR 1 _ ⟨[],rfl⟩) (wV rfl ?_)
   refine af ?_
   have gu:=gB.len
   have DJ:pp.1 < qJ:=by rw [gu,List.length_append,List.length_singleton];omega
   refine VO.cond rfl dw (wV rfl ?_)
   obtain ⟨rq,El⟩:∃ rq,(rows++[eG S F q e])[pp.1]? =some rq:=⟨_,List.getElem?_eq_getElem (by rw [<-gu];exact DJ)⟩
   obtain ⟨yA,qB,ui⟩:=gB.el.at pp.1 rq El
   have ja:=gB.fl
   have Qd:=gB.le
   refine VO.cond rfl (by show 0 + ((pp.1:Int)).toNat * 28 + 20 + 4≤_;rw [ja,Int.toNat_natCast];omega) (VO.dI 52 rfl (mJ (new:=[.bool s9,.slice p9 n9 c9,.bool t9,.slice y9 m9 d9]) (o:=20) (gB.el.lens (aA B)) qB (bu rfl)) (wV rfl ?_))
   refine af ?_
   have hR3:qA (eI B) 28 Kg qJ iz (sX.set pp.1 (yA.take 20++([.bool s9,.slice p9 n9 c9,.bool t9,.slice y9 m9 d9]++yA.drop (20 + ([.bool s9,.slice p9 n9 c9,.bool t9,.slice y9 m9 d9]:List Value).length)))) oi ((rows++[eG S F q e]).modify pp.1 (fun r=>{ r with ao:=pp.2 })):=
    ⟨by rw [List.length_modify];exact gu,by rw [ew El];exact (gB.el.kp (aA B) aU).set (rL ((aA B).kp ui aU) ⟨_,_,_,_,_,_,_,_,rfl,Qc.kp aU⟩),gB.so,gB.sl,gB.le,gB.cm,by
     rw [List.length_append,List.length_map,dB (mK (gB.el.lens (aA B)) (vG ((aA B).len ui) rfl)),List.length_set]
     rw [List.length_append,List.length_map,dB (gB.el.lens (aA B))] at ja
     exact ja⟩
   refine VO.jO rfl rfl (fk Tryz.func76) rfl ab FD FF (fun j hj=> ?_) (bu rfl) (fun Qe k21 b21=>wV rfl ?_)
   ·simp only [ax,AV.cT,List.flatMap_cons,List.flatMap_nil,List.mem_append,List.mem_cons,List.not_mem_nil,or_false,List.append_nil] at hj
    rcases hj with rfl | rfl <;> (intro h;cases h)
   refine af ?_
   have hV4:dT (dz B) 5 Qe (nz - 1) (if qF=1 then gH else gH + 5) (qF - 1) (mZ++[.int .i64 (pp.1:Int),.bool s9,.slice p9 n9 c9,.bool t9,.slice y9 m9 d9]) Ag Np qt:=⟨by rw [FE];rfl,pV lR,by rw [List.all_append,gM.po];rfl,vL.kp (aO B) aU,gM.so,by omega,by omega,pW gM.fl⟩
   have sI:eC S F keep (rows:List aM).length ⟨q,rows,[]⟩ e=⟨qt,(rows++[eG S F q e]).modify pp.1 (fun r=>{ r with ao:=pp.2 }),[]⟩:=by
    rw [oT,zI,Ca]
    exact if_pos hx
   refine af ?_
   refine VS.mX (bF _ _) rfl (fun wz β kz oz en=> ?_)
   obtain ⟨o1,o2⟩:=fo (en.own 198 _ _ rfl) 0 g rfl rfl
   have oR:=(en.own 52 _ _ rfl).cls
   rw [List.map_append,ah] at oR
   have nR:=gr hB eZ (show dm 99 [g,vb,rb] w 52 (β 52) from (en.own 52 _ _ rfl).new)
   have oV:=(en.own 62 _ _ rfl).cls
   rw [eN,ah] at oV
   have nV:=gr hB eZ (show dm 99 [g,vb,rb] w 62 (β 62) from (en.own 62 _ _ rfl).new)
   rw [sI]
   refine ⟨rfl,oz.1,[g,β 62,β 52],⟨fun b hb=> ?_,_,_,_,o2,?_⟩⟩
   ·simp only [List.mem_cons,List.not_mem_nil,or_false] at hb
    rcases hb with rfl | rfl | rfl
    ·exact Ek
    ·exact nV
    ·exact nR
   ·exact .inr (.inr (.inl ⟨β 62,β 52,rfl,rfl,rfl,⟨_,_,_,_,_,_,rfl,oV,hV4.kp (aO B) aU⟩,⟨_,_,_,_,rfl,oR,(hR3.kp (aA B) aU).o β⟩⟩))
  ·refine VS.aQ rfl (by rw [Nq,beq_eq_false_iff_ne];omega) ?_
   have sI:eC S F keep (rows:List aM).length ⟨q,rows,[]⟩ e=⟨pp::qt,rows++[eG S F q e],[]⟩:=by
    rw [oT,zI,Ca]
    exact if_neg hx
   refine af ?_
   refine VS.mX (bF _ _) rfl (fun wz β kz oz en=> ?_)
   obtain ⟨o1,o2⟩:=fo (en.own 198 _ _ rfl) 0 g rfl rfl
   have oR:=(en.own 52 _ _ rfl).cls
   rw [List.map_append,ah] at oR
   have nR:=gr hB eZ (show dm 99 [g,vb,rb] w 52 (β 52) from (en.own 52 _ _ rfl).new)
   have oV:=(en.own 62 _ _ rfl).cls
   rw [ah] at oV
   have nV:=gr hB eZ (show dm 99 [g,vb,rb] w 62 (β 62) from (en.own 62 _ _ rfl).new)
   rw [sI]
   refine ⟨rfl,oz.1,[g,β 62,β 52],⟨fun b hb=> ?_,_,_,_,o2,?_⟩⟩
   ·simp only [List.mem_cons,List.not_mem_nil,or_false] at hb
    rcases hb with rfl | rfl | rfl
    ·exact Ek
    ·exact nV
    ·exact nR
   ·exact .inr (.inr (.inl ⟨β 62,β 52,rfl,rfl,rfl,⟨_,_,_,_,_,_,rfl,oV,gM.kp (aO B) aU⟩,⟨_,_,_,_,rfl,oR,(gB.kp (aA B) aU).o β⟩⟩))
 ·obtain ⟨s7,p7,n7,c7,t7,y7,m7,d7,rfl⟩:=q7.form
  refine wV rfl ?_
  refine af ?_
  obtain ⟨Rc,Hk⟩:∃ Rc,Rc=qH rows.length q (ay S F e.2 - ae e.1 (ay S F e.2)):=⟨_,rfl⟩
  rw [<-Hk] at hU1
  have Ca:([]:List Uq)++qH rows.length q (ay S F e.2 - ae e.1 (ay S F e.2))=Rc:=Hk.symm
  have Ct:=hU1
  obtain ⟨u1,u2,u3⟩:=xm (q:=q) (m:=ay S F e.2 - ae e.1 (ay S F e.2)) (fun p hp=>⟨(Af.el p hp).1,(Af.el p hp).2.1⟩) g7 g8
  refine VO.call rfl rfl (fk Tryz.func16) (fun sD Fc wj=>((fx _ _ (ae e.1 (ay S F e.2)) (uh q (ay S F e.2 - ae e.1 (ay S F e.2))) kk kk sD (q4.ki (hK _ g1 dp dp)) (q7.ki (hK _ u1 dp dp)) ab ab).mono (fun o w2 h=>And.intro h wj.1.size)).mono ?_)
  rintro o w8 ⟨⟨r8,rfl,q8,qf⟩,CU⟩
  obtain ⟨s8,p8,n8,c8,t8,y8,m8,d8,rfl⟩:=q8.form
  refine ⟨_,rfl,qf,fun wk _ Kd=>wV rfl ?_⟩
  replace q8:=q8.mono (Nat.le_trans hB CU)
  refine af ?_
  have Ng:((0:Int):Rat)=0:=rfl
  have Fx:eI B w8 [.bool s1,.slice p1 n1 c1,.bool t1,.slice y1 m1 d1,.bool s4,.slice p4 n4 c4,.bool t4,.slice y4 m4 d4,.bool s5,.slice p5 n5 c5,.bool t5,.slice y5 m5 d5,.bool s7,.slice p7 n7 c7,.bool t7,.slice y7 m7 d7,.bool s8,.slice p8 n8 c8,.bool t8,.slice y8 m8 d8,.bool s2,.slice p2 n2 c2,.bool t2,.slice y2 m2 d2,.bool s3,.slice p3 n3 c3,.bool t3,.slice y3 m3 d3] (eG S F q e):=⟨[.bool s1,.slice p1 n1 c1,.bool t1,.slice y1 m1 d1],[.bool s4,.slice p4 n4 c4,.bool t4,.slice y4 m4 d4],[.bool s5,.slice p5 n5 c5,.bool t5,.slice y5 m5 d5],[.bool s7,.slice p7 n7 c7,.bool t7,.slice y7 m7 d7],[.bool s8,.slice p8 n8 c8,.bool t8,.slice y8 m8 d8],[.bool s2,.slice p2 n2 c2,.bool t2,.slice y2 m2 d2],[.bool s3,.slice p3 n3 c3,.bool t3,.slice y3 m3 d3],rfl,⟨_,_,_,_,_,_,_,_,rfl,q1.k⟩,⟨_,_,_,_,_,_,_,_,rfl,q4.k⟩,⟨_,_,_,_,_,_,_,_,rfl,q5.k⟩,⟨_,_,_,_,_,_,_,_,rfl,q7.k⟩,⟨_,_,_,_,_,_,_,_,rfl,q8.k⟩,⟨_,_,_,_,_,_,_,_,rfl,q2.k⟩,⟨_,_,_,_,_,_,_,_,rfl,q3.k⟩⟩
  obtain ⟨jA,kE⟩:=hR.el.ok (aA B)
  have pj:=hR.len
  refine VO.app (bF _ _) (t:=33) (e:=eT) (sz:=28) (n:=nr) (c:=cr) (mm:=1) (known:=kM.flatten.map .val) (spare:=nH.map .val) (del:=some 200) (news:=([.bool s1,.slice p1 n1 c1,.bool t1,.slice y1 m1 d1,.bool s4,.slice p4 n4 c4,.bool t4,.slice y4 m4 d4,.bool s5,.slice p5 n5 c5,.bool t5,.slice y5 m5 d5,.bool s7,.slice p7 n7 c7,.bool t7,.slice y7 m7 d7,.bool s8,.slice p8 n8 c8,.bool t8,.slice y8 m8 d8,.bool s2,.slice p2 n2 c2,.bool t2,.slice y2 m2 d2,.bool s3,.slice p3 n3 c3,.bool t3,.slice y3 m3 d3]:List Value).map .val) (dst:=52) rfl rfl rfl rfl rfl rfl rfl rfl (bu rfl) rfl (.inr ⟨200,rfl,congrArg (fun l=>some (eT,l)) (List.map_append ..),rfl⟩) (.inl rfl) (by rw [List.length_map,kE,pj]) (by rw [<-List.map_append,List.length_map];exact hR.fl) hR.le hR.cm ⟨ai _,ai _,rfl⟩ ⟨bh jA,bh hR.so,rfl⟩ rfl ab
   (fun w1 β k1 b1 ho=>⟨_,_,rfl,.inr ⟨β 51,0,rfl,df (rest:=[]) (ho.own 51 (.base (List.mem_append_right _ (List.mem_singleton.2 rfl))) _ _ rfl) rfl⟩⟩)
   (fun qG iz oi ρ Nk Nl fJ jS iB ek Fy jP=>VO.dI 199 rfl (cL (ai _) _ _) (VO.dI 36 rfl (cL (ai _) _ _) (wV rfl ?_)))
  (repeat (first | refine wN ?_ | refine wP rfl ?_ | refine DU rfl ?_ | refine wO rfl rfl ?_))
  obtain ⟨qJ,vI⟩:∃ qJ,qJ=nr + 1:=⟨_,rfl⟩
  obtain ⟨sX,vJ⟩:∃ sX,sX=(kM++[[.bool s1,.slice p1 n1 c1,.bool t1,.slice y1 m1 d1,.bool s4,.slice p4 n4 c4,.bool t4,.slice y4 m4 d4,.bool s5,.slice p5 n5 c5,.bool t5,.slice y5 m5 d5,.bool s7,.slice p7 n7 c7,.bool t7,.slice y7 m7 d7,.bool s8,.slice p8 n8 c8,.bool t8,.slice y8 m8 d8,.bool s2,.slice p2 n2 c2,.bool t2,.slice y2 m2 d2,.bool s3,.slice p3 n3 c3,.bool t3,.slice y3 m3 d3]]:List (List Value)):=⟨_,rfl⟩
  have gB:qA (eI B) 28 qG qJ iz sX oi (rows++[eG S F q e]):=by rw [vI,vJ];exact ⟨by rw [pj,List.length_append];rfl,(hR.el.kp (aA B) aU).snoc ((aA B).kp Fx aU),Fy,jP,jS,iB,by simpa using ek⟩
  refine VS.narrow [(0,.box 198 0),(2,.val (.int .i64 ((rows:List aM).length:Int))),(5,.box 5 0),(8,.box 8 0)] [(198,(Runner,[.row 199 TM nq1 cq1,.row 52 0 qJ iz,.row 36 0 un uc])),(52,(eT,sX.flatten.map AV.val++oi)),(5,(28,([.bool sS,.slice pS nS cS,.bool tS,.slice yS mS dS,.bool sF,.slice pF nF cF,.bool tF,.slice yF mF dF,.int .i64 (keep:Int)]:List Value).map AV.val)),(8,(eT,([.bool s1,.slice p1 n1 c1,.bool t1,.slice y1 m1 d1,.bool s4,.slice p4 n4 c4,.bool t4,.slice y4 m4 d4,.bool s5,.slice p5 n5 c5,.bool t5,.slice y5 m5 d5,.bool s7,.slice p7 n7 c7,.bool t7,.slice y7 m7 d7,.bool s8,.slice p8 n8 c8,.bool t8,.slice y8 m8 d8,.bool s2,.slice p2 n2 c2,.bool t2,.slice y2 m2 d2,.bool s3,.slice p3 n3 c3,.bool t3,.slice y3 m3 d3]:List Value).map AV.val)),(199,(dG,(TN++(TP.flatten++TQ)).map AV.val)),(36,(fy,(vsu1.flatten++spu1).map AV.val))] ⟨rfl,rfl,rfl,rfl,trivial⟩ ⟨by rw [vI];rfl,by rw [vJ];exact congrArg (fun l=>some (eT,l++oi)) cw,rfl,rfl,rfl,rfl,trivial⟩ rfl ⟨.lit rfl,.append (.vals _) (.none jP),.vals _,.vals _,.vals _,.vals _,trivial⟩ ?_
  refine VS.draw (bF _ _) (mc _ _) [1000000 + 74] (by kernel_rfl) (VO.run 80 rfl ?_)
  have TR:nq1≤1000:=by rw [hV1.len];have:=(BZ rows.length q (ay S F e.2 - ae e.1 (ay S F e.2))).2;omega
  refine VO.BR (B:=B) (v:=199) (d2:=62) (d:=e.1 - ae e.1 (ay S F e.2)) (q:=ny q (ay S F e.2 - ae e.1 (ay S F e.2))) kk rfl rfl rfl (fk Tryz.func74) rfl rfl rfl (by show 62 < 2 * 99;omega) bW (fun j hj=> ?_) rfl (fun wi LD Nn=>hV1.kp (aO B) aU) (fun wi LD Nn=>q5.kr) (hK _ g4 dp dp) Eb TR hB (fun CV gH nz qF mZ LG Np ρ19 k19 b19 gM=> ?_)
  ·have:j=52\/j=36:=by simpa [ax,AV.cT] using hj
   rcases this with rfl | rfl <;> exact ⟨(by intro h;cases h),by decide⟩
  obtain ⟨q2,vK⟩:∃ q2:List Vq,q2=mY rows.length (e.1 - ae e.1 (ay S F e.2)) (ny q (ay S F e.2 - ae e.1 (ay S F e.2))):=⟨_,rfl⟩
  rw [<-vK] at gM
  have zI:=vK.symm
  refine VO.dI 52 rfl (cL (by rw [cU,ai,jP];rfl) _ _) (VO.dI 36 rfl (cL (ai _) _ _) (wV rfl ?_))
  refine af ?_
  by_cases og:nz=0
  ·refine VO.dU (x:=.row 62 gH nz qF) (p:=fun _=>none) (c:=qF) rfl (fun β=>.inr ⟨_,congrArg (fun n=>Value.slice (some ⟨β 62,gH,none⟩) n qF) og⟩) rfl (fk Tryz.func75) rfl (fun Kg TG TH=>wV rfl ?_)
   refine af ?_
   have Fz:q2=[]:=List.eq_nil_of_length_eq_zero (by rw [<-gM.len];exact og)
   have sI:eC S F keep (rows:List aM).length ⟨q,rows,[]⟩ e=⟨q2,rows++[eG S F q e],Rc⟩:=by rw [oT,zI,Ca,Fz];rfl
   refine af ?_
   refine VS.mX (bF _ _) rfl (fun wz β kz oz en=> ?_)
   obtain ⟨o1,o2⟩:=fo (en.own 198 _ _ rfl) 0 g rfl rfl
   have oR:=(en.own 52 _ _ rfl).cls
   rw [List.map_append,ah] at oR
   have nR:=gr hB eZ (show dm 99 [g,vb,rb] w 52 (β 52) from (en.own 52 _ _ rfl).new)
   have oV:=(en.own 62 _ _ rfl).cls
   rw [ah] at oV
   have nV:=gr hB eZ (show dm 99 [g,vb,rb] w 62 (β 62) from (en.own 62 _ _ rfl).new)
   have oU:=(en.own 36 _ _ rfl).cls
   rw [ah] at oU
   have nU:=gr hB eZ (show dm 99 [g,vb,rb] w 36 (β 36) from (en.own 36 _ _ rfl).new)
   rw [sI]
   refine ⟨rfl,oz.1,[g,β 62,β 52,β 36],⟨fun b hb=> ?_,_,_,_,o2,?_⟩⟩
   ·simp only [List.mem_cons,List.not_mem_nil,or_false] at hb
    rcases hb with rfl | rfl | rfl | rfl
    ·exact Ek
    ·exact nV
    ·exact nR
    ·exact nU
   ·exact .inr (.inr (.inr ⟨β 62,β 52,β 36,rfl,⟨_,_,_,_,_,_,rfl,oV,gM.kp (aO B) aU⟩,⟨_,_,_,_,rfl,oR,(gB.kp (aA B) aU).o β⟩,⟨_,_,_,_,rfl,oU,Ct.kp (eh B) aU⟩⟩))
  obtain ⟨pp,qt,Gv⟩:∃ pp qt,q2=pp::qt:=by
   cases q2 with
   | nil=>exact absurd gM.len og
   | cons pp qt=>exact ⟨pp,qt,rfl⟩
  subst Gv
  obtain ⟨FA,Ag,rfl,hE4,vL⟩:∃ FA Ag,LG=FA::Ag/\dz B CV FA pp/\bL (dz B) CV qt Ag:=by
   have:=gM.el
   cases this with
   | cons h1 h2=>exact ⟨_,_,rfl,h1,h2⟩
  obtain ⟨s9,p9,n9,c9,t9,y9,m9,d9,rfl,Qc⟩:=hE4
  have FD:=gM.le
  have FE:=gM.len
  have FF:=gM.cm
  have lR:mZ.length=gH:=gM.pl.resolve_right ab
  refine VO.dA rfl rfl (fk Tryz.func75) rfl og (by intro h;cases h) (fun Kg TG TH=>wV rfl ?_)
  refine af ?_
  refine VO.cW rfl (([.int .i64 (pp.1:Int)]:List Value).map .val) rfl (bC lR 0 _ ⟨_,rfl⟩) (wV rfl ?_)
  refine af ?_
  have Nq:IntKind.i64.wrap (((rows:List aM).length:Int) - (keep:Int))=((rows:List aM).length:Int) - (keep:Int):=IntWalk.i64_in _ ab
  by_cases hx:pp.1 + keep=(rows:List aM).length
  ·refine VS.aP rfl (by rw [Nq,beq_iff_eq];omega) ?_
   refine af ?_
   refine VO.cW rfl (([.int .i64 (pp.1:Int)]:List Value).map .val) rfl (bC lR 0 _ ⟨_,rfl⟩) (wV rfl ?_)
   refine af ?_
   refine VO.cW rfl (([.bool s9,.slice p9 n9 c9,.bool t9,.slice y9 m9 d9]:List Value).map .val) rfl (bC lR 1 _ ⟨[],rfl⟩) (wV rfl ?_)
   refine af ?_
   have gu:=gB.len
   have DJ:pp.1 < qJ:=by rw [gu,List.length_append,List.length_singleton];omega
   refine VO.cond rfl dw (wV rfl ?_)
   obtain ⟨rq,El⟩:∃ rq,(rows++[eG S F q e])[pp.1]? =some rq:=⟨_,List.getElem?_eq_getElem (by rw [<-gu];exact DJ)⟩
   obtain ⟨yA,qB,ui⟩:=gB.el.at pp.1 rq El
   have ja:=gB.fl
   have Qd:=gB.le
   refine VO.cond rfl (by show 0 + ((pp.1:Int)).toNat * 28 + 20 + 4≤_;rw [ja,Int.toNat_natCast];omega) (VO.dI 52 rfl (mJ (new:=[.bool s9,.slice p9 n9 c9,.bool t9,.slice y9 m9 d9]) (o:=20) (gB.el.lens (aA B)) qB (bu rfl)) (wV rfl ?_))
   refine af ?_
   have hR3:qA (eI B) 28 Kg qJ iz (sX.set pp.1 (yA.take 20++([.bool s9,.slice p9 n9 c9,.bool t9,.slice y9 m9 d9]++yA.drop (20 + ([.bool s9,.slice p9 n9 c9,.bool t9,.slice y9 m9 d9]:List Value).length)))) oi ((rows++[eG S F q e]).modify pp.1 (fun r=>{ r with ao:=pp.2 })):=
    ⟨by rw [List.length_modify];exact gu,by rw [ew El];exact (gB.el.kp (aA B) aU).set (rL ((aA B).kp ui aU) ⟨_,_,_,_,_,_,_,_,rfl,Qc.kp aU⟩),gB.so,gB.sl,gB.le,gB.cm,by
     rw [List.length_append,List.length_map,dB (mK (gB.el.lens (aA B)) (vG ((aA B).len ui) rfl)),List.length_set]
     rw [List.length_append,List.length_map,dB (gB.el.lens (aA B))] at ja
     exact ja⟩
   refine VO.jO rfl rfl (fk Tryz.func76) rfl ab FD FF (fun j hj=> ?_) (bu rfl) (fun Qe k21 b21=>wV rfl ?_)
   ·simp only [ax,AV.cT,List.flatMap_cons,List.flatMap_nil,List.mem_append,List.mem_cons,List.not_mem_nil,or_false,List.append_nil] at hj
    rcases hj with rfl | rfl | rfl <;> (intro h;cases h)
   refine af ?_
   have hV4:dT (dz B) 5 Qe (nz - 1) (if qF=1 then gH else gH + 5) (qF - 1) (mZ++[.int .i64 (pp.1:Int),.bool s9,.slice p9 n9 c9,.bool t9,.slice y9 m9 d9]) Ag Np qt:=⟨by rw [FE];rfl,pV lR,by rw [List.all_append,gM.po];rfl,vL.kp (aO B) aU,gM.so,by omega,by omega,pW gM.fl⟩
   have sI:eC S F keep (rows:List aM).length ⟨q,rows,[]⟩ e=⟨qt,(rows++[eG S F q e]).modify pp.1 (fun r=>{ r with ao:=pp.2 }),Rc⟩:=by
    rw [oT,zI,Ca]
    exact if_pos hx
   refine af ?_
   refine VS.mX (bF _ _) rfl (fun wz β kz oz en=> ?_)
   obtain ⟨o1,o2⟩:=fo (en.own 198 _ _ rfl) 0 g rfl rfl
   have oR:=(en.own 52 _ _ rfl).cls
   rw [List.map_append,ah] at oR
   have nR:=gr hB eZ (show dm 99 [g,vb,rb] w 52 (β 52) from (en.own 52 _ _ rfl).new)
   have oV:=(en.own 62 _ _ rfl).cls
   rw [eN,ah] at oV
   have nV:=gr hB eZ (show dm 99 [g,vb,rb] w 62 (β 62) from (en.own 62 _ _ rfl).new)
   have oU:=(en.own 36 _ _ rfl).cls
   rw [ah] at oU
   have nU:=gr hB eZ (show dm 99 [g,vb,rb] w 36 (β 36) from (en.own 36 _ _ rfl).new)
   rw [sI]
   refine ⟨rfl,oz.1,[g,β 62,β 52,β 36],⟨fun b hb=> ?_,_,_,_,o2,?_⟩⟩
   ·simp only [List.mem_cons,List.not_mem_nil,or_false] at hb
    rcases hb with rfl | rfl | rfl | rfl
    ·exact Ek
    ·exact nV
    ·exact nR
    ·exact nU
   ·exact .inr (.inr (.inr ⟨β 62,β 52,β 36,rfl,⟨_,_,_,_,_,_,rfl,oV,hV4.kp (aO B) aU⟩,⟨_,_,_,_,rfl,oR,(hR3.kp (aA B) aU).o β⟩,⟨_,_,_,_,rfl,oU,Ct.kp (eh B) aU⟩⟩))
  ·refine VS.aQ rfl (by rw [Nq,beq_eq_false_iff_ne];omega) ?_
   have sI:eC S F keep (rows:List aM).length ⟨q,rows,[]⟩ e=⟨pp::qt,rows++[eG S F q e],Rc⟩:=by
    rw [oT,zI,Ca]
    exact if_neg hx
   refine af ?_
   refine VS.mX (bF _ _) rfl (fun wz β kz oz en=> ?_)
   obtain ⟨o1,o2⟩:=fo (en.own 198 _ _ rfl) 0 g rfl rfl
   have oR:=(en.own 52 _ _ rfl).cls
   rw [List.map_append,ah] at oR
   have nR:=gr hB eZ (show dm 99 [g,vb,rb] w 52 (β 52) from (en.own 52 _ _ rfl).new)
   have oV:=(en.own 62 _ _ rfl).cls
   rw [ah] at oV
   have nV:=gr hB eZ (show dm 99 [g,vb,rb] w 62 (β 62) from (en.own 62 _ _ rfl).new)
   have oU:=(en.own 36 _ _ rfl).cls
   rw [ah] at oU
   have nU:=gr hB eZ (show dm 99 [g,vb,rb] w 36 (β 36) from (en.own 36 _ _ rfl).new)
   rw [sI]
   refine ⟨rfl,oz.1,[g,β 62,β 52,β 36],⟨fun b hb=> ?_,_,_,_,o2,?_⟩⟩
   ·simp only [List.mem_cons,List.not_mem_nil,or_false] at hb
    rcases hb with rfl | rfl | rfl | rfl
    ·exact Ek
    ·exact nV
    ·exact nR
    ·exact nU
   ·exact .inr (.inr (.inr ⟨β 62,β 52,β 36,rfl,⟨_,_,_,_,_,_,rfl,oV,gM.kp (aO B) aU⟩,⟨_,_,_,_,rfl,oR,(gB.kp (aA B) aU).o β⟩,⟨_,_,_,_,rfl,oU,Ct.kp (eh B) aU⟩⟩))
set_option maxRecDepth 4000
set_option maxRecDepth 4000 in
theorem iYear_D {B g keep D kk ks:Nat} {M S F:Rat} {e:Rat×Rat} {vb off nq cq:Nat} {pre TK:List Value} {TL:List (List Value)} {rb nr cr:Nat} {kM:List (List Value)} {nH:List Value} {ub nu cu:Nat} {xn:List (List Value)} {yd:List Value} {q:List Vq} {rows:List aM} {uses:List Uq} {v u:Value} {w:World} (hg:bg w g Runner #[.slice (some ⟨vb,off,none⟩) nq cq,.slice (some ⟨rb,0,none⟩) nr cr,.slice (some ⟨ub,0,none⟩) nu cu]) (Gy:bg w vb dG (pre++(TL.flatten++TK)).toArray) (hV:dT (dz B) 5 w nq off cq pre TL TK q) (Em:bg w rb eT (kM.flatten++nH).toArray) (hR:dT (eI B) 28 w nr 0 cr [] kM nH rows) (hcU:bg w ub fy (xn.flatten++yd).toArray) (hU:dT (qy B) 6 w nu 0 cu [] xn yd uses)
  (yz:Lz w v S F keep ks) (Ra:YrV w u e ks) (vH:1≤ks) (CT:ks≤kk) (Eb:kk≤100000) (Ej:Iz D (ay S F e.2)) (tX:ay S F e.2≤M) (Rb:Iz D e.1) (iA: -M≤e.1) (Gx:e.1≤M) (hK:∀ x,Iz D x->-(M + M)≤x->x≤M + M->et x kk)
  (Af:Jq D M ⟨q,rows,uses⟩) (ya:(rows:List aM).length≤64) (yb:keep≤40) (hB:B≤w.heap.size) (eZ:∀ b∈[g,vb,rb,ub],B≤b):
  Calls Tryz.prog 39 #[.pointer (some ⟨g,0,none⟩),v,.int .i64 ((rows:List aM).length:Int),u] w fun o w'=>o=.returned (jc [])/\tw [g,vb,rb,ub] w w'/\∃ TF,qj B w' g TF (eC S F keep (rows:List aM).length ⟨q,rows,uses⟩ e):=by
 have hL0:=lQ S F e.2
 have hM0:0≤M:=by grind
 obtain ⟨g1,g2,g3,g4,g5,g6,g7,g8,g9⟩:=nD Ej hL0 tX Rb iA Gx
 have Ek:B≤g:=eZ g cw
 have hlen:=Af.len
 obtain ⟨sS,pS,nS,cS,tS,yS,mS,dS,sF,pF,nF,cF,tF,yF,mF,dF,rfl,hS,hF⟩:=yz
 obtain ⟨sN,pN,nN,cN,tN,yN,mN,dN,sE,pE,nE,cE,tE,yE,mE,dE,rfl,hN,hE⟩:=Ra
 have lB:q.length≤1000:=by dsimp only at hlen;omega
 have Fv:uses.length≤1000:=by dsimp only at hlen;omega
 have sH:jX (KU UU) 99 [g,vb,rb,ub] [(Runner,[.row 199 off nq cq,.row 200 0 nr cr,.row 201 0 nu cu]),(dG,(pre++(TL.flatten++TK)).map .val),(eT,(kM.flatten++nH).map .val),(fy,(xn.flatten++yd).map .val)] w:=by
  have Qf:g≠vb:=fun e=>by subst e;exact absurd (bN hg Gy) bW
  have h02:g≠rb:=fun e=>by subst e;exact absurd (bN hg Em) bW
  have h03:g≠ub:=fun e=>by subst e;exact absurd (bN hg hcU) bW
  have Ea:vb≠rb:=fun e=>by subst e;exact absurd (bN Gy Em) bW
  have h13:vb≠ub:=fun e=>by subst e;exact absurd (bN Gy hcU) bW
  have h23:rb≠ub:=fun e=>by subst e;exact absurd (bN Em hcU) bW
  refine ⟨rfl,by simp [Qf,h02,h03,Ea,h13,h23],fun j g' c' hj hc=> ?_,fun c' hc=> ?_,fun c' hc k hk=> ?_⟩
  ·match j,hj,hc with
   | 0,hj,hc=>cases hj;cases hc;exact hg
   | 1,hj,hc=>cases hj;cases hc;rw [ah];exact Gy
   | 2,hj,hc=>cases hj;cases hc;rw [ah];exact Em
   | 3,hj,hc=>cases hj;cases hc;rw [ah];exact hcU
   | j + 4,hj,_=>simp at hj
  ·simp only [List.mem_cons,List.not_mem_nil,or_false] at hc
   rcases hc with rfl | rfl | rfl | rfl
   ·exact ⟨rfl,rfl⟩
   ·exact ⟨rfl,bh (hV.all (aO B))⟩
   ·exact ⟨rfl,bh (hR.all (aA B))⟩
   ·exact ⟨rfl,bh (hU.all (eh B))⟩
  ·simp only [List.mem_cons,List.not_mem_nil,or_false] at hc
   rcases hc with rfl | rfl | rfl | rfl
   ·have:k=199\/k=200\/k=201:=by simpa [ax,AV.cT] using hk
    rcases this with rfl | rfl | rfl
    ·exact ⟨by omega,by show 199 < 2 * 99 + 4;omega⟩
    ·exact ⟨by omega,by show 200 < 2 * 99 + 4;omega⟩
    ·exact ⟨by omega,by show 201 < 2 * 99 + 4;omega⟩
   ·rw [ai] at hk;cases hk
   ·rw [ai] at hk;cases hk
   ·rw [ai] at hk;cases hk
 refine fm Tryz.prog w _ (KU UU) (fun t=>Nat.beq t 22) table (fun _ _=>trivial) (ad:=[g,vb,rb,ub]) (us:=[_,_,_]) Tryz.func39 rfl Tryz.ntmps39 (bu rfl) sH (bu rfl) ?_
 refine af ?_
 refine VO.call rfl rfl (fk Tryz.func70) (fun bD cQ bG=>((pX _ _ S F keep e ks bD ⟨_,_,_,_,_,_,_,_,_,_,_,_,_,_,_,_,rfl,hS.k,hF.k⟩ ⟨_,_,_,_,_,_,_,_,_,_,_,_,_,_,_,_,rfl,hN.k,hE.k⟩ vH ab).mono (fun o w2 h=>And.intro h bG.1.size)).mono ?_)
 rintro o w1 ⟨⟨r1,rfl,q1,aI⟩,LA⟩
 obtain ⟨s1,p1,n1,c1,t1,y1,m1,d1,rfl⟩:=q1.form
 refine ⟨_,rfl,aI,fun dt _ bb1=>wV rfl ?_⟩
 replace q1:=q1.mono (Nat.le_trans hB LA)
 refine af ?_
 refine VO.call rfl rfl (fk Tryz.func44) (fun cG dQ cV=>((bX 0 cG ab ab).mono (fun o w2 h=>And.intro h cV.1.size)).mono ?_)
 rintro o w2 ⟨⟨r2,rfl,q2,ba⟩,tU⟩
 obtain ⟨s2,p2,n2,c2,t2,y2,m2,d2,rfl⟩:=q2.form
 refine ⟨_,rfl,ba,fun dR _ bb2=>wV rfl ?_⟩
 replace q2:=q2.mono (Nat.le_trans hB tU)
 refine af ?_
 refine VO.call rfl rfl (fk Tryz.func44) (fun eX fF fM=>((bX 0 eX ab ab).mono (fun o w2 h=>And.intro h fM.1.size)).mono ?_)
 rintro o w3 ⟨⟨r3,rfl,q3,cC⟩,CS⟩
 obtain ⟨s3,p3,n3,c3,t3,y3,m3,d3,rfl⟩:=q3.form
 refine ⟨_,rfl,cC,fun gZ _ bb3=>wV rfl ?_⟩
 replace q3:=q3.mono (Nat.le_trans hB CS)
 refine af ?_
 refine VO.ee rfl (fk Tryz.func71) (fun jg β kZ kt ho=>((gT _ _ e.1 [ay S F e.2] kk jg ((hN.k).up ab) (cZ (ho.own 20 (.base (List.mem_singleton.2 rfl)) _ _ rfl) [] (vs:=[[.bool s1,.slice p1 n1 c1,.bool t1,.slice y1 m1 d1]]) (by rfl) rfl (bt.cons (q1.ki (hK _ Ej dp dp)) bt.nil) (bu rfl) bW) ab (bu rfl)).mono (fun o w2 h=>And.intro h kt.1.size)).mono ?_)
 rintro o w4 ⟨⟨r4,rfl,q4,z4,fq⟩,LB⟩
 rw [eM] at q4
 obtain ⟨s4,p4,n4,c4,t4,y4,m4,d4,rfl⟩:=q4.form
 refine ⟨_,rfl,fq,fun lz _ tH=>wV rfl ?_⟩
 replace q4:=q4.mono (Nat.le_trans hB LB)
 refine af ?_
 refine VO.call rfl rfl (fk Tryz.func72) (fun gE ju ia=>((dc _ _ e.1 (ae e.1 (ay S F e.2)) kk kk gE ((hN.k).up ab) (q4.ki (hK _ g1 dp dp)) ab ab).mono (fun o w2 h=>And.intro h ia.1.size)).mono ?_)
 rintro o w5 ⟨⟨r5,rfl,q5,eP⟩,tV⟩
 obtain ⟨s5,p5,n5,c5,t5,y5,m5,d5,rfl⟩:=q5.form
 refine ⟨_,rfl,eP,fun jV _ qu=>wV rfl ?_⟩
 replace q5:=q5.mono (Nat.le_trans hB tV)
 refine af ?_
 refine VO.call rfl rfl (fk Tryz.func72) (fun gF ld iC=>((dc _ _ (ay S F e.2) (ae e.1 (ay S F e.2)) kk kk gF (q1.ki (hK _ Ej dp dp)) (q4.ki (hK _ g1 dp dp)) ab ab).mono (fun o w2 h=>And.intro h iC.1.size)).mono ?_)
 rintro o w6 ⟨⟨r6,rfl,q6,fK⟩,LC⟩
 obtain ⟨s6,p6,n6,c6,t6,y6,m6,d6,rfl⟩:=q6.form
 refine ⟨_,rfl,fK,fun lG _ pO=>wV rfl ?_⟩
 replace q6:=q6.mono (Nat.le_trans hB LC)
 refine af ?_
 have oT:eC S F keep (rows:List aM).length ⟨q,rows,uses⟩ e=vA keep (rows:List aM).length ⟨mY (rows:List aM).length (e.1 - ae e.1 (ay S F e.2)) (ny q (ay S F e.2 - ae e.1 (ay S F e.2))),rows++[eG S F q e],uses++qH (rows:List aM).length q (ay S F e.2 - ae e.1 (ay S F e.2))⟩:=rfl
 refine VO.Jp (u:=201) (us0:=uses) (B:=B) (D:=D) (v:=199) (d2:=36) (M:=M + M) (mm:=ay S F e.2 - ae e.1 (ay S F e.2)) (q:=q) kk rfl rfl rfl (fk Tryz.func73) rfl rfl rfl (fun wi LD Nn=>hU.kp (eh B) aU) Fv bW bW rfl (by show 36 < 2 * 99;omega) bW rfl (fun _=>rfl) (fun j hj=> ?_) rfl (fun wi LD Nn=>hV.kp (aO B) aU) (fun wi LD Nn=>q6.kr) g7 g8 g9 (fun p hp=>⟨(Af.el p hp).1,(Af.el p hp).2.1,(Af.el p hp).2.2.1⟩) (fun x h1 h2 h3=>hK x h1 dp h3) Eb lB hB (fun w7 r7 TM nq1 cq1 TN TP TQ un uc vsu1 spu1 ρ7 k7 b7 q7 hV1 hU1=> ?_)
 ·have:j=200:=by simpa [ax,AV.cT] using hj
  subst this;exact ⟨(by intro h;cases h),by decide⟩
 obtain ⟨s7,p7,n7,c7,t7,y7,m7,d7,rfl⟩:=q7.form
 refine VO.dI 200 rfl (cL (ai _) _ _) (wV rfl ?_)
 refine af ?_
 obtain ⟨Rc,Hk⟩:∃ Rc,Rc=uses++qH rows.length q (ay S F e.2 - ae e.1 (ay S F e.2)):=⟨_,rfl⟩
 rw [<-Hk] at hU1
 have Ca:=Hk.symm
 have Ct:=hU1
 obtain ⟨u1,u2,u3⟩:=xm (q:=q) (m:=ay S F e.2 - ae e.1 (ay S F e.2)) (fun p hp=>⟨(Af.el p hp).1,(Af.el p hp).2.1⟩) g7 g8
 refine VO.call rfl rfl (fk Tryz.func16) (fun sD Fc wj=>((fx _ _ (ae e.1 (ay S F e.2)) (uh q (ay S F e.2 - ae e.1 (ay S F e.2))) kk kk sD (q4.ki (hK _ g1 dp dp)) (q7.ki (hK _ u1 dp dp)) ab ab).mono (fun o w2 h=>And.intro h wj.1.size)).mono ?_)
 rintro o w8 ⟨⟨r8,rfl,q8,qf⟩,CU⟩
 obtain ⟨s8,p8,n8,c8,t8,y8,m8,d8,rfl⟩:=q8.form
 refine ⟨_,rfl,qf,fun wk _ Kd=>wV rfl ?_⟩
 replace q8:=q8.mono (Nat.le_trans hB CU)
 refine af ?_
 have Ng:((0:Int):Rat)=0:=rfl
 have Fx:eI B w8 [.bool s1,.slice p1 n1 c1,.bool t1,.slice y1 m1 d1,.bool s4,.slice p4 n4 c4,.bool t4,.slice y4 m4 d4,.bool s5,.slice p5 n5 c5,.bool t5,.slice y5 m5 d5,.bool s7,.slice p7 n7 c7,.bool t7,.slice y7 m7 d7,.bool s8,.slice p8 n8 c8,.bool t8,.slice y8 m8 d8,.bool s2,.slice p2 n2 c2,.bool t2,.slice y2 m2 d2,.bool s3,.slice p3 n3 c3,.bool t3,.slice y3 m3 d3] (eG S F q e):=⟨[.bool s1,.slice p1 n1 c1,.bool t1,.slice y1 m1 d1],[.bool s4,.slice p4 n4 c4,.bool t4,.slice y4 m4 d4],[.bool s5,.slice p5 n5 c5,.bool t5,.slice y5 m5 d5],[.bool s7,.slice p7 n7 c7,.bool t7,.slice y7 m7 d7],[.bool s8,.slice p8 n8 c8,.bool t8,.slice y8 m8 d8],[.bool s2,.slice p2 n2 c2,.bool t2,.slice y2 m2 d2],[.bool s3,.slice p3 n3 c3,.bool t3,.slice y3 m3 d3],rfl,⟨_,_,_,_,_,_,_,_,rfl,q1.k⟩,⟨_,_,_,_,_,_,_,_,rfl,q4.k⟩,⟨_,_,_,_,_,_,_,_,rfl,q5.k⟩,⟨_,_,_,_,_,_,_,_,rfl,q7.k⟩,⟨_,_,_,_,_,_,_,_,rfl,q8.k⟩,⟨_,_,_,_,_,_,_,_,rfl,q2.k⟩,⟨_,_,_,_,_,_,_,_,rfl,q3.k⟩⟩
 obtain ⟨jA,kE⟩:=hR.el.ok (aA B)
 have pj:=hR.len
 refine VO.app (bF _ _) (t:=33) (e:=eT) (sz:=28) (n:=nr) (c:=cr) (mm:=1) (known:=kM.flatten.map .val) (spare:=nH.map .val) (del:=some 200) (news:=([.bool s1,.slice p1 n1 c1,.bool t1,.slice y1 m1 d1,.bool s4,.slice p4 n4 c4,.bool t4,.slice y4 m4 d4,.bool s5,.slice p5 n5 c5,.bool t5,.slice y5 m5 d5,.bool s7,.slice p7 n7 c7,.bool t7,.slice y7 m7 d7,.bool s8,.slice p8 n8 c8,.bool t8,.slice y8 m8 d8,.bool s2,.slice p2 n2 c2,.bool t2,.slice y2 m2 d2,.bool s3,.slice p3 n3 c3,.bool t3,.slice y3 m3 d3]:List Value).map .val) (dst:=52) rfl rfl rfl rfl rfl rfl rfl rfl (bu rfl) rfl (.inr ⟨200,rfl,congrArg (fun l=>some (eT,l)) (List.map_append ..),rfl⟩) (.inl rfl) (by rw [List.length_map,kE,pj]) (by rw [<-List.map_append,List.length_map];exact hR.fl) hR.le hR.cm ⟨ai _,ai _,rfl⟩ ⟨bh jA,bh hR.so,rfl⟩ rfl ab
  (fun w1 β k1 b1 ho=>⟨_,_,rfl,.inr ⟨β 51,0,rfl,df (rest:=[]) (ho.own 51 (.base (List.mem_append_right _ (List.mem_singleton.2 rfl))) _ _ rfl) rfl⟩⟩)
  (fun qG iz oi ρ Nk Nl fJ jS iB ek Fy jP=>VO.dI 199 rfl (cL (ai _) _ _) (VO.dI 36 rfl (cL (ai _) _ _) (wV rfl ?_)))
 (repeat (first | refine wN ?_ | refine wP rfl ?_ | refine DU rfl ?_ | refine wO rfl rfl ?_))
 obtain ⟨qJ,vI⟩:∃ qJ,qJ=nr + 1:=⟨_,rfl⟩
 obtain ⟨sX,vJ⟩:∃ sX,sX=(kM++[[.bool s1,.slice p1 n1 c1,.bool t1,.slice y1 m1 d1,.bool s4,.slice p4 n4 c4,.bool t4,.slice y4 m4 d4,.bool s5,.slice p5 n5 c5,.bool t5,.slice y5 m5 d5,.bool s7,.slice p7 n7 c7,.bool t7,.slice y7 m7 d7,.bool s8,.slice p8 n8 c8,.bool t8,.slice y8 m8 d8,.bool s2,.slice p2 n2 c2,.bool t2,.slice y2 m2 d2,.bool s3,.slice p3 n3 c3,.bool t3,.slice y3 m3 d3]]:List (List Value)):=⟨_,rfl⟩
 have gB:qA (eI B) 28 qG qJ iz sX oi (rows++[eG S F q e]):=by rw [vI,vJ];exact ⟨by rw [pj,List.length_append];rfl,(hR.el.kp (aA B) aU).snoc ((aA B).kp Fx aU),Fy,jP,jS,iB,by simpa using ek⟩
 refine VS.narrow [(0,.box 198 0),(2,.val (.int .i64 ((rows:List aM).length:Int))),(5,.box 5 0),(8,.box 8 0)] [(198,(Runner,[.row 199 TM nq1 cq1,.row 52 0 qJ iz,.row 36 0 un uc])),(52,(eT,sX.flatten.map AV.val++oi)),(5,(28,([.bool sS,.slice pS nS cS,.bool tS,.slice yS mS dS,.bool sF,.slice pF nF cF,.bool tF,.slice yF mF dF,.int .i64 (keep:Int)]:List Value).map AV.val)),(8,(eT,([.bool s1,.slice p1 n1 c1,.bool t1,.slice y1 m1 d1,.bool s4,.slice p4 n4 c4,.bool t4,.slice y4 m4 d4,.bool s5,.slice p5 n5 c5,.bool t5,.slice y5 m5 d5,.bool s7,.slice p7 n7 c7,.bool t7,.slice y7 m7 d7,.bool s8,.slice p8 n8 c8,.bool t8,.slice y8 m8 d8,.bool s2,.slice p2 n2 c2,.bool t2,.slice y2 m2 d2,.bool s3,.slice p3 n3 c3,.bool t3,.slice y3 m3 d3]:List Value).map AV.val)),(199,(dG,(TN++(TP.flatten++TQ)).map AV.val)),(36,(fy,(vsu1.flatten++spu1).map AV.val))] ⟨rfl,rfl,rfl,rfl,trivial⟩ ⟨by rw [vI];rfl,by rw [vJ];exact congrArg (fun l=>some (eT,l++oi)) cw,rfl,rfl,rfl,rfl,trivial⟩ rfl ⟨.lit rfl,.append (.vals _) (.none jP),.vals _,.vals _,.vals _,.vals _,trivial⟩ ?_
 refine VS.draw (bF _ _) (mc _ _) [1000000 + 74] (by kernel_rfl) (VO.run 80 rfl ?_)
 have TR:nq1≤1000:=by rw [hV1.len];have:=(BZ rows.length q (ay S F e.2 - ae e.1 (ay S F e.2))).2;omega
 refine VO.BR (B:=B) (v:=199) (d2:=62) (d:=e.1 - ae e.1 (ay S F e.2)) (q:=ny q (ay S F e.2 - ae e.1 (ay S F e.2))) kk rfl rfl rfl (fk Tryz.func74) rfl rfl rfl (by show 62 < 2 * 99;omega) bW (fun j hj=> ?_) rfl (fun wi LD Nn=>hV1.kp (aO B) aU) (fun wi LD Nn=>q5.kr) (hK _ g4 dp dp) Eb TR hB (fun CV gH nz qF mZ LG Np ρ19 k19 b19 gM=> ?_)
 ·have:j=52\/j=36:=by simpa [ax,AV.cT] using hj
  rcases this with rfl | rfl <;> exact ⟨(by intro h;cases h),by decide⟩
 obtain ⟨q2,vK⟩:∃ q2:List Vq,q2=mY rows.length (e.1 - ae e.1 (ay S F e.2)) (ny q (ay S F e.2 - ae e.1 (ay S F e.2))):=⟨_,rfl⟩
 rw [<-vK] at gM
 have zI:=vK.symm
 refine VO.dI 52 rfl (cL (by rw [cU,ai,jP];rfl) _ _) (VO.dI 36 rfl (cL (ai _) _ _) (wV rfl ?_))
 refine af ?_
 by_cases og:nz=0
 ·refine VO.dU (x:=.row 62 gH nz qF) (p:=fun _=>none) (c:=qF) rfl (fun β=>.inr ⟨_,congrArg (fun n=>Value.slice (some ⟨β 62,gH,none⟩) n qF) og⟩) rfl (fk Tryz.func75) rfl (fun Kg TG TH=>wV rfl ?_)
  refine af ?_
  have Fz:q2=[]:=List.eq_nil_of_length_eq_zero (by rw [<-gM.len];exact og)
  have sI:eC S F keep (rows:List aM).length ⟨q,rows,uses⟩ e=⟨q2,rows++[eG S F q e],Rc⟩:=by rw [oT,zI,Ca,Fz];rfl
  refine af ?_
  refine VS.mX (bF _ _) rfl (fun wz β kz oz en=> ?_)
  obtain ⟨o1,o2⟩:=fo (en.own 198 _ _ rfl) 0 g rfl rfl
  have oR:=(en.own 52 _ _ rfl).cls
  rw [List.map_append,ah] at oR
  have nR:=gr hB eZ (show dm 99 [g,vb,rb,ub] w 52 (β 52) from (en.own 52 _ _ rfl).new)
  have oV:=(en.own 62 _ _ rfl).cls
  rw [ah] at oV
  have nV:=gr hB eZ (show dm 99 [g,vb,rb,ub] w 62 (β 62) from (en.own 62 _ _ rfl).new)
  have oU:=(en.own 36 _ _ rfl).cls
  rw [ah] at oU
  have nU:=gr hB eZ (show dm 99 [g,vb,rb,ub] w 36 (β 36) from (en.own 36 _ _ rfl).new)
  rw [sI]
  refine ⟨rfl,oz.1,[g,β 62,β 52,β 36],⟨fun b hb=> ?_,_,_,_,o2,?_⟩⟩
  ·simp only [List.mem_cons,List.not_mem_nil,or_false] at hb
   rcases hb with rfl | rfl | rfl | rfl
   ·exact Ek
   ·exact nV
   ·exact nR
   ·exact nU
  ·exact .inr (.inr (.inr ⟨β 62,β 52,β 36,rfl,⟨_,_,_,_,_,_,rfl,oV,gM.kp (aO B) aU⟩,⟨_,_,_,_,rfl,oR,(gB.kp (aA B) aU).o β⟩,⟨_,_,_,_,rfl,oU,Ct.kp (eh B) aU⟩⟩))
 obtain ⟨pp,qt,Gv⟩:∃ pp qt,q2=pp::qt:=by
  cases q2 with
  | nil=>exact absurd gM.len og
  | cons pp qt=>exact ⟨pp,qt,rfl⟩
 subst Gv
 obtain ⟨FA,Ag,rfl,hE4,vL⟩:∃ FA Ag,LG=FA::Ag/\dz B CV FA pp/\bL (dz B) CV qt Ag:=by
  have:=gM.el
  cases this with
  | cons h1 h2=>exact ⟨_,_,rfl,h1,h2⟩
 obtain ⟨s9,p9,n9,c9,t9,y9,m9,d9,rfl,Qc⟩:=hE4
 have FD:=gM.le
 have FE:=gM.len
 have FF:=gM.cm
 have lR:mZ.length=gH:=gM.pl.resolve_right ab
 refine VO.dA rfl rfl (fk Tryz.func75) rfl og (by intro h;cases h) (fun Kg TG TH=>wV rfl ?_)
 refine af ?_
 refine VO.cW rfl (([.int .i64 (pp.1:Int)]:List Value).map .val) rfl (bC lR 0 _ ⟨_,rfl⟩) (wV rfl ?_)
 refine af ?_
 have Nq:IntKind.i64.wrap (((rows:List aM).length:Int) - (keep:Int))=((rows:List aM).length:Int) - (keep:Int):=IntWalk.i64_in _ ab
 by_cases hx:pp.1 + keep=(rows:List aM).length
 ·refine VS.aP rfl (by rw [Nq,beq_iff_eq];omega) ?_
  refine af ?_
  refine VO.cW rfl (([.int .i64 (pp.1:Int)]:List Value).map .val) rfl (bC lR 0 _ ⟨_,rfl⟩) (wV rfl ?_)
  refine af ?_
  refine VO.cW rfl (([.bool s9,.slice p9 n9 c9,.bool t9,.slice y9 m9 d9]:List Value).map .val) rfl (bC lR 1 _ ⟨[],rfl⟩) (wV rfl ?_)
  refine af ?_
  have gu:=gB.len
  have DJ:pp.1 < qJ:=by rw [gu,List.length_append,List.length_singleton];omega
  refine VO.cond rfl dw (wV rfl ?_)
  obtain ⟨rq,El⟩:∃ rq,(rows++[eG S F q e])[pp.1]? =some rq:=⟨_,List.getElem?_eq_getElem (by rw [<-gu];exact DJ)⟩
  obtain ⟨yA,qB,ui⟩:=gB.el.at pp.1 rq El
  have ja:=gB.fl
  have Qd:=gB.le
  refine VO.cond rfl (by show 0 + ((pp.1:Int)).toNat * 28 + 20 + 4≤_;rw [ja,Int.toNat_natCast];omega) (VO.dI 52 rfl (mJ (new:=[.bool s9,.slice p9 n9 c9,.bool t9,.slice y9 m9 d9]) (o:=20) (gB.el.lens (aA B)) qB (bu rfl)) (wV rfl ?_))
  refine af ?_
  have hR3:qA (eI B) 28 Kg qJ iz (sX.set pp.1 (yA.take 20++([.bool s9,.slice p9 n9 c9,.bool t9,.slice y9 m9 d9]++yA.drop (20 + ([.bool s9,.slice p9 n9 c9,.bool t9,.slice y9 m9 d9]:List Value).length)))) oi ((rows++[eG S F q e]).modify pp.1 (fun r=>{ r with ao:=pp.2 })):=
   ⟨by rw [List.length_modify];exact gu,by rw [ew El];exact (gB.el.kp (aA B) aU).set (rL ((aA B).kp ui aU) ⟨_,_,_,_,_,_,_,_,rfl,Qc.kp aU⟩),gB.so,gB.sl,gB.le,gB.cm,by
    rw [List.length_append,List.length_map,dB (mK (gB.el.lens (aA B)) (vG ((aA B).len ui) rfl)),List.length_set]
    rw [List.length_append,List.length_map,dB (gB.el.lens (aA B))] at ja
    exact ja⟩
  refine VO.jO rfl rfl (fk Tryz.func76) rfl ab FD FF (fun j hj=> ?_) (bu rfl) (fun Qe k21 b21=>wV rfl ?_)
  ·simp only [ax,AV.cT,List.flatMap_cons,List.flatMap_nil,List.mem_append,List.mem_cons,List.not_mem_nil,or_false,List.append_nil] at hj
   rcases hj with rfl | rfl | rfl <;> (intro h;cases h)
  refine af ?_
  have hV4:dT (dz B) 5 Qe (nz - 1) (if qF=1 then gH else gH + 5) (qF - 1) (mZ++[.int .i64 (pp.1:Int),.bool s9,.slice p9 n9 c9,.bool t9,.slice y9 m9 d9]) Ag Np qt:=⟨by rw [FE];rfl,pV lR,by rw [List.all_append,gM.po];rfl,vL.kp (aO B) aU,gM.so,by omega,by omega,pW gM.fl⟩
  have sI:eC S F keep (rows:List aM).length ⟨q,rows,uses⟩ e=⟨qt,(rows++[eG S F q e]).modify pp.1 (fun r=>{ r with ao:=pp.2 }),Rc⟩:=by
   rw [oT,zI,Ca]
   exact if_pos hx
  refine af ?_
  refine VS.mX (bF _ _) rfl (fun wz β kz oz en=> ?_)
  obtain ⟨o1,o2⟩:=fo (en.own 198 _ _ rfl) 0 g rfl rfl
  have oR:=(en.own 52 _ _ rfl).cls
  rw [List.map_append,ah] at oR
  have nR:=gr hB eZ (show dm 99 [g,vb,rb,ub] w 52 (β 52) from (en.own 52 _ _ rfl).new)
  have oV:=(en.own 62 _ _ rfl).cls
  rw [eN,ah] at oV
  have nV:=gr hB eZ (show dm 99 [g,vb,rb,ub] w 62 (β 62) from (en.own 62 _ _ rfl).new)
  have oU:=(en.own 36 _ _ rfl).cls
  rw [ah] at oU
  have nU:=gr hB eZ (show dm 99 [g,vb,rb,ub] w 36 (β 36) from (en.own 36 _ _ rfl).new)
  rw [sI]
  refine ⟨rfl,oz.1,[g,β 62,β 52,β 36],⟨fun b hb=> ?_,_,_,_,o2,?_⟩⟩
  ·simp only [List.mem_cons,List.not_mem_nil,or_false] at hb
   rcases hb with rfl | rfl | rfl | rfl
   ·exact Ek
   ·exact nV
   ·exact nR
   ·exact nU
  ·exact .inr (.inr (.inr ⟨β 62,β 52,β 36,rfl,⟨_,_,_,_,_,_,rfl,oV,hV4.kp (aO B) aU⟩,⟨_,_,_,_,rfl,oR,(hR3.kp (aA B) aU).o β⟩,⟨_,_,_,_,rfl,oU,Ct.kp (eh B) aU⟩⟩))
 ·refine VS.aQ rfl (by rw [Nq,beq_eq_false_iff_ne];omega) ?_
  have sI:eC S F keep (rows:List aM).length ⟨q,rows,uses⟩ e=⟨pp::qt,rows++[eG S F q e],Rc⟩:=by
   rw [oT,zI,Ca]
   exact if_neg hx
  refine af ?_
  refine VS.mX (bF _ _) rfl (fun wz β kz oz en=> ?_)
  obtain ⟨o1,o2⟩:=fo (en.own 198 _ _ rfl) 0 g rfl rfl
  have oR:=(en.own 52 _ _ rfl).cls
  rw [List.map_append,ah] at oR
  have nR:=gr hB eZ (show dm 99 [g,vb,rb,ub] w 52 (β 52) from (en.own 52 _ _ rfl).new)
  have oV:=(en.own 62 _ _ rfl).cls
  rw [ah] at oV
  have nV:=gr hB eZ (show dm 99 [g,vb,rb,ub] w 62 (β 62) from (en.own 62 _ _ rfl).new)
  have oU:=(en.own 36 _ _ rfl).cls
  rw [ah] at oU
  have nU:=gr hB eZ (show dm 99 [g,vb,rb,ub] w 36 (β 36) from (en.own 36 _ _ rfl).new)
  rw [sI]
  refine ⟨rfl,oz.1,[g,β 62,β 52,β 36],⟨fun b hb=> ?_,_,_,_,o2,?_⟩⟩
  ·simp only [List.mem_cons,List.not_mem_nil,or_false] at hb
   rcases hb with rfl | rfl | rfl | rfl
   ·exact Ek
   ·exact nV
   ·exact nR
   ·exact nU
  ·exact .inr (.inr (.inr ⟨β 62,β 52,β 36,rfl,⟨_,_,_,_,_,_,rfl,oV,gM.kp (aO B) aU⟩,⟨_,_,_,_,rfl,oR,(gB.kp (aA B) aU).o β⟩,⟨_,_,_,_,rfl,oU,Ct.kp (eh B) aU⟩⟩))
set_option maxRecDepth 4000
theorem Qg {B g keep D kk ks:Nat} {M S F:Rat} {e:Rat×Rat} {ad:List Nat} {s:Ke} {v u:Value} {w:World} (hs:qj B w g ad s)
  (yz:Lz w v S F keep ks) (Ra:YrV w u e ks) (vH:1≤ks) (CT:ks≤kk) (Eb:kk≤100000) (Ej:Iz D (ay S F e.2)) (tX:ay S F e.2≤M) (Rb:Iz D e.1) (iA: -M≤e.1) (Gx:e.1≤M) (hK:∀ x,Iz D x->-(M + M)≤x->x≤M + M->et x kk)
  (Af:Jq D M s) (ya:s.rows.length≤64) (yb:keep≤40) (hB:B≤w.heap.size):
  Calls Tryz.prog 39 #[.pointer (some ⟨g,0,none⟩),v,.int .i64 (s.rows.length:Int),u] w fun o w'=>o=.returned (jc [])/\tw ad w w'/\∃ TF,qj B w' g TF (eC S F keep s.rows.length s e):=by
 obtain ⟨q,rows,uses⟩:=s
 obtain ⟨had,vv,r,uu,hg,h⟩:=hs
 rcases h with ⟨rfl,rfl,rfl,rfl,rfl,rfl,rfl⟩ | ⟨rb,rfl,rfl,rfl,rfl,rfl,n,c,vs,sp,rfl,h1,h2⟩ | ⟨vb,rb,rfl,rfl,rfl,⟨off,nq,cq,pre,TL,TK,rfl,h3,h4⟩,n,c,vs,sp,rfl,h1,h2⟩ | ⟨vb,rb,ub,rfl,⟨off,nq,cq,pre,TL,TK,rfl,h3,h4⟩,⟨n,c,vs,sp,rfl,h1,h2⟩,n',c',iT,sp',rfl,h5,h6⟩
 ·exact iYear_A (q:=[]) (rows:=[]) (uses:=[]) hg yz Ra vH CT Eb Ej tX Rb iA Gx hK Af ya yb hB had
 ·exact iYear_B (q:=[]) (uses:=[]) hg h1 h2 yz Ra vH CT Eb Ej tX Rb iA Gx hK Af ya yb hB had
 ·exact iYear_C (uses:=[]) hg h3 h4 h1 h2 yz Ra vH CT Eb Ej tX Rb iA Gx hK Af ya yb hB had
 ·exact iYear_D hg h3 h4 h1 h2 h5 h6 yz Ra vH CT Eb Ej tX Rb iA Gx hK Af ya yb hB had
abbrev RR:=Bool×List Nat×Bool×List Nat
def RR.q (x:RR):Rat:=rq x.1 x.2.1 x.2.2.1 x.2.2.2
def RR.ok (x:RR):Bool:=Cz x.1 x.2.1 x.2.2.1 x.2.2.2
def xo (w:World) (cs:List Value) (x:RR):Prop:=∃ p c r d,cs=[.bool x.1,.slice p x.2.1.length c,.bool x.2.2.1,.slice r x.2.2.2.length d]/\eF w (.agg #[.bool x.1,.slice p x.2.1.length c,.bool x.2.2.1,.slice r x.2.2.2.length d]) x.1 x.2.1 x.2.2.1 x.2.2.2
theorem xo.kp {T:TypeId->Bool} {w w':World} {cs:List Value} {x:RR} (h:xo w cs x) (k:bH ⟨UU,fun _=>True,T⟩ w w'):xo w' cs x:=by
 obtain ⟨p,c,r,d,h1,h2⟩:=h
 exact ⟨p,c,r,d,h1,h2.kp k⟩
def RR.jF (x:RR) (k:Nat):Prop:=x.2.1.length≤k/\x.2.2.2.length≤k
def si (kk:Nat) (w:World) (cs:List Value) (e:RR×RR):Prop:=∃ a b,cs=a++b/\xo w a e.1/\xo w b e.2/\e.1.jF kk/\e.2.jF kk
theorem xo.len {w:World} {cs:List Value} {x:RR} (h:xo w cs x):cs.length=4:=by obtain ⟨p,c,r,d,rfl,_⟩:=h;rfl
theorem xo.ok {w:World} {cs:List Value} {x:RR} (h:xo w cs x):cs.all aV=true:=by obtain ⟨p,c,r,d,rfl,_⟩:=h;rfl
theorem dV (kk:Nat):gL (si kk) 8 where
 kp:=fun h k=>by
  obtain ⟨a,b,h0,h1,h2,h3⟩:=h
  exact ⟨a,b,h0,h1.kp k,h2.kp k,h3⟩
 len:=fun h=>by obtain ⟨a,b,rfl,h1,h2,h3⟩:=h;rw [List.length_append,h1.len,h2.len]
 ok:=fun h=>by obtain ⟨a,b,rfl,h1,h2,h3⟩:=h;rw [List.all_append,h1.ok,h2.ok];rfl
def fN (w:World) (v:Value) (a b:RR) (keep:Int):Prop:=∃ p c r d p' c' r' d',v=.agg #[.bool a.1,.slice p a.2.1.length c,.bool a.2.2.1,.slice r a.2.2.2.length d,.bool b.1,.slice p' b.2.1.length c',.bool b.2.2.1,.slice r' b.2.2.2.length d',.int .i64 keep]/\
 eF w (.agg #[.bool a.1,.slice p a.2.1.length c,.bool a.2.2.1,.slice r a.2.2.2.length d]) a.1 a.2.1 a.2.2.1 a.2.2.2/\eF w (.agg #[.bool b.1,.slice p' b.2.1.length c',.bool b.2.2.1,.slice r' b.2.2.2.length d']) b.1 b.2.1 b.2.2.1 b.2.2.2
theorem eF.iq {w:World} {v:Value} {x:RR} {k:Nat} (h:eF w v x.1 x.2.1 x.2.2.1 x.2.2.2) (hk:x.jF k):bA w v x.q k:=⟨_,_,_,_,h,rfl,hk.1,hk.2⟩
theorem fN.v {w:World} {v:Value} {a b:RR} {keep:Int} {ks:Nat} (h:fN w v a b keep) (ha:a.jF ks) (hb:b.jF ks):Lz w v a.q b.q keep ks:=by
 obtain ⟨p,c,r,d,p',c',r',d',rfl,h1,h2⟩:=h
 exact ⟨_,_,_,_,_,_,_,_,_,_,_,_,_,_,_,_,rfl,h1.iq ha,h2.iq hb⟩
theorem fN.kp {T:TypeId->Bool} {w w':World} {v:Value} {a b:RR} {keep:Int} (h:fN w v a b keep) (k:bH ⟨UU,fun _=>True,T⟩ w w'):fN w' v a b keep:=by
 obtain ⟨p,c,r,d,p',c',r',d',h0,h1,h2⟩:=h
 exact ⟨p,c,r,d,p',c',r',d',h0,h1.kp k,h2.kp k⟩
theorem gY (x:RR) (b:Bool) (hb:x.ok=b) (v:Value) (w:World) (h:eF w v x.1 x.2.1 x.2.2.1 x.2.2.2) {k:Nat} (hx:x.jF k) (hk:k≤100000):
 Calls Tryz.prog 68 #[v] w fun e w'=>e=.returned (.bool b)/\aL w w':=hb▸vm _ _ _ _ v w h (Nat.le_trans hx.1 ab) (Nat.le_trans hx.2 ab)
def dW (a b:RR) (keep:Int):Bool:=a.ok && (b.ok && (decide (eg a.q 0≥0) && (decide (eg a.q 1≤0) && (decide (keep≥0) && decide (keep≤40)))))
set_option maxRecDepth 4000 in
theorem LH (v:Value) (a b:RR) (keep:Int) (k:Nat) (w:World) (h:fN w v a b keep) (ha:a.jF k) (hb:b.jF k) (hk:k≤100000):
  Calls Tryz.prog 35 #[v] w fun o w'=>o=.returned (.bool (dW a b keep))/\aL w w':=by
 obtain ⟨p,c,r,d,p',c',r',d',rfl,h1,h2⟩:=h
 refine ag (C:=bP Tryz.prog w _) (args:=[_]) Tryz.func35 rfl Tryz.ntmps35 (bu rfl) ?_
 refine aa ?_
 cases e1:a.ok with
 | false=>
   refine VO.call rfl rfl (fk Tryz.func68) (fun bD cQ bG=>(gY a false e1 _ bD (h1.kp (Kp.of (U:=UU) bG)) ha hk).mono ?_)
   rintro e w1 ⟨rfl,aI⟩
   skip
   refine ⟨_,rfl,aI,fun dt _ bb1=>wV rfl ?_⟩
   refine aa ?_
   refine aR ?_;intro wz kz bz
   exact ⟨by unfold dW;rw [e1];rfl,bz⟩
 | true=>
 refine VO.call rfl rfl (fk Tryz.func68) (fun bD cQ bG=>(gY a true e1 _ bD (h1.kp (Kp.of (U:=UU) bG)) ha hk).mono ?_)
 rintro e w1 ⟨rfl,aI⟩
 skip
 refine ⟨_,rfl,aI,fun dt _ bb1=>wV rfl ?_⟩
 refine aa ?_
 cases e2:b.ok with
 | false=>
   refine VO.call rfl rfl (fk Tryz.func68) (fun cG dQ cV=>(gY b false e2 _ cG (h2.kp (Kp.of (U:=UU) cV)) hb hk).mono ?_)
   rintro e w2 ⟨rfl,ba⟩
   skip
   refine ⟨_,rfl,ba,fun dR _ bb2=>wV rfl ?_⟩
   refine aa ?_
   refine aR ?_;intro wz kz bz
   exact ⟨by unfold dW;rw [e1,e2];rfl,bz⟩
 | true=>
 refine VO.call rfl rfl (fk Tryz.func68) (fun cG dQ cV=>(gY b true e2 _ cG (h2.kp (Kp.of (U:=UU) cV)) hb hk).mono ?_)
 rintro e w2 ⟨rfl,ba⟩
 skip
 refine ⟨_,rfl,ba,fun dR _ bb2=>wV rfl ?_⟩
 refine aa ?_
 obtain ⟨sg,me⟩:∃ sg,eg a.q 0=sg:=⟨_,rfl⟩
 have xp:dW a b keep=(decide (sg≥0) && (decide (eg a.q 1≤0) && (decide (keep≥0) && decide (keep≤40)))):=by unfold dW;rw [e1,e2,me];rfl
 rw [xp]
 refine VO.call rfl rfl (fk Tryz.func13) (fun eX fF fM=>(eR _ a.q k eX ((h1.iq ha).kp (Kp.of (U:=UU) fM)) ab sg me).mono ?_)
 rintro e w3 ⟨rfl,cC⟩
 skip
 refine ⟨_,rfl,cC,fun gZ _ bb3=>wV rfl ?_⟩
 refine aa ?_
 by_cases e3':sg < 0
 ·have e3:¬ sg≥0:=by omega
  rw [decide_eq_false e3]
  refine aa ?_
  refine aR ?_;intro wz kz bz
  exact ⟨rfl,bz⟩
 have e3:sg≥0:=by omega
 rw [decide_eq_true e3]
 refine aa ?_
 refine VO.call rfl rfl (fk Tryz.func44) (fun jg kZ kt=>(bX 1 jg ab ab).mono ?_)
 rintro e w4 ⟨r4,rfl,q4,fq⟩
 obtain ⟨s4,p4,n4,c4,t4,y4,m4,d4,rfl⟩:=q4.form
 refine ⟨_,rfl,fq,fun lz _ tH=>wV rfl ?_⟩
 refine aa ?_
 have h11:((1:Int):Rat)=1:=rfl
 rw [h11] at q4
 obtain ⟨cm,fX⟩:∃ cm,eg a.q 1=cm:=⟨_,rfl⟩
 rw [fX]
 refine VO.call rfl rfl (fk Tryz.func12) (fun gE ju ia=>(il _ _ a.q 1 k 1 gE ((h1.iq ha).kp (Kp.of (U:=UU) ia)) (q4.ki ⟨Sz.small bW,Sz.small bW⟩) ab ab cm fX).mono ?_)
 rintro e w5 ⟨rfl,eP⟩
 skip
 refine ⟨_,rfl,eP,fun jV _ qu=>wV rfl ?_⟩
 refine aa ?_
 by_cases e4':0 < cm
 ·have e4:¬ cm≤0:=by omega
  rw [decide_eq_false e4]
  refine aa ?_
  refine aR ?_;intro wz kz bz
  exact ⟨rfl,bz⟩
 have e4:cm≤0:=by omega
 rw [decide_eq_true e4]
 refine aa ?_
 by_cases e5':keep < 0
 ·have e5:¬ keep≥0:=by omega
  rw [decide_eq_false e5]
  refine aa ?_
  refine aR ?_;intro wz kz bz
  exact ⟨rfl,bz⟩
 have e5:keep≥0:=by omega
 rw [decide_eq_true e5]
 refine aa ?_
 refine aR ?_;intro wz kz bz
 exact ⟨rfl,bz⟩
theorem Jt (v:Value) (cs:List Value) (e:RR×RR) (k:Nat) (w:World) (hv:v=.agg cs.toArray) (h:si k w cs e) (hk:k≤100000):
  Calls Tryz.prog 38 #[v] w fun o w'=>o=.returned (.bool (e.1.ok && e.2.ok))/\aL w w':=by
 obtain ⟨_,_,rfl,⟨p,c,r,d,rfl,h1⟩,⟨p',c',r',d',rfl,h2⟩,ha,hb⟩:=h
 subst hv
 refine ag (C:=bP Tryz.prog w _) (args:=[_]) Tryz.func38 rfl Tryz.ntmps38 (bu rfl) ?_
 refine aa ?_
 cases e1:e.1.ok with
 | false=>
   refine VO.call rfl rfl (fk Tryz.func68) (fun bD cQ bG=>(gY e.1 false e1 _ bD (h1.kp (Kp.of (U:=UU) bG)) ha hk).mono ?_)
   rintro e w1 ⟨rfl,aI⟩
   skip
   refine ⟨_,rfl,aI,fun dt _ bb1=>wV rfl ?_⟩
   refine aa ?_
   refine aR ?_;intro wz kz bz
   exact ⟨rfl,bz⟩
 | true=>
 refine VO.call rfl rfl (fk Tryz.func68) (fun bD cQ bG=>(gY e.1 true e1 _ bD (h1.kp (Kp.of (U:=UU) bG)) ha hk).mono ?_)
 rintro e w1 ⟨rfl,aI⟩
 skip
 refine ⟨_,rfl,aI,fun dt _ bb1=>wV rfl ?_⟩
 refine aa ?_
 obtain ⟨b2,ba⟩:∃ b2,e.2.ok=b2:=⟨_,rfl⟩
 rw [ba]
 refine VO.call rfl rfl (fk Tryz.func68) (fun cG dQ cV=>(gY e.2 b2 ba _ cG (h2.kp (Kp.of (U:=UU) cV)) hb hk).mono ?_)
 rintro e w2 ⟨rfl,ba⟩
 skip
 refine ⟨_,rfl,ba,fun dR _ bb2=>wV rfl ?_⟩
 refine aa ?_
 refine aR ?_;intro wz kz bz
 exact ⟨rfl,bz⟩
def fO (e:RR×RR):Bool:=e.1.ok && e.2.ok
theorem LI (v:Value) (cs:List Value) (e:RR×RR) (k:Nat) (w:World) (hv:v=.agg cs.toArray) (h:si k w cs e) (hk:k≤100000) (b:Bool) (hb:fO e=b):
 Calls Tryz.prog 38 #[v] w fun o w'=>o=.returned (.bool b)/\aL w w':=hb▸Jt v cs e k w hv h hk
theorem En (v:Value) (cs:List Value) (e:RR×RR) (k:Nat) (w:World) (hv:v=.agg cs.toArray) (h:si k w cs e) (hk:k≤100000) (b:Bool) (hb:fO e=b):
  Calls Tryz.prog 37 #[v] w fun o w'=>o=.returned (.bool !b)/\aL w w':=by
 have h0:=h
 obtain ⟨_,_,rfl,⟨p,c,r,d,rfl,h1⟩,⟨p',c',r',d',rfl,h2⟩,ha,jU⟩:=h
 subst hv
 refine ag (C:=bP Tryz.prog w _) (args:=[_]) Tryz.func37 rfl Tryz.ntmps37 (bu rfl) ?_
 refine aa ?_
 refine VO.call rfl rfl (fk Tryz.func38) (fun bD cQ bG=>(LI _ _ e k bD rfl ((dV k).kp h0 (Kp.of (U:=UU) bG)) hk b hb).mono ?_)
 rintro e w1 ⟨rfl,aI⟩
 skip
 refine ⟨_,rfl,aI,fun dt _ bb1=>wV rfl ?_⟩
 refine aa ?_
 refine aR ?_;intro wz kz bz
 exact ⟨rfl,bz⟩
end
section
open Go.RowKit
section
variable {C:Cx} {F:Fr} {H:Hp} {w:World} {m:Option (List FuncId)} {full:Array Oper} {K:Fr->Hp->World->Prop} {o:Oper} {r:List Oper} {Q:Exit->Act->World->Prop} {k:List It}
def vM (F:Fr) (β bZ:Nat->Nat) (lo hi:Nat):List (Nat×AV)->Prop
 | []=>True
 | p::r=>(∃ u,F p.1=some u/\p.2.bl bZ=u.bl β/\∀ i∈p.2.ids,lo≤i/\i < hi)/\vM F β bZ lo hi r
theorem vM.mem {β bZ:Nat->Nat} {lo hi:Nat}:∀ {L:List (Nat×AV)} {d:Nat} {v:AV},vM F β bZ lo hi L->(d,v)∈L->∃ u,F d=some u/\v.bl bZ=u.bl β/\∀ i∈v.ids,lo≤i/\i < hi
 | p::r,d,v,h,hm=>by
   rcases List.mem_cons.1 hm with rfl | hm
   ·exact h.1
   ·exact vM.mem h.2 hm
theorem VS.vN (K:KC) (SU:TypeId->Bool) (ti:TypeId->Option TI) (keep:∀ (w':World) b,b < w'.heap.size->K.S b)
  (h:∀ w' β,bH C.K w w'->C.Old w'->Ends C β H w'->∃ (ad:List Nat) (l:List (TypeId×List AV)) (hl:jX K C.N ad l w') (L:List (Nat×AV)),vM F β (adB C.N ad) (2 * C.N) (2 * C.N + l.length) L/\
   VS (Pw C.P w' C.N K SU ti (keep w') ad hl.nodup hl.ad) Q k (Fr.of L) (Hp.PS (2 * C.N) l) w'):VS C Q k F H w:=fun β a w' hr hk=>by
 obtain ⟨ad,l,hl,L,hL,hv⟩:=h w' β hk hr.old ⟨hr.own,hr.apart⟩
 have xB:∀ i c,Hp.PS (2 * C.N) l i=some c->2 * C.N≤i/\l[i - 2 * C.N]? =some c:=fun i c hi=>by
  rw [Hp.pR] at hi
  split at hi
  ·exact ⟨by assumption,hi⟩
  ·cases hi
 have hsome:∀ i,Hp.PS (2 * C.N) l i≠none->2 * C.N≤i/\i - 2 * C.N < l.length:=fun i hi=>by
  cases hh:Hp.PS (2 * C.N) l i with
  | none=>exact absurd hh hi
  | some c=>
    obtain ⟨h1,h2⟩:=xB i c hh
    exact ⟨h1,(List.getElem?_eq_some_iff.1 h2).1⟩
 have hval:∀ k,k < ad.length->ad[k]? =some (ad.getD k 0):=fun k hk=>by simp [List.getD_eq_getElem?_getD,hk]
 refine hv (adB C.N ad) a w' ⟨hr.defers,hr.size,fun d v hd=> ?_,fun i t cs hi=> ?_,fun i j hi hj e=> ?_,fun d v hd i hi=> ?_,fun d v hd=> ?_,⟨fun i t cs hi=> ?_,fun i t cs hi=> ?_,fun i hi=> ?_⟩,(Pw C.P w' C.N K SU ti (keep w') ad hl.nodup hl.ad).rU⟩ (bH.refl _ _)
 ·obtain ⟨u,h1,h2,_⟩:=hL.mem (Fr.gR hd)
  rw [h2]
  exact hr.tmp d u h1
 ·obtain ⟨h1,h2⟩:=xB i _ hi
  have hlt:=(List.getElem?_eq_some_iff.1 h2).1
  obtain ⟨g1,g2⟩:=hl.ok _ (List.mem_of_getElem? h2)
  have hv:=hval (i - 2 * C.N) (by rw [hl.len];exact hlt)
  refine ⟨?_,g1,hl.cls _ _ _ hv h2,g2⟩
  show dm C.N ad w' i (adB C.N ad i)
  unfold dm
  rw [if_pos h1]
  exact hv
 ·obtain ⟨h1,h2⟩:=hsome i hi
  obtain ⟨h3,h4⟩:=hsome j hj
  have e1:=hval (i - 2 * C.N) (by rw [hl.len];exact h2)
  have e2:=hval (j - 2 * C.N) (by rw [hl.len];exact h4)
  have e':ad.getD (i - 2 * C.N) 0=ad.getD (j - 2 * C.N) 0:=e
  rw [<-e'] at e2
  have:=(List.getElem?_inj (by rw [hl.len];exact h2) hl.nodup).1 (e1.trans e2.symm)
  omega
 ·obtain ⟨u,h1,h2,h3⟩:=hL.mem (Fr.gR hd)
  obtain ⟨h4,h5⟩:=h3 i hi
  rw [Hp.pR,if_pos h4,List.getElem?_eq_getElem ab]
  simp
 ·obtain ⟨u,h1,h2,h3⟩:=hL.mem (Fr.gR hd)
  exact hr.fits d u h1
 ·obtain ⟨h1,h2⟩:=xB i _ hi
  exact hl.ok _ (List.mem_of_getElem? h2)
 ·obtain ⟨h1,h2⟩:=xB i _ hi
  intro j hj
  obtain ⟨h3,h4⟩:=hl.ids _ (List.mem_of_getElem? h2) j hj
  rw [Hp.pR,if_pos h3,List.getElem?_eq_getElem ab]
  simp
 ·have wh:2 * C.N + ad.length≤i:=hi
  rw [Hp.pR]
  split
  ·exact List.getElem?_eq_none (by rw [<-hl.len];omega)
  ·rfl
def MK (C:Cx) (Q:Exit->Act->World->Prop) (k:List It) (full:Array Oper) (o:Oper) (F:Fr) (H:Hp) (w:World):Prop:=
 ∃ (g:FuncId) (args:List AV) (vs:List Value) (D:World->Cx),stepOf C full F H o=.call (.fn g args)/\jD args=some vs/\qV C.P g/\(∀ w,(D w).P=C.P)/\(∀ w,(D w).N=C.N)/\(∀ w,Cx.Old (D w) w)/\
   ∀ w1,bH C.K w w1->C.Old w1->Calls C.P g vs.toArray w1 fun e w2=>∃ v L,e=.returned v/\Jk F L/\(∀ p∈L,o.dst≠some p.1)/\VS (D w2) Q k (Fr.vals L) (fun _=>none) w2
theorem VS.regionM (hC:C.Ok) {id:Nat} {ops:Array Oper} (j:Nat) {o:Oper} (hj:ops.toList.drop j=[o]) (hd:ops.toList.all oN=true) (ho:oN o=true)
  (h:aC C none ops (ops.toList.take j) (MK C Q k ops o) F H w):VS C Q (.code (.region id ops false)::k) F H w:=fun β a w' hr hk=>by
 refine (wpIn_wide (n:=0)).1 (wpIn_region_list ?_)
 rw [<-List.take_append_drop j ops.toList,hj]
 refine xY jN.wide hC (tl:=[o]) (fun β F H w a w' h hr hk=> ?_) (ops.toList.take j) (List.all_eq_true.2 fun o ho=>List.all_eq_true.1 hd o (List.mem_of_mem_take ho)) β F H w a w' h hr hk
 obtain ⟨g,args,vs,D,e,hv,hf,hP,hN,hO,iI⟩:=h
 refine wpListIn_step fun K hK=> ?_
 have hb:stepOf C ops F H o≠.bad:=fun e'=>by rw [e] at e';cases e'
 obtain ⟨je,⟨hw,hs⟩ | ⟨hw,hs⟩⟩:=kh hb
 ·rw [hs] at e;cases e
 ·rw [qY hr hw,if_pos rfl]
  refine jN.wide.op ho (MP hr (hs.symm.trans e) ?_)
  refine ⟨hf,?_⟩
  rw [kS hv,jl]
  refine (iI w' hk hr.old).mono ?_
  rintro e w2 ⟨v,L,rfl,hL,hLd,hcont⟩
  refine ⟨v,rfl,hK _ _ ?_⟩
  show post C.P Q k .normal _ w2
  have AA:=hr.knows hL
  have qO:Knows (D w2).N L (a.put o.dst v):=by
   rw [hN]
   cases hod:o.dst with
   | none=>exact AA
   | some d=>
     refine ⟨AA.defers,by simp [Act.put];exact AA.size,fun p hp=>⟨(AA.tmp p hp).1,?_⟩⟩
     have hne:d≠p.1:=fun e=>hLd p hp (by rw [hod,e])
     have:=(AA.tmp p hp).2
     simp [Act.put,Array.getD_eq_getD_getElem?,Array.getElem?_setIfInBounds,hne] at this ⊢
     exact this
  have:=hcont _ _ w2 (qO.rel (hO w2)) (bH.refl _ _)
  rw [hP] at this
  exact this
end
end
set_option maxRecDepth 4000
section
open Go.RowKit
attribute [local irreducible] aC VS
theorem FG {w:World} {b off i sz:Nat} {cs:List Value} (hc:∀ (j:Nat) (u:Value),cs[j]? =some u->w.cell? ⟨b,off + i * sz + j,none⟩=some u):∀ (j:Nat) (u:Value),cs[j]? =some u->w.cell? ((⟨b,off + ((i:Nat):Int).toNat * sz,none⟩:Addr).add j)=some u:=by
 intro j u hj
 rw [Addr.add_mid,Int.toNat_natCast]
 exact hc j u hj
theorem cls_at {w:World} {b:Nat} {t:TypeId} {cs:List Value} (h:bg w b t cs.toArray):∀ (j:Nat) (u:Value),cs[j]? =some u->w.cell? ((⟨b,0,none⟩:Addr).add j)=some u:=by
 intro j u hj
 rw [Addr.add_mid,Nat.zero_add]
 exact h.cell (by simpa using hj)
theorem LJ (v:Value) (l:List (RR×RR)) (k:Nat) (w:World) (hl:cO (si k) 8 w v l) (hk:k≤100000) (hlen:l.length≤100000):
  Calls Tryz.prog 69 #[v,.func (.func 37) #[] #[]] w fun o w'=>∃ i:Int,o=.returned (.int .i64 i)/\decide (i≥0)= !(l.all fO)/\aL w w':=by
 obtain ⟨p,c,rfl,fE,fX⟩:=hl.form
 obtain ⟨N,hN⟩:∃ N,N=l.length:=⟨_,rfl⟩
 rw [<-hN] at hl fE hlen
 rw [<-hN]
 refine ag (C:=bP Tryz.prog w _) (args:=[_,_]) Tryz.func69 rfl Tryz.ntmps69 (bu rfl) ?_
 refine aa ?_
 refine VS.loop (J:=fun m L M w'=>∃ z:Nat,z≤N/\m=N - z/\(l.take z).all fO=true/\L=[(0,.val (.slice p N c)),(1,.val (.func (.func 37) #[] #[])),(7,.val (.int .i64 (N:Int))),(8,.val (.int .i64 (z:Int)))]/\M=[]) N ⟨_,_,?_,?_,?_,?_,⟨0,by omega,rfl,rfl,rfl,rfl⟩⟩ ?_
 ·exact cd
 ·exact cd
 ·rfl
 ·exact iD
 rintro m L M w1 ⟨z,hz,rfl,fY,rfl,rfl⟩
 refine aa ?_
 by_cases hlt:z < N
 ·refine VS.aP rfl (decide_eq_true (Int.ofNat_lt.2 hlt)) ?_
  obtain ⟨x,hx⟩:∃ x,l[z]? =some x:=⟨_,List.getElem?_eq_getElem ab⟩
  obtain ⟨b,off,cs,fQ,hcs,hE⟩:=hl.at hx
  subst fQ
  obtain ⟨c1,c2,rfl,⟨p1,k1,r1,d1,rfl,e1⟩,⟨p2,k2,r2,d2,rfl,e2⟩,Ss,St⟩:=id hE
  refine aa ?_
  refine VO.cond rfl dw ?_
  refine wV rfl ?_
  refine aa ?_
  refine VO.read rfl [.bool x.1.1,.slice p1 x.1.2.1.length k1,.bool x.1.2.2.1,.slice r1 x.1.2.2.2.length d1,.bool x.2.1,.slice p2 x.2.2.1.length k2,.bool x.2.2.2.1,.slice r2 x.2.2.2.2.length d2] rfl (FG hcs) (wV rfl ?_)
  refine aa ?_
  cases hxo:fO x with
  | false=>
    refine VO.call rfl rfl (fk Tryz.func37) (fun bD cQ bG=>(En _ _ x k bD rfl ((dV k).kp hE (Kp.of (U:=UU) bG)) hk false hxo).mono ?_)
    rintro e w1 ⟨rfl,aI⟩
    skip
    refine ⟨_,rfl,aI,fun dt _ bb1=>wV rfl ?_⟩
    refine aa ?_
    refine aR ?_;intro wz kz bz
    refine ⟨_,rfl,?_,bz⟩
    have:l.all fO=false:=by
     rw [List.all_eq_false]
     exact ⟨x,List.mem_of_getElem? hx,by rw [hxo];simp⟩
    rw [this]
    exact decide_eq_true ab
  | true=>
    refine VO.call rfl rfl (fk Tryz.func37) (fun bD cQ bG=>(En _ _ x k bD rfl ((dV k).kp hE (Kp.of (U:=UU) bG)) hk true hxo).mono ?_)
    rintro e w1 ⟨rfl,aI⟩
    skip
    refine ⟨_,rfl,aI,fun dt _ bb1=>wV rfl ?_⟩
    refine aa ?_
    refine VS.back (N - (z + 1)) ab ⟨_,_,?_,?_,?_,?_,⟨z + 1,by omega,rfl,?_,rfl,rfl⟩⟩
    ·refine ⟨rfl,rfl,rfl,?_,trivial⟩
     rw [<-aF (i:=z) ab];rfl
    ·exact cd
    ·rfl
    ·exact iD
    ·rw [bS hx,List.all_append,fY]
     show (true && (fO x && true))=true
     rw [hxo];rfl
 ·refine VS.aQ rfl (decide_eq_false (fun e=>hlt (Int.ofNat_lt.1 e))) ?_
  refine aa ?_
  refine aR ?_;intro wz kz bz
  refine ⟨_,rfl,?_,bz⟩
  have:l.take z=l:=List.take_of_length_le ab
  rw [this] at fY
  rw [fY];rfl
theorem pY (v:Value) (l:List (RR×RR)) (k:Nat) (w:World) (hl:cO (si k) 8 w v l) (hk:k≤100000) (hlen:l.length≤100000) (b:Bool) (hb:l.all fO=b):
  Calls Tryz.prog 36 #[v,.func (.func 37) #[] #[]] w fun o w'=>o=.returned (.bool !b)/\aL w w':=by
 obtain ⟨p,c,rfl,fE,fX⟩:=hl.form
 refine ag (C:=bP Tryz.prog w _) (args:=[_,_]) Tryz.func36 rfl Tryz.ntmps36 (bu rfl) ?_
 refine aa ?_
 refine VO.call rfl rfl (fk Tryz.func69) (fun bD cQ bG=>(LJ _ l k bD (hl.bo (dV k) bG) hk hlen).mono ?_)
 rintro e w1 ⟨i,rfl,hi,aI⟩
 skip
 refine ⟨_,rfl,aI,fun dt _ bb1=>wV rfl ?_⟩
 refine aa ?_
 refine aR ?_;intro wz kz bz
 refine ⟨?_,bz⟩
 rw [<-hb,<-hi];rfl
theorem sj (v:Value) (a b:RR) (keep:Int) (k:Nat) (w:World) (h:fN w v a b keep) (ha:a.jF k) (hb:b.jF k) (hk:k≤100000) (x:Bool) (hx:dW a b keep=x):
 Calls Tryz.prog 35 #[v] w fun o w'=>o=.returned (.bool x)/\aL w w':=hx▸LH v a b keep k w h ha hb hk
theorem TS (v u:Value) (a b:RR) (keep:Int) (l:List (RR×RR)) (k:Nat) (w:World) (hR:fN w v a b keep) (ha:a.jF k) (hb:b.jF k) (hl:cO (si k) 8 w u l) (hk:k≤100000) (hlen:l.length≤100000) (hno:(dW a b keep && l.all fO)=false):
  Calls Tryz.prog 11 #[v,u] w fun o w'=>o=.returned (.tuple #[.agg #[.slice none 0 0,.slice none 0 0],.int .i64 2])/\aL w w':=by
 obtain ⟨pa,ca,ra,da,pb,cb,rb',db,rfl,ha1,aI⟩:=hR
 obtain ⟨pu,cu,rfl,fE,fX⟩:=hl.form
 have hR:fN w (.agg #[.bool a.1,.slice pa a.2.1.length ca,.bool a.2.2.1,.slice ra a.2.2.2.length da,.bool b.1,.slice pb b.2.1.length cb,.bool b.2.2.1,.slice rb' b.2.2.2.length db,.int .i64 keep]) a b keep:=⟨_,_,_,_,_,_,_,_,rfl,ha1,aI⟩
 refine ag (C:=bP Tryz.prog w _) (args:=[_,_]) Tryz.func11 rfl Tryz.ntmps11 (bu rfl) ?_
 refine aa ?_
 cases hr:dW a b keep with
 | false=>
   refine VO.call rfl rfl (fk Tryz.func35) (fun bD cQ bG=>(sj _ a b keep k bD (hR.kp (Kp.of (U:=UU) bG)) ha hb hk false hr).mono ?_)
   rintro e w1 ⟨rfl,aI⟩
   skip
   refine ⟨_,rfl,aI,fun dt _ bb1=>wV rfl ?_⟩
   refine aa ?_
   refine aR ?_;intro wz kz bz
   exact ⟨rfl,bz⟩
 | true=>
   rw [hr] at hno
   refine VO.call rfl rfl (fk Tryz.func35) (fun bD cQ bG=>(sj _ a b keep k bD (hR.kp (Kp.of (U:=UU) bG)) ha hb hk true hr).mono ?_)
   rintro e w1 ⟨rfl,aI⟩
   skip
   refine ⟨_,rfl,aI,fun dt _ bb1=>wV rfl ?_⟩
   refine aa ?_
   refine VO.call rfl rfl (fk Tryz.func36) (fun cG dQ cV=>(pY _ l k cG (hl.bo (dV k) cV) hk hlen false hno).mono ?_)
   rintro e w2 ⟨rfl,ba⟩
   skip
   refine ⟨_,rfl,ba,fun dR _ bb2=>wV rfl ?_⟩
   refine aa ?_
   refine aR ?_;intro wz kz bz
   exact ⟨rfl,bz⟩
theorem Qh (v u:Value) (a b:RR) (keep:Int) (l:List (RR×RR)) (k:Nat) (w:World) (hR:fN w v a b keep) (ha:a.jF k) (hb:b.jF k) (hl:cO (si k) 8 w u l) (hk:k≤100000) (hlen:l.length≤100000) (hr:dW a b keep=true) (hy:l.all fO=true) (h40:l.length > 40):
  Calls Tryz.prog 11 #[v,u] w fun o w'=>o=.returned (.tuple #[.agg #[.slice none 0 0,.slice none 0 0],.int .i64 3])/\aL w w':=by
 obtain ⟨pa,ca,ra,da,pb,cb,rb',db,rfl,ha1,aI⟩:=hR
 obtain ⟨pu,cu,rfl,fE,fX⟩:=hl.form
 have hR:fN w (.agg #[.bool a.1,.slice pa a.2.1.length ca,.bool a.2.2.1,.slice ra a.2.2.2.length da,.bool b.1,.slice pb b.2.1.length cb,.bool b.2.2.1,.slice rb' b.2.2.2.length db,.int .i64 keep]) a b keep:=⟨_,_,_,_,_,_,_,_,rfl,ha1,aI⟩
 refine ag (C:=bP Tryz.prog w _) (args:=[_,_]) Tryz.func11 rfl Tryz.ntmps11 (bu rfl) ?_
 refine aa ?_
 refine VO.call rfl rfl (fk Tryz.func35) (fun bD cQ bG=>(sj _ a b keep k bD (hR.kp (Kp.of (U:=UU) bG)) ha hb hk true hr).mono ?_)
 rintro e w1 ⟨rfl,aI⟩
 skip
 refine ⟨_,rfl,aI,fun dt _ bb1=>wV rfl ?_⟩
 refine aa ?_
 refine VO.call rfl rfl (fk Tryz.func36) (fun cG dQ cV=>(pY _ l k cG (hl.bo (dV k) cV) hk hlen true hy).mono ?_)
 rintro e w2 ⟨rfl,ba⟩
 skip
 refine ⟨_,rfl,ba,fun dR _ bb2=>wV rfl ?_⟩
 refine aa ?_
 refine VS.aP rfl (decide_eq_true (show (l.length:Int) > 40 by omega)) ?_
 refine aa ?_
 refine aR ?_;intro wz kz bz
 exact ⟨rfl,bz⟩
theorem SlZ.bo {α:Type} {E:World->List Value->α->Prop} {sz:Nat} (hE:gL E sz) {t:TypeId} {w w':World} {b:Nat} {v:Value} {es:List α} (h:SlZ E sz t w b v es) (hb:aL w w'):SlZ E sz t w' b v es:=by
 obtain ⟨n,c,vs,sp,h1,h2,h3⟩:=h
 exact ⟨n,c,vs,sp,h1,h2.bo hb,h3.kp hE (Kp.of (U:=UU) hb)⟩
theorem SlE.bo {α:Type} {E:World->List Value->α->Prop} {sz:Nat} (hE:gL E sz) {t:TypeId} {w w':World} {b:Nat} {v:Value} {es:List α} (h:SlE E sz t w b v es) (hb:aL w w'):SlE E sz t w' b v es:=by
 obtain ⟨off,n,c,pre,vs,sp,h1,h2,h3⟩:=h
 exact ⟨off,n,c,pre,vs,sp,h1,h2.bo hb,h3.kp hE (Kp.of (U:=UU) hb)⟩
theorem qj.bo {B g:Nat} {w w':World} {ad:List Nat} {s:Ke} (h:qj B w g ad s) (hb:aL w w'):qj B w' g ad s:=by
 obtain ⟨had,v,r,u,hg,h⟩:=h
 refine ⟨had,v,r,u,hg.bo hb,?_⟩
 rcases h with h | ⟨rb,h1,h2,h3,h4,h5,h6⟩ | ⟨vb,rb,h1,h2,h3,h4,h5⟩ | ⟨vb,rb,ub,h1,h2,h3,h4⟩
 ·exact .inl h
 ·exact .inr (.inl ⟨rb,h1,h2,h3,h4,h5,h6.bo (aA B) hb⟩)
 ·exact .inr (.inr (.inl ⟨vb,rb,h1,h2,h3,h4.bo (aO B) hb,h5.bo (aA B) hb⟩))
 ·exact .inr (.inr (.inr ⟨vb,rb,ub,h1,h2.bo (aO B) hb,h3.bo (aA B) hb,h4.bo (eh B) hb⟩))
theorem xq (S F:Rat) (keep:Nat) (l:List (Rat×Rat)) (y:Rat×Rat):jw S F keep (l++[y])=eC S F keep (jw S F keep l).rows.length (jw S F keep l) y:=by
 unfold jw
 rw [List.foldl_append];rfl
def cj (l:List (RR×RR)):List (Rat×Rat):=l.map fun e=>(e.1.q,e.2.q)
theorem oW {l:List (RR×RR)} {z:Nat} {x:RR×RR} (hx:l[z]? =some x):cj (l.take (z + 1))=cj (l.take z)++[(x.1.q,x.2.q)]:=by
 unfold cj
 rw [bS hx,List.map_append];rfl
theorem Ju {B:Nat} {w:World} {cs new:List Value} {r:aM} {x:Rat} (h:eI B w cs r) (hx:R4 B w new x):eI B w (cs.take 24++(new++cs.drop (24 + new.length))) { r with closing:=x }:=by
 obtain ⟨a,b,c,d,e,f,g,rfl,h1,h2,h3,h4,h5,h6,h7⟩:=h
 refine ⟨a,b,c,d,e,f,new,?_,h1,h2,h3,h4,h5,h6,hx⟩
 have l1:=h1.len
 have l2:=h2.len
 have l3:=h3.len
 have l4:=h4.len
 have l5:=h5.len
 have l6:=h6.len
 have l7:=h7.len
 rw [hx.len]
 have e3:a++(b++(c++(d++(e++(f++g)))))=(a++b++c++d++e++f)++g:=by simp
 have e4:(a++b++c++d++e++f).length=24:=by simp [l1,l2,l3,l4,l5,l6]
 have t1:(a++(b++(c++(d++(e++(f++g)))))).take 24=a++b++c++d++e++f:=by rw [e3,<-e4,List.take_left'];rfl
 have t2:(a++(b++(c++(d++(e++(f++g)))))).drop 28=[]:=List.drop_of_length_le (by simp [l1,l2,l3,l4,l5,l6,l7])
 rw [t1,t2]
 simp
abbrev rM:TypeId:=36
abbrev Qi:TypeId:=28
theorem qj.ty {B g:Nat} {w:World} {ad:List Nat} {s:Ke} (h:qj B w g ad s):∀ b∈ad,∃ t cs,bg w b t cs/\t≠Qi/\t≠rM:=by
 obtain ⟨had,v,r,u,hg,h⟩:=h
 have key:∀ {t:TypeId} {b:Nat} {cs:Array Value},bg w b t cs->(t=Runner\/t=dG\/t=eT\/t=fy)->∃ t cs,bg w b t cs/\t≠Qi/\t≠rM:=fun {t b cs} hc ht=>⟨t,cs,hc,by rcases ht with rfl | rfl | rfl | rfl <;> decide,by rcases ht with rfl | rfl | rfl | rfl <;> decide⟩
 intro b hb
 rcases h with ⟨rfl,_⟩ | ⟨rb,rfl,_,_,_,_,_,_,_,_,_,h2,_⟩ | ⟨vb,rb,rfl,_,_,⟨_,_,_,_,_,_,_,h3,_⟩,_,_,_,_,_,h2,_⟩ | ⟨vb,rb,ub,rfl,⟨_,_,_,_,_,_,_,h3,_⟩,⟨_,_,_,_,_,h2,_⟩,_,_,_,_,_,h4,_⟩
 ·rw [List.mem_singleton.1 hb];exact key hg (.inl rfl)
 ·simp only [List.mem_cons,List.not_mem_nil,or_false] at hb
  rcases hb with rfl | rfl
  ·exact key hg (.inl rfl)
  ·exact key h2 (.inr (.inr (.inl rfl)))
 ·simp only [List.mem_cons,List.not_mem_nil,or_false] at hb
  rcases hb with rfl | rfl | rfl
  ·exact key hg (.inl rfl)
  ·exact key h3 (.inr (.inl rfl))
  ·exact key h2 (.inr (.inr (.inl rfl)))
 ·simp only [List.mem_cons,List.not_mem_nil,or_false] at hb
  rcases hb with rfl | rfl | rfl | rfl
  ·exact key hg (.inl rfl)
  ·exact key h3 (.inr (.inl rfl))
  ·exact key h2 (.inr (.inr (.inl rfl)))
  ·exact key h4 (.inr (.inr (.inr rfl)))
theorem TT {B:Nat} {w:World} {vb off n c z:Nat} {pre spare:List Value} {vs:List (List Value)} {q:List Vq} {p:Vq} (hc:bg w vb dG (pre++(vs.flatten++spare)).toArray) (h:dT (dz B) 5 w n off c pre vs spare q) (hp:q[z]? =some p):
  ∃ cs,(∀ (j:Nat) (u:Value),cs[j]? =some u->w.cell? ⟨vb,off + z * 5 + j,none⟩=some u)/\dz B w cs p:=by
 obtain ⟨cs,hcs,hE⟩:=h.el.at z p hp
 refine ⟨cs,fun j u hj=>hc.cell ?_,hE⟩
 have hzl:=(List.getElem?_eq_some_iff.1 hp).1
 have Kk:=h.len
 have hle:=h.le
 have jQ:pre.length=off:=h.pl.resolve_right ab
 have iI:cs.length=5:=(aO B).len hE
 have hjl:=(List.getElem?_eq_some_iff.1 hj).1
 obtain ⟨hlt,hx⟩:=List.getElem?_eq_some_iff.1 hcs
 have CO:vs=vs.take z++cs::vs.drop (z + 1):=by rw [<-hx,<-List.drop_eq_getElem_cons hlt,List.take_append_drop]
 have hal:(vs.take z).flatten.length=z * 5:=by
  rw [dB (fun y hy=>h.el.lens (aO B) y (List.mem_of_mem_take hy)),List.length_take,Nat.min_eq_left ab]
 rw [List.getElem?_toArray,List.getElem?_append_right ab,jQ,CO,List.flatten_append,List.append_assoc,List.getElem?_append_right ab,hal,List.flatten_cons,List.append_assoc,show off + z * 5 + j - off - z * 5=j by omega,List.getElem?_append_left hjl]
 exact hj
theorem qk {w:World} {N:Nat} {ad:List Nat} {hd:ad.Nodup} {ha:uV (KU UU) ad w} {b off:Nat} {cs:List Value} (hb:b < w.heap.size) (hn:b∉ad) (hc:∀ (j:Nat) (u:Value),cs[j]? =some u->w.cell? ((⟨b,off,none⟩:Addr).add j)=some u):∀ (j:Nat) (u:Value),cs[j]? =some u->(QU Tryz.prog w N ad hd ha).At ((⟨b,off,none⟩:Addr).add j) u:=by
 intro j u hj w1 zH
 have h:=hc j u hj
 rw [Addr.add_mid] at h ⊢
 rw [World.cell?_of_block (w:=w) (a:=⟨b,off + j,none⟩) (zH.1.qq b hb hn)]
 exact h
theorem Jv {cs new:List Value} (h:cs.length=28) (hn:new.length=4):(cs.take 24++(new++cs.drop (24 + new.length))).length=28:=by
 rw [List.length_append,List.length_append,List.length_take,List.length_drop,h,hn];rfl
structure FH (D:Nat) (M S F:Rat) (kk:Nat) (l:List (Rat×Rat)):Prop where
 el:∀ e∈l,Iz D (ay S F e.2)/\ay S F e.2≤M/\Iz D e.1/\-M≤e.1/\e.1≤M
 sz:∀ x,Iz D x->-(M + M)≤x->x≤M + M->et x kk
def vO (B:Nat) (w:World) (r u:Value) (x:List aM×List Uq):Prop:=
 ((r=.slice none 0 0/\x.1=[])\/∃ rb,B≤rb/\SlZ (eI B) 28 eT w rb r x.1)/\((u=.slice none 0 0/\x.2=[])\/∃ ub,B≤ub/\SlZ (qy B) 6 fy w ub u x.2)
def RunJ (w:World) (B D:Nat) (M:Rat) (a b:RR) (kn:Nat) (l:List (RR×RR)) (N cu:Nat) (pu:Option Addr) (rul:List Value) (g b2 b4:Nat) (n:Nat) (L:List (Nat×Value)) (W:World):Prop:=
 ∃ (z:Nat) (ad:List Nat),z≤N/\n=N - z/\L=[(2,.pointer (some ⟨b2,0,none⟩)),(4,.pointer (some ⟨b4,0,none⟩)),(6,.pointer (some ⟨g,0,none⟩)),(27,.slice pu N cu),(28,.int .i64 (N:Int)),(29,.int .i64 (z:Int))]/\
   qj B W g ad (jw a.q b.q kn (cj (l.take z)))/\Jq D M (jw a.q b.q kn (cj (l.take z)))/\(jw a.q b.q kn (cj (l.take z))).rows.length=z/\bg W b2 Qi rul.toArray/\bg W b4 rM #[.slice none 0 0,.slice none 0 0]/\aL w W
set_option maxRecDepth 4000 in
theorem Nr (v u:Value) (a b:RR) (kn:Nat) (l:List (RR×RR)) (ks kk D:Nat) (M:Rat) (w:World) (hR:fN w v a b (kn:Int)) (ha:a.jF ks) (hb:b.jF ks) (hl:cO (si ks) 8 w u l) (vH:1≤ks) (CT:ks≤kk) (Eb:kk≤100000) (hr:dW a b (kn:Int)=true) (hy:l.all fO=true) (h40:l.length≤40) (qO:kn≤40) (hM:FH D M a.q b.q kk (cj l)):
  Calls Tryz.prog 11 #[v,u] w fun o w'=>∃ r u',o=.returned (.tuple #[.agg #[r,u'],.int .i64 0])/\vO w.heap.size w' r u' (qw a.q b.q kn (cj l))/\aL w w':=by
 obtain ⟨pa,ca,ra,da,pb,cb,rb',db,rfl,ha1,aI⟩:=hR
 obtain ⟨pu,cu,rfl,fE,fX⟩:=hl.form
 have hR:fN w (.agg #[.bool a.1,.slice pa a.2.1.length ca,.bool a.2.2.1,.slice ra a.2.2.2.length da,.bool b.1,.slice pb b.2.1.length cb,.bool b.2.2.1,.slice rb' b.2.2.2.length db,.int .i64 (kn:Int)]) a b (kn:Int):=⟨_,_,_,_,_,_,_,_,rfl,ha1,aI⟩
 have hk:ks≤100000:=by omega
 obtain ⟨N,hN⟩:∃ N,N=l.length:=⟨_,rfl⟩
 rw [<-hN] at hl fE h40
 rw [<-hN]
 refine ag (C:=bP Tryz.prog w _) (args:=[_,_]) Tryz.func11 rfl Tryz.ntmps11 (bu rfl) ?_
 refine aa ?_
 refine VO.call rfl rfl (fk Tryz.func35) (fun bD cQ bG=>(sj _ a b (kn:Int) ks bD (hR.kp (Kp.of (U:=UU) bG)) ha hb hk true hr).mono ?_)
 rintro e w1 ⟨rfl,aI⟩
 skip
 refine ⟨_,rfl,aI,fun dt _ bb1=>wV rfl ?_⟩
 refine aa ?_
 refine VO.call rfl rfl (fk Tryz.func36) (fun cG dQ cV=>(pY _ l ks cG (hl.bo (dV ks) cV) hk ab true hy).mono ?_)
 rintro e w2 ⟨rfl,ba⟩
 skip
 refine ⟨_,rfl,ba,fun dR _ bb2=>wV rfl ?_⟩
 refine aa ?_
 refine VS.aQ rfl (decide_eq_false (show ¬ (N:Int) > 40 by omega)) ?_
 refine aa ?_
 refine VS.Th (fun w=>bP Tryz.prog w 66) (fun _=>rfl) (fun _=>rfl) (fun _=>aL.refl _) (fun w9 β k9 b9 en=> ?_)
 have c2:=(en.own 2 _ _ rfl).cls
 have c4:=(en.own 4 _ _ rfl).cls
 have cg:=(en.own 26 _ _ rfl).cls
 have n2:w.heap.size≤β 2:=(en.own 2 _ _ rfl).new
 have n4:w.heap.size≤β 4:=(en.own 4 _ _ rfl).new
 have ng:w.heap.size≤β 26:=(en.own 26 _ _ rfl).new
 refine ⟨[(2,.val (.pointer (some ⟨β 2,0,none⟩))),(4,.val (.pointer (some ⟨β 4,0,none⟩))),(6,.val (.pointer (some ⟨β 26,0,none⟩))),(27,.val (.slice pu N cu)),(28,.val (.int .i64 (N:Int))),(29,.val (.int .i64 0))],⟨⟨_,_,rfl,rfl,rfl⟩,⟨_,_,rfl,rfl,rfl⟩,⟨_,_,rfl,rfl,rfl⟩,⟨_,_,rfl,rfl,rfl⟩,⟨_,_,rfl,rfl,rfl⟩,⟨_,_,rfl,rfl,rfl⟩,trivial⟩,?_⟩
 clear en
 generalize β 2=b2 at *
 generalize β 4=b4 at *
 generalize β 26=g at *
 refine VS.loopR (J:=RunJ w w.heap.size D M a b kn l N cu pu [.bool a.1,.slice pa a.2.1.length ca,.bool a.2.2.1,.slice ra a.2.2.2.length da,.bool b.1,.slice pb b.2.1.length cb,.bool b.2.2.1,.slice rb' b.2.2.2.length db,.int .i64 (kn:Int)] g b2 b4) (fun w=>bP Tryz.prog w 66) (fun _=>rfl) (fun _=>rfl) (fun _=>aL.refl _) N (fun w' k' o'=>⟨[(2,.pointer (some ⟨b2,0,none⟩)),(4,.pointer (some ⟨b4,0,none⟩)),(6,.pointer (some ⟨g,0,none⟩)),(27,.slice pu N cu),(28,.int .i64 (N:Int)),(29,.int .i64 0)],⟨rfl,rfl,rfl,rfl,rfl,rfl,trivial⟩,0,[g],by omega,rfl,rfl,⟨fun x hx=>by rw [List.mem_singleton.1 hx];exact ng,_,_,_,cg.bo o',.inl ⟨rfl,rfl,rfl,rfl,rfl,rfl,rfl⟩⟩,⟨fun p hp=>(by cases hp),Nat.le_refl _⟩,rfl,c2.bo o',c4.bo o',b9.aN o'⟩) ?_
 rintro n L W ⟨z,ad,hz,rfl,rfl,hrun,hst,pj,iB,uB,lX⟩
 refine aa ?_
 have hlW:=hl.bo (dV ks) lX
 by_cases hlt:z < N
 ·refine VS.aP rfl (decide_eq_true (Int.ofNat_lt.2 hlt)) ?_
  obtain ⟨x,hx⟩:∃ x,l[z]? =some x:=⟨_,List.getElem?_eq_getElem ab⟩
  obtain ⟨bx,off,cs,fQ,hcs,hE⟩:=hlW.at hx
  subst fQ
  obtain ⟨c1,c2',rfl,⟨p1,k1,r1,d1,rfl,e1⟩,⟨p2,k2,r2,d2,rfl,e2⟩,Ss,St⟩:=id hE
  obtain ⟨m1,m2,m3,m4,m5⟩:=hM.el (x.1.q,x.2.q) (List.mem_map.2 ⟨x,List.mem_of_getElem? hx,rfl⟩)
  refine aa ?_
  refine VO.cond rfl dw (wV rfl ?_)
  refine VO.read rfl [.bool x.1.1,.slice p1 x.1.2.1.length k1,.bool x.1.2.2.1,.slice r1 x.1.2.2.2.length d1,.bool x.2.1,.slice p2 x.2.2.1.length k2,.bool x.2.2.2.1,.slice r2 x.2.2.2.2.length d2] rfl (FG hcs) (wV rfl ?_)
  (repeat (first | refine wN ?_ | refine wP rfl ?_ | refine wO rfl rfl ?_))
  refine VS.regionM (cK _ _) 4 rfl rfl rfl (VO.run 80 rfl ?_)
  refine VO.read rfl [.bool a.1,.slice pa a.2.1.length ca,.bool a.2.2.1,.slice ra a.2.2.2.length da,.bool b.1,.slice pb b.2.1.length cb,.bool b.2.2.1,.slice rb' b.2.2.2.length db,.int .i64 (kn:Int)] rfl (cls_at iB) (wV rfl ?_)
  refine VO.nil ⟨_,_,_,fun w=>bP Tryz.prog w 66,rfl,rfl,fk Tryz.func39,fun _=>rfl,fun _=>rfl,fun _=>aL.refl _,fun w1 LD b1=> ?_⟩
  have aI:aL W w1:=b1
  have hY:=Qg (kk:=kk) (ks:=ks) (D:=D) (M:=M) (hrun.bo aI) ((hR.kp (Kp.of (U:=UU) (lX.aN aI))).v ha hb) (e:=(x.1.q,x.2.q)) (u:=.agg #[.bool x.1.1,.slice p1 x.1.2.1.length k1,.bool x.1.2.2.1,.slice r1 x.1.2.2.2.length d1,.bool x.2.1,.slice p2 x.2.2.1.length k2,.bool x.2.2.2.1,.slice r2 x.2.2.2.2.length d2]) ⟨_,_,_,_,_,_,_,_,_,_,_,_,_,_,_,_,rfl,(e1.kp (Kp.of (U:=UU) aI)).iq Ss,(e2.kp (Kp.of (U:=UU) aI)).iq St⟩ vH CT Eb m1 m2 m3 m4 m5 hM.sz hst ab qO (lX.aN aI).size
  rw [pj] at hY
  refine hY.mono ?_
  rintro o w2 ⟨rfl,hbut,TF,hrun2⟩
  have hnb:=(hrun.bo aI).ty
  have hB2:bg w2 b2 Qi [.bool a.1,.slice pa a.2.1.length ca,.bool a.2.2.1,.slice ra a.2.2.2.length da,.bool b.1,.slice pb b.2.1.length cb,.bool b.2.2.1,.slice rb' b.2.2.2.length db,.int .i64 (kn:Int)].toArray:=(hbut.qq b2 (iB.bo aI).lt (fun hm=>by obtain ⟨t,cs,h1,h2,_⟩:=hnb b2 hm;exact h2 (bN h1 (iB.bo aI)))).trans (iB.bo aI)
  have hB4:bg w2 b4 rM #[.slice none 0 0,.slice none 0 0]:=(hbut.qq b4 (uB.bo aI).lt (fun hm=>by obtain ⟨t,cs,h1,_,h2⟩:=hnb b4 hm;exact h2 (bN h1 (uB.bo aI)))).trans (uB.bo aI)
  refine ⟨_,[(2,.pointer (some ⟨b2,0,none⟩)),(4,.pointer (some ⟨b4,0,none⟩)),(6,.pointer (some ⟨g,0,none⟩)),(27,.slice (some ⟨bx,off,none⟩) N cu),(28,.int .i64 (N:Int)),(29,.int .i64 (z:Int))],rfl,⟨rfl,rfl,rfl,rfl,rfl,rfl,trivial⟩,fun p hp e=> ?_,?_⟩
  ·simp only [List.mem_cons,List.not_mem_nil,or_false] at hp
   rcases hp with rfl | rfl | rfl | rfl | rfl | rfl <;> cases e
  refine aa ?_
  refine VS.backR rfl (N - (z + 1)) ab [(2,.pointer (some ⟨b2,0,none⟩)),(4,.pointer (some ⟨b4,0,none⟩)),(6,.pointer (some ⟨g,0,none⟩)),(27,.slice (some ⟨bx,off,none⟩) N cu),(28,.int .i64 (N:Int)),(29,.int .i64 ((z + 1:Nat):Int))] ⟨rfl,rfl,rfl,rfl,rfl,?_,trivial⟩ (fun w3 k3 b3=> ?_)
  ·rw [<-aF (i:=z) ab];rfl
  have cC:aL w2 w3:=b3
  obtain ⟨y1,y2⟩:=year_ok (keep:=kn) hst m1 m2 m3 m4 m5
  rw [pj] at y1 y2
  refine ⟨z + 1,TF,by omega,rfl,rfl,?_,?_,?_,hB2.bo cC,hB4.bo cC,(tw.bo (lX.aN aI) hbut (hrun.bo aI).1).aN cC⟩
  ·rw [oW hx,xq,pj];exact hrun2.bo cC
  ·rw [oW hx,xq,pj];exact y1
  ·rw [oW hx,xq,pj];exact y2
 refine VS.aQ rfl (decide_eq_false (fun e=>hlt (Int.ofNat_lt.1 e))) ?_
 have LK:z=N:=by omega
 have htk:l.take z=l:=List.take_of_length_le ab
 rw [htk] at hrun hst pj
 refine aa ?_
 obtain ⟨had,vv,rr,uu,hg,hcase⟩:=hrun
 have nG:w.heap.size≤g:=ng
 rcases hcase with ⟨rfl,rfl,rfl,rfl,TU,sW,HI⟩ | ⟨rb,rfl,rfl,rfl,TU,HI,nr,cr,kM,nH,rfl,Em,hRr⟩ | ⟨vb,rb,rfl,rfl,HI,⟨off,nq,cq,pre,TL,TK,rfl,Gy,hVr⟩,nr,cr,kM,nH,rfl,Em,hRr⟩ | ⟨vb,rb,ub,rfl,⟨off,nq,cq,pre,TL,TK,rfl,Gy,hVr⟩,⟨nr,cr,kM,nH,rfl,Em,hRr⟩,nu,cu',xn,yd,rfl,hcU,hUr⟩
 ·refine VO.read rfl [.slice none 0 0] rfl (fun j u hj=> ?_) (wV rfl ?_)
  ·match j,hj with
   | 0,hj=>cases hj;exact hg.cell rfl
   | j + 1,hj=>cases hj
  refine aa ?_
  refine VS.vN (KU UU) (fun t=>Nat.beq t 22) table (fun _ _ _=>trivial) (fun w5 β5 k5 b5 en5=> ?_)
  have Ka:=hg.bo b5
  have vP:=uB.bo b5
  have Qf:b4≠g:=fun e=>by subst e;exact absurd (bN vP Ka) bW
  have sH:jX (KU UU) 66 [b4,g] [(rM,[.val (.slice none 0 0),.val (.slice none 0 0)]),(Runner,[.val (.slice none 0 0),.val (.slice none 0 0),.val (.slice none 0 0)])] w5:=by
   refine ⟨rfl,by simp [Qf],fun j g' c' hj hc=> ?_,fun c' hc=> ?_,fun c' hc k hk=> ?_⟩
   ·match j,hj,hc with
    | 0,hj,hc=>cases hj;cases hc;exact vP
    | 1,hj,hc=>cases hj;cases hc;exact Ka
    | j + 2,hj,_=>simp at hj
   ·simp only [List.mem_cons,List.not_mem_nil,or_false] at hc
    rcases hc with rfl | rfl
    ·exact ⟨rfl,rfl⟩
    ·exact ⟨rfl,rfl⟩
   ·simp only [List.mem_cons,List.not_mem_nil,or_false] at hc
    rcases hc with rfl | rfl
    ·cases hk
    ·cases hk
  refine ⟨[b4,g],_,sH,[(4,.box 132 0),(6,.box 133 0),(44,.val (.slice none 0 0)),(45,.val (.int .i64 ((0:Nat):Int))),(46,.val (.int .i64 0))],⟨?_,?_,⟨_,rfl,rfl,fun i hi=>by cases hi⟩,⟨_,rfl,rfl,fun i hi=>by cases hi⟩,⟨_,rfl,rfl,fun i hi=>by cases hi⟩,trivial⟩,?_⟩
  ·refine ⟨_,rfl,rfl,fun i hi=> ?_⟩
   have:i=132:=by simpa [AV.ids] using hi
   subst this;exact ⟨by show 132≤132;omega,by show 132 < 2 * 66 + 2;omega⟩
  ·refine ⟨_,rfl,rfl,fun i hi=> ?_⟩
   have:i=133:=by simpa [AV.ids] using hi
   subst this;exact ⟨by show 132≤133;omega,by show 133 < 2 * 66 + 2;omega⟩
  refine VS.loop (J:=fun m L M w'=>L=[(4,.box 132 0),(6,.box 133 0),(44,.val (.slice none 0 0)),(45,.val (.int .i64 ((0:Nat):Int))),(46,.val (.int .i64 0))]/\M=[(132,(rM,[.val (.slice none 0 0),.val (.slice none 0 0)])),(133,(Runner,[.val (.slice none 0 0),.val (.slice none 0 0),.val (.slice none 0 0)]))]) 0 ⟨_,_,?_,?_,?_,?_,⟨rfl,rfl⟩⟩ ?_
  ·exact cd
  ·exact cd
  ·rfl
  ·exact ⟨.lit rfl,.lit rfl,trivial⟩
  rintro m L M w6 ⟨rfl,rfl⟩
  refine af ?_
  refine VS.lp (bF _ _) rfl (fun wz βz kz oz enz=> ?_)
  have KT:aL w wz:=tw.bo (lX.aN b5) oz.1 (fun x hx=>by simp only [List.mem_cons,List.not_mem_nil,or_false] at hx;rcases hx with rfl | rfl <;> assumption)
  refine ⟨_,_,rfl,?_,KT⟩
  show vO w.heap.size wz _ _ (dL (jw a.q b.q kn (cj l)).q (jw a.q b.q kn (cj l)).rows,(jw a.q b.q kn (cj l)).uses)
  rw [TU,sW,HI]
  exact ⟨.inl ⟨rfl,rfl⟩,.inl ⟨rfl,rfl⟩⟩
 ·obtain ⟨rows,sW⟩:∃ rows,(jw a.q b.q kn (cj l)).rows=rows:=⟨_,rfl⟩
  rw [sW] at hRr
  have nRb:w.heap.size≤rb:=had rb cw
  refine VO.read rfl [.slice none 0 0] rfl (fun j u hj=> ?_) (wV rfl ?_)
  ·match j,hj with
   | 0,hj=>cases hj;exact hg.cell rfl
   | j + 1,hj=>cases hj
  refine aa ?_
  refine VS.vN (KU UU) (fun t=>Nat.beq t 22) table (fun _ _ _=>trivial) (fun w5 β5 k5 b5 en5=> ?_)
  have Ka:=hg.bo b5
  have vP:=uB.bo b5
  have Cb:=Em.bo b5
  have hR5:=hRr.kp (aA w.heap.size) (Kp.of (U:=UU) b5)
  have Qf:b4≠g:=fun e=>by subst e;exact absurd (bN vP Ka) bW
  have h02:b4≠rb:=fun e=>by subst e;exact absurd (bN vP Cb) bW
  have Ea:g≠rb:=fun e=>by subst e;exact absurd (bN Ka Cb) bW
  have sH:jX (KU UU) 66 [b4,g,rb] [(rM,[.val (.slice none 0 0),.val (.slice none 0 0)]),(Runner,[.val (.slice none 0 0),.row 134 0 nr cr,.val (.slice none 0 0)]),(eT,kM.flatten.map .val++nH.map .val)] w5:=by
   refine ⟨rfl,by simp [Qf,h02,Ea],fun j g' c' hj hc=> ?_,fun c' hc=> ?_,fun c' hc k hk=> ?_⟩
   ·match j,hj,hc with
    | 0,hj,hc=>cases hj;cases hc;exact vP
    | 1,hj,hc=>cases hj;cases hc;exact Ka
    | 2,hj,hc=>cases hj;cases hc;rw [<-List.map_append,ah];exact Cb
    | j + 3,hj,_=>simp at hj
   ·simp only [List.mem_cons,List.not_mem_nil,or_false] at hc
    rcases hc with rfl | rfl | rfl
    ·exact ⟨rfl,rfl⟩
    ·exact ⟨rfl,rfl⟩
    ·exact ⟨rfl,by rw [<-List.map_append];exact bh (hR5.all (aA _))⟩
   ·simp only [List.mem_cons,List.not_mem_nil,or_false] at hc
    rcases hc with rfl | rfl | rfl
    ·cases hk
    ·have:k=134:=by simpa [ax,AV.cT] using hk
     subst this;exact ⟨by omega,by show 134 < 2 * 66 + 3;omega⟩
    ·rw [<-List.map_append,ai] at hk;cases hk
  refine ⟨[b4,g,rb],_,sH,[(4,.box 132 0),(6,.box 133 0),(44,.val (.slice none 0 0)),(45,.val (.int .i64 ((0:Nat):Int))),(46,.val (.int .i64 0))],⟨?_,?_,⟨_,rfl,rfl,fun i hi=>by cases hi⟩,⟨_,rfl,rfl,fun i hi=>by cases hi⟩,⟨_,rfl,rfl,fun i hi=>by cases hi⟩,trivial⟩,?_⟩
  ·refine ⟨_,rfl,rfl,fun i hi=> ?_⟩
   have:i=132:=by simpa [AV.ids] using hi
   subst this;exact ⟨by show 132≤132;omega,by show 132 < 2 * 66 + 3;omega⟩
  ·refine ⟨_,rfl,rfl,fun i hi=> ?_⟩
   have:i=133:=by simpa [AV.ids] using hi
   subst this;exact ⟨by show 132≤133;omega,by show 133 < 2 * 66 + 3;omega⟩
  refine VS.loop (J:=fun m L M w'=>L=[(4,.box 132 0),(6,.box 133 0),(44,.val (.slice none 0 0)),(45,.val (.int .i64 ((0:Nat):Int))),(46,.val (.int .i64 0))]/\M=[(132,(rM,[.val (.slice none 0 0),.val (.slice none 0 0)])),(133,(Runner,[.val (.slice none 0 0),.row 134 0 nr cr,.val (.slice none 0 0)])),(134,(eT,kM.flatten.map .val++nH.map .val))]/\bH (KU UU) w5 w') 0 ⟨_,_,?_,?_,?_,?_,⟨rfl,rfl,kR _⟩⟩ ?_
  ·exact cd
  ·exact cd
  ·rfl
  ·exact ⟨.lit rfl,.lit rfl,.append (.vals _) (.vals _),trivial⟩
  rintro m L M w6 ⟨rfl,rfl,kw6⟩
  refine af ?_
  refine VS.lp (bF _ _) rfl (fun wz βz kz oz enz=> ?_)
  have KT:aL w wz:=tw.bo (lX.aN b5) oz.1 (fun x hx=>by simp only [List.mem_cons,List.not_mem_nil,or_false] at hx;rcases hx with rfl | rfl | rfl <;> assumption)
  obtain ⟨o5,o6⟩:=fo (enz.own 134 _ _ rfl) 2 rb rfl rfl
  replace o5:βz 134=rb:=o5
  rw [List.map_append,ah] at o6
  refine ⟨_,_,rfl,?_,KT⟩
  show vO w.heap.size wz _ _ (dL (jw a.q b.q kn (cj l)).q (jw a.q b.q kn (cj l)).rows,(jw a.q b.q kn (cj l)).uses)
  rw [TU,sW,HI]
  exact ⟨.inr ⟨rb,nRb,_,_,_,_,congrArg (fun g=>Value.slice (some ⟨g,0,none⟩) nr cr) o5,o6,(hR5.a.kp (aA _) aU).o βz⟩,.inl ⟨rfl,rfl⟩⟩
 ·obtain ⟨q,TU⟩:∃ q,(jw a.q b.q kn (cj l)).q=q:=⟨_,rfl⟩
  obtain ⟨rows,sW⟩:∃ rows,(jw a.q b.q kn (cj l)).rows=rows:=⟨_,rfl⟩
  rw [sW] at hRr
  rw [TU] at hVr
  have nRb:w.heap.size≤rb:=had rb cw
  have hv4:vb≠b4:=fun e=>by subst e;exact absurd (bN Gy uB) bW
  have hvg:vb≠g:=fun e=>by subst e;exact absurd (bN Gy hg) bW
  have hvr:vb≠rb:=fun e=>by subst e;exact absurd (bN Gy Em) bW
  refine VO.read rfl [.slice (some ⟨vb,off,none⟩) nq cq] rfl (fun j u hj=> ?_) (wV rfl ?_)
  ·match j,hj with
   | 0,hj=>cases hj;exact hg.cell rfl
   | j + 1,hj=>cases hj
  refine aa ?_
  refine VS.vN (KU UU) (fun t=>Nat.beq t 22) table (fun _ _ _=>trivial) (fun w5 β5 k5 b5 en5=> ?_)
  have Ka:=hg.bo b5
  have vP:=uB.bo b5
  have Cb:=Em.bo b5
  have hR5:=hRr.kp (aA w.heap.size) (Kp.of (U:=UU) b5)
  have TV:=Gy.bo b5
  have TW:=hVr.kp (aO w.heap.size) (Kp.of (U:=UU) b5)
  have Qf:b4≠g:=fun e=>by subst e;exact absurd (bN vP Ka) bW
  have h02:b4≠rb:=fun e=>by subst e;exact absurd (bN vP Cb) bW
  have Ea:g≠rb:=fun e=>by subst e;exact absurd (bN Ka Cb) bW
  have sH:jX (KU UU) 66 [b4,g,rb] [(rM,[.val (.slice none 0 0),.val (.slice none 0 0)]),(Runner,[.val (.slice (some ⟨vb,off,none⟩) nq cq),.row 134 0 nr cr,.val (.slice none 0 0)]),(eT,kM.flatten.map .val++nH.map .val)] w5:=by
   refine ⟨rfl,by simp [Qf,h02,Ea],fun j g' c' hj hc=> ?_,fun c' hc=> ?_,fun c' hc k hk=> ?_⟩
   ·match j,hj,hc with
    | 0,hj,hc=>cases hj;cases hc;exact vP
    | 1,hj,hc=>cases hj;cases hc;exact Ka
    | 2,hj,hc=>cases hj;cases hc;rw [<-List.map_append,ah];exact Cb
    | j + 3,hj,_=>simp at hj
   ·simp only [List.mem_cons,List.not_mem_nil,or_false] at hc
    rcases hc with rfl | rfl | rfl
    ·exact ⟨rfl,rfl⟩
    ·exact ⟨rfl,rfl⟩
    ·exact ⟨rfl,by rw [<-List.map_append];exact bh (hR5.all (aA _))⟩
   ·simp only [List.mem_cons,List.not_mem_nil,or_false] at hc
    rcases hc with rfl | rfl | rfl
    ·cases hk
    ·have:k=134:=by simpa [ax,AV.cT] using hk
     subst this;exact ⟨by omega,by show 134 < 2 * 66 + 3;omega⟩
    ·rw [<-List.map_append,ai] at hk;cases hk
  refine ⟨[b4,g,rb],_,sH,[(4,.box 132 0),(6,.box 133 0),(44,.val (.slice (some ⟨vb,off,none⟩) nq cq)),(45,.val (.int .i64 ((nq:Nat):Int))),(46,.val (.int .i64 0))],⟨?_,?_,⟨_,rfl,rfl,fun i hi=>by cases hi⟩,⟨_,rfl,rfl,fun i hi=>by cases hi⟩,⟨_,rfl,rfl,fun i hi=>by cases hi⟩,trivial⟩,?_⟩
  ·refine ⟨_,rfl,rfl,fun i hi=> ?_⟩
   have:i=132:=by simpa [AV.ids] using hi
   subst this;exact ⟨by show 132≤132;omega,by show 132 < 2 * 66 + 3;omega⟩
  ·refine ⟨_,rfl,rfl,fun i hi=> ?_⟩
   have:i=133:=by simpa [AV.ids] using hi
   subst this;exact ⟨by show 132≤133;omega,by show 133 < 2 * 66 + 3;omega⟩
  refine VS.loop (J:=fun m L M w'=>∃ (z:Nat) (vs:List (List Value)) (oX:List aM),z≤nq/\m=nq - z/\L=[(4,.box 132 0),(6,.box 133 0),(44,.val (.slice (some ⟨vb,off,none⟩) nq cq)),(45,.val (.int .i64 ((nq:Nat):Int))),(46,.val (.int .i64 (z:Int)))]/\M=[(132,(rM,[.val (.slice none 0 0),.val (.slice none 0 0)])),(133,(Runner,[.val (.slice (some ⟨vb,off,none⟩) nq cq),.row 134 0 nr cr,.val (.slice none 0 0)])),(134,(eT,vs.flatten.map .val++nH.map .val))]/\qA (eI w.heap.size) 28 w' nr cr vs (nH.map .val) oX/\dL (q.drop z) oX=dL q rows/\bH (KU UU) w5 w') nq ⟨_,_,?_,?_,?_,?_,⟨0,kM,rows,Nat.zero_le _,rfl,rfl,rfl,hR5.a,rfl,kR _⟩⟩ ?_
  ·exact cd
  ·exact cd
  ·rfl
  ·exact ⟨.lit rfl,.lit rfl,.append (.vals _) (.vals _),trivial⟩
  rintro m L M w6 ⟨z',vs,oX,JZ,rfl,rfl,rfl,xr,iI,kw6⟩
  refine af ?_
  by_cases IK:z' < nq
  ·refine VS.aP rfl (decide_eq_true (Int.ofNat_lt.2 IK)) ?_
   obtain ⟨pp,fQ⟩:∃ pp,q[z']? =some pp:=⟨_,List.getElem?_eq_getElem (by rw [<-TW.len];exact IK)⟩
   obtain ⟨cs,hcs,hE5⟩:=TT TV TW fQ
   obtain ⟨s9,p9,n9,c9,t9,y9,m9,d9,rfl,Qc⟩:=hE5
   refine af ?_
   refine VO.cond rfl dw (wV rfl ?_)
   refine VO.ly rfl [.int .i64 (pp.1:Int),.bool s9,.slice p9 n9 c9,.bool t9,.slice y9 m9 d9] rfl (qk TV.lt (by simp [hv4,hvg,hvr]) (FG hcs)) (wV rfl ?_)
   refine af ?_
   have DJ:pp.1 < nr:=by
    rw [hRr.len]
    exact (hst.el pp (by rw [TU];exact List.mem_of_getElem? fQ)).2.2.2 |> fun h=>by rw [sW] at h;exact h
   refine VO.cond rfl dw (wV rfl ?_)
   have gu:=xr.len
   obtain ⟨rq,El⟩:∃ rq,oX[pp.1]? =some rq:=⟨_,List.getElem?_eq_getElem (by rw [<-gu];exact DJ)⟩
   obtain ⟨yA,qB,ui⟩:=xr.el.at pp.1 rq El
   have ja:=xr.fl
   have Qd:=xr.le
   refine VO.cond rfl (by show 0 + ((pp.1:Int)).toNat * 28 + 24 + 4≤_;rw [ja,Int.toNat_natCast];omega) (VO.dI 134 rfl (mJ (new:=[.bool s9,.slice p9 n9 c9,.bool t9,.slice y9 m9 d9]) (o:=24) (xr.el.lens (aA _)) qB (bu rfl)) (wV rfl ?_))
   refine af ?_
   refine VS.back (nq - (z' + 1)) ab ⟨_,_,?_,?_,?_,?_,⟨z' + 1,vs.set pp.1 (yA.take 24++(([.bool s9,.slice p9 n9 c9,.bool t9,.slice y9 m9 d9]:List Value)++yA.drop (24 + ([.bool s9,.slice p9 n9 c9,.bool t9,.slice y9 m9 d9]:List Value).length))),oX.modify pp.1 (fun r=>{ r with closing:=pp.2 }),by omega,rfl,rfl,rfl,?_,?_,kw6⟩⟩
   ·refine ⟨rfl,rfl,rfl,rfl,?_,trivial⟩
    rw [<-aF (i:=z') (by have:=TW.cm;have:=TW.le;omega)];rfl
   ·exact cd
   ·rfl
   ·exact ⟨.lit rfl,.lit rfl,.append (.vals _) (.vals _),trivial⟩
   ·refine ⟨by rw [List.length_modify];exact gu,by rw [ew El];exact xr.el.set (Ju ui ⟨_,_,_,_,_,_,_,_,rfl,Qc.kp kw6⟩),xr.so,xr.sl,xr.le,xr.cm,?_⟩
    rw [List.length_append,List.length_map,dB (mK (xr.el.lens (aA _)) (Jv ((aA _).len ui) rfl)),List.length_set]
    rw [List.length_append,List.length_map,dB (xr.el.lens (aA _))] at ja
    exact ja
   ·rw [<-iI]
    obtain ⟨hlq,hqe⟩:=List.getElem?_eq_some_iff.1 fQ
    rw [List.drop_eq_getElem_cons hlq,hqe];rfl
  refine VS.aQ rfl (decide_eq_false (fun e=>IK (Int.ofNat_lt.1 e))) ?_
  have hzn:z'=nq:=by omega
  have hdn:q.drop z'=[]:=List.drop_of_length_le (by rw [<-TW.len];omega)
  rw [hdn] at iI
  replace iI:oX=dL q rows:=iI
  refine af ?_
  refine VS.lp (bF _ _) rfl (fun wz βz kz oz enz=> ?_)
  have KT:aL w wz:=tw.bo (lX.aN b5) oz.1 (fun x hx=>by simp only [List.mem_cons,List.not_mem_nil,or_false] at hx;rcases hx with rfl | rfl | rfl <;> assumption)
  obtain ⟨o5,o6⟩:=fo (enz.own 134 _ _ rfl) 2 rb rfl rfl
  replace o5:βz 134=rb:=o5
  rw [List.map_append,ah] at o6
  refine ⟨_,_,rfl,?_,KT⟩
  show vO w.heap.size wz _ _ (dL (jw a.q b.q kn (cj l)).q (jw a.q b.q kn (cj l)).rows,(jw a.q b.q kn (cj l)).uses)
  rw [TU,sW,HI]
  exact ⟨.inr ⟨rb,nRb,_,_,_,_,congrArg (fun g=>Value.slice (some ⟨g,0,none⟩) nr cr) o5,o6,((iI▸xr).kp (aA _) aU).o βz⟩,.inl ⟨rfl,rfl⟩⟩
 ·obtain ⟨q,TU⟩:∃ q,(jw a.q b.q kn (cj l)).q=q:=⟨_,rfl⟩
  obtain ⟨rows,sW⟩:∃ rows,(jw a.q b.q kn (cj l)).rows=rows:=⟨_,rfl⟩
  obtain ⟨us,HI⟩:∃ us,(jw a.q b.q kn (cj l)).uses=us:=⟨_,rfl⟩
  rw [sW] at hRr
  rw [TU] at hVr
  rw [HI] at hUr
  have nRb:w.heap.size≤rb:=had rb cw
  have nUb:w.heap.size≤ub:=had ub cw
  have hv4:vb≠b4:=fun e=>by subst e;exact absurd (bN Gy uB) bW
  have hvg:vb≠g:=fun e=>by subst e;exact absurd (bN Gy hg) bW
  have hvr:vb≠rb:=fun e=>by subst e;exact absurd (bN Gy Em) bW
  have hu4:ub≠b4:=fun e=>by subst e;exact absurd (bN hcU uB) bW
  have hug:ub≠g:=fun e=>by subst e;exact absurd (bN hcU hg) bW
  have hur:ub≠rb:=fun e=>by subst e;exact absurd (bN hcU Em) bW
  refine VO.read rfl [.slice (some ⟨vb,off,none⟩) nq cq] rfl (fun j u hj=> ?_) (wV rfl ?_)
  ·match j,hj with
   | 0,hj=>cases hj;exact hg.cell rfl
   | j + 1,hj=>cases hj
  refine aa ?_
  refine VS.vN (KU UU) (fun t=>Nat.beq t 22) table (fun _ _ _=>trivial) (fun w5 β5 k5 b5 en5=> ?_)
  have Ka:=hg.bo b5
  have vP:=uB.bo b5
  have Cb:=Em.bo b5
  have hR5:=hRr.kp (aA w.heap.size) (Kp.of (U:=UU) b5)
  have TV:=Gy.bo b5
  have TW:=hVr.kp (aO w.heap.size) (Kp.of (U:=UU) b5)
  have hcU5:=hcU.bo b5
  have hU5:=hUr.kp (eh w.heap.size) (Kp.of (U:=UU) b5)
  have Qf:b4≠g:=fun e=>by subst e;exact absurd (bN vP Ka) bW
  have h02:b4≠rb:=fun e=>by subst e;exact absurd (bN vP Cb) bW
  have Ea:g≠rb:=fun e=>by subst e;exact absurd (bN Ka Cb) bW
  have sH:jX (KU UU) 66 [b4,g,rb] [(rM,[.val (.slice none 0 0),.val (.slice none 0 0)]),(Runner,[.val (.slice (some ⟨vb,off,none⟩) nq cq),.row 134 0 nr cr,.val (.slice (some ⟨ub,0,none⟩) nu cu')]),(eT,kM.flatten.map .val++nH.map .val)] w5:=by
   refine ⟨rfl,by simp [Qf,h02,Ea],fun j g' c' hj hc=> ?_,fun c' hc=> ?_,fun c' hc k hk=> ?_⟩
   ·match j,hj,hc with
    | 0,hj,hc=>cases hj;cases hc;exact vP
    | 1,hj,hc=>cases hj;cases hc;exact Ka
    | 2,hj,hc=>cases hj;cases hc;rw [<-List.map_append,ah];exact Cb
    | j + 3,hj,_=>simp at hj
   ·simp only [List.mem_cons,List.not_mem_nil,or_false] at hc
    rcases hc with rfl | rfl | rfl
    ·exact ⟨rfl,rfl⟩
    ·exact ⟨rfl,rfl⟩
    ·exact ⟨rfl,by rw [<-List.map_append];exact bh (hR5.all (aA _))⟩
   ·simp only [List.mem_cons,List.not_mem_nil,or_false] at hc
    rcases hc with rfl | rfl | rfl
    ·cases hk
    ·have:k=134:=by simpa [ax,AV.cT] using hk
     subst this;exact ⟨by omega,by show 134 < 2 * 66 + 3;omega⟩
    ·rw [<-List.map_append,ai] at hk;cases hk
  refine ⟨[b4,g,rb],_,sH,[(4,.box 132 0),(6,.box 133 0),(44,.val (.slice (some ⟨vb,off,none⟩) nq cq)),(45,.val (.int .i64 ((nq:Nat):Int))),(46,.val (.int .i64 0))],⟨?_,?_,⟨_,rfl,rfl,fun i hi=>by cases hi⟩,⟨_,rfl,rfl,fun i hi=>by cases hi⟩,⟨_,rfl,rfl,fun i hi=>by cases hi⟩,trivial⟩,?_⟩
  ·refine ⟨_,rfl,rfl,fun i hi=> ?_⟩
   have:i=132:=by simpa [AV.ids] using hi
   subst this;exact ⟨by show 132≤132;omega,by show 132 < 2 * 66 + 3;omega⟩
  ·refine ⟨_,rfl,rfl,fun i hi=> ?_⟩
   have:i=133:=by simpa [AV.ids] using hi
   subst this;exact ⟨by show 132≤133;omega,by show 133 < 2 * 66 + 3;omega⟩
  refine VS.loop (J:=fun m L M w'=>∃ (z:Nat) (vs:List (List Value)) (oX:List aM),z≤nq/\m=nq - z/\L=[(4,.box 132 0),(6,.box 133 0),(44,.val (.slice (some ⟨vb,off,none⟩) nq cq)),(45,.val (.int .i64 ((nq:Nat):Int))),(46,.val (.int .i64 (z:Int)))]/\M=[(132,(rM,[.val (.slice none 0 0),.val (.slice none 0 0)])),(133,(Runner,[.val (.slice (some ⟨vb,off,none⟩) nq cq),.row 134 0 nr cr,.val (.slice (some ⟨ub,0,none⟩) nu cu')])),(134,(eT,vs.flatten.map .val++nH.map .val))]/\qA (eI w.heap.size) 28 w' nr cr vs (nH.map .val) oX/\dL (q.drop z) oX=dL q rows/\bH (KU UU) w5 w') nq ⟨_,_,?_,?_,?_,?_,⟨0,kM,rows,Nat.zero_le _,rfl,rfl,rfl,hR5.a,rfl,kR _⟩⟩ ?_
  ·exact cd
  ·exact cd
  ·rfl
  ·exact ⟨.lit rfl,.lit rfl,.append (.vals _) (.vals _),trivial⟩
  rintro m L M w6 ⟨z',vs,oX,JZ,rfl,rfl,rfl,xr,iI,kw6⟩
  refine af ?_
  by_cases IK:z' < nq
  ·refine VS.aP rfl (decide_eq_true (Int.ofNat_lt.2 IK)) ?_
   obtain ⟨pp,fQ⟩:∃ pp,q[z']? =some pp:=⟨_,List.getElem?_eq_getElem (by rw [<-TW.len];exact IK)⟩
   obtain ⟨cs,hcs,hE5⟩:=TT TV TW fQ
   obtain ⟨s9,p9,n9,c9,t9,y9,m9,d9,rfl,Qc⟩:=hE5
   refine af ?_
   refine VO.cond rfl dw (wV rfl ?_)
   refine VO.ly rfl [.int .i64 (pp.1:Int),.bool s9,.slice p9 n9 c9,.bool t9,.slice y9 m9 d9] rfl (qk TV.lt (by simp [hv4,hvg,hvr]) (FG hcs)) (wV rfl ?_)
   refine af ?_
   have DJ:pp.1 < nr:=by
    rw [hRr.len]
    exact (hst.el pp (by rw [TU];exact List.mem_of_getElem? fQ)).2.2.2 |> fun h=>by rw [sW] at h;exact h
   refine VO.cond rfl dw (wV rfl ?_)
   have gu:=xr.len
   obtain ⟨rq,El⟩:∃ rq,oX[pp.1]? =some rq:=⟨_,List.getElem?_eq_getElem (by rw [<-gu];exact DJ)⟩
   obtain ⟨yA,qB,ui⟩:=xr.el.at pp.1 rq El
   have ja:=xr.fl
   have Qd:=xr.le
   refine VO.cond rfl (by show 0 + ((pp.1:Int)).toNat * 28 + 24 + 4≤_;rw [ja,Int.toNat_natCast];omega) (VO.dI 134 rfl (mJ (new:=[.bool s9,.slice p9 n9 c9,.bool t9,.slice y9 m9 d9]) (o:=24) (xr.el.lens (aA _)) qB (bu rfl)) (wV rfl ?_))
   refine af ?_
   refine VS.back (nq - (z' + 1)) ab ⟨_,_,?_,?_,?_,?_,⟨z' + 1,vs.set pp.1 (yA.take 24++(([.bool s9,.slice p9 n9 c9,.bool t9,.slice y9 m9 d9]:List Value)++yA.drop (24 + ([.bool s9,.slice p9 n9 c9,.bool t9,.slice y9 m9 d9]:List Value).length))),oX.modify pp.1 (fun r=>{ r with closing:=pp.2 }),by omega,rfl,rfl,rfl,?_,?_,kw6⟩⟩
   ·refine ⟨rfl,rfl,rfl,rfl,?_,trivial⟩
    rw [<-aF (i:=z') (by have:=TW.cm;have:=TW.le;omega)];rfl
   ·exact cd
   ·rfl
   ·exact ⟨.lit rfl,.lit rfl,.append (.vals _) (.vals _),trivial⟩
   ·refine ⟨by rw [List.length_modify];exact gu,by rw [ew El];exact xr.el.set (Ju ui ⟨_,_,_,_,_,_,_,_,rfl,Qc.kp kw6⟩),xr.so,xr.sl,xr.le,xr.cm,?_⟩
    rw [List.length_append,List.length_map,dB (mK (xr.el.lens (aA _)) (Jv ((aA _).len ui) rfl)),List.length_set]
    rw [List.length_append,List.length_map,dB (xr.el.lens (aA _))] at ja
    exact ja
   ·rw [<-iI]
    obtain ⟨hlq,hqe⟩:=List.getElem?_eq_some_iff.1 fQ
    rw [List.drop_eq_getElem_cons hlq,hqe];rfl
  refine VS.aQ rfl (decide_eq_false (fun e=>IK (Int.ofNat_lt.1 e))) ?_
  have hzn:z'=nq:=by omega
  have hdn:q.drop z'=[]:=List.drop_of_length_le (by rw [<-TW.len];omega)
  rw [hdn] at iI
  replace iI:oX=dL q rows:=iI
  refine af ?_
  refine VS.lp (bF _ _) rfl (fun wz βz kz oz enz=> ?_)
  have KT:aL w wz:=tw.bo (lX.aN b5) oz.1 (fun x hx=>by simp only [List.mem_cons,List.not_mem_nil,or_false] at hx;rcases hx with rfl | rfl | rfl <;> assumption)
  obtain ⟨o5,o6⟩:=fo (enz.own 134 _ _ rfl) 2 rb rfl rfl
  replace o5:βz 134=rb:=o5
  rw [List.map_append,ah] at o6
  refine ⟨_,_,rfl,?_,KT⟩
  show vO w.heap.size wz _ _ (dL (jw a.q b.q kn (cj l)).q (jw a.q b.q kn (cj l)).rows,(jw a.q b.q kn (cj l)).uses)
  rw [TU,sW,HI]
  exact ⟨.inr ⟨rb,nRb,_,_,_,_,congrArg (fun g=>Value.slice (some ⟨g,0,none⟩) nr cr) o5,o6,((iI▸xr).kp (aA _) aU).o βz⟩,.inr ⟨ub,nUb,_,_,_,_,rfl,(oz.1.qq ub hcU5.lt (by simp [hu4,hug,hur])).trans hcU5,hU5.kp (eh _) aU⟩⟩
end
section
open Go.RowKit
theorem Ns (x:Rat):x * (((x.den:Nat):Int):Rat)=((x.num:Int):Rat):=by
 have h:((((x.den:Nat):Int):Int):Rat)≠0:=fun e=>by
  have:((x.den:Int):Rat)=((0:Int):Rat):=e
  have:=Rat.intCast_inj.1 this
  have:=x.den_nz;omega
 conv=>lhs;lhs;rw [<-Rat.num_divInt_den x,Rat.divInt_eq_div]
 exact Rat.div_mul_cancel h
theorem Iz.FI {D:Nat} {x:Rat} (h:x.den∣D):Iz D x:=by
 obtain ⟨k,rfl⟩:=h
 refine ⟨x.num * (k:Int),?_⟩
 rw [Int.natCast_mul,Rat.intCast_mul,Rat.intCast_mul,<-Ns x];grind
theorem Iz.up {D E:Nat} {x:Rat} (h:Iz D x):Iz (D * E) x:=by
 obtain ⟨n,hn⟩:=h
 exact ⟨n * (E:Int),by rw [Int.natCast_mul,Rat.intCast_mul,Rat.intCast_mul,<-hn];grind⟩
theorem rsz_of {D M kk:Nat} {x:Rat} (hD:0 < D) (hI:Iz D x) (h1: -((M:Int):Rat)≤x) (h2:x≤((M:Int):Rat)) (hk:M * D < 4294967296 ^ kk) (hk2:D < 4294967296 ^ kk):et x kk:=by
 obtain ⟨n,hn⟩:=hI
 have hD':(0:Rat) < ((D:Int):Rat):=by
  have:((0:Int):Rat) < ((D:Int):Rat):=Rat.intCast_lt_intCast.2 ab
  exact this
 have hDn:((D:Int):Rat)≠0:=by grind
 have hx:x=Rat.divInt n (D:Int):=by
  rw [Rat.divInt_eq_div,<-hn,Rat.div_def,Rat.mul_assoc,Rat.mul_inv_cancel _ hDn,Rat.mul_one]
 have b1:n≤(M:Int) * (D:Int):=by
  have:=Rat.mul_le_mul_of_nonneg_right h2 (Rat.le_of_lt hD')
  rw [hn,<-Rat.intCast_mul] at this
  exact Rat.intCast_le_intCast.1 this
 have b2: -((M:Int) * (D:Int))≤n:=by
  have:=Rat.mul_le_mul_of_nonneg_right h1 (Rat.le_of_lt hD')
  rw [hn,<-Rat.intCast_neg,<-Rat.intCast_mul] at this
  have:=Rat.intCast_le_intCast.1 this
  rw [Int.neg_mul] at this
  exact this
 rw [hx]
 refine oL (Sz.of_lt ?_) (Sz.of_lt (by simpa using hk2)) ab
 have:n.natAbs≤M * D:=by
  have e:((M * D:Nat):Int)=(M:Int) * (D:Int):=Int.natCast_mul ..
  omega
 omega
def xt:List (Rat×Rat)->Nat
 | []=>1
 | e::l=>e.1.den * e.2.den * xt l
theorem Jw:∀ l:List (Rat×Rat),0 < xt l
 | []=>by decide
 | e::l=>Nat.mul_pos (Nat.mul_pos e.1.den_pos e.2.den_pos) (Jw l)
theorem Jx:∀ {l:List (Rat×Rat)} {e:Rat×Rat},e∈l->(e.1.den * e.2.den)∣xt l
 | x::l,e,h=>by
   rcases List.mem_cons.1 h with rfl | h
   ·exact Nat.dvd_mul_right ..
   ·exact Nat.dvd_mul_left_of_dvd (Jx h) _
theorem Iz.mul {a b:Nat} {x y:Rat} (h:Iz a x) (k:Iz b y):Iz (a * b) (x * y):=by
 obtain ⟨n,hn⟩:=h;obtain ⟨m,hm⟩:=k
 exact ⟨n * m,by rw [Int.natCast_mul,Rat.intCast_mul,Rat.intCast_mul,<-hn,<-hm];grind⟩
theorem Iz.dvd {D E:Nat} {x:Rat} (h:Iz D x) (k:D∣E):Iz E x:=by
 obtain ⟨c,rfl⟩:=k
 exact h.up
theorem Cc (S F e:Rat):ay S F e=F\/ay S F e=S * e\/ay S F e=0:=by
 rw [show ay S F e=(if gK 0 (if gK (S * e) F=true then S * e else F)=true then 0 else (if gK (S * e) F=true then S * e else F)) from rfl]
 by_cases h:gK (S * e) F=true
 ·simp only [if_pos h]
  split <;> simp
 ·simp only [if_neg h]
  split <;> simp
theorem LN {x:Rat} {k:Nat} (h:x.num.natAbs≤4294967296 ^ k): -(((4294967296 ^ k:Nat):Int):Rat)≤x/\x≤(((4294967296 ^ k:Nat):Int):Rat):=by
 have hd:(1:Rat)≤((x.den:Int):Rat):=by
  have:((1:Int):Rat)≤((x.den:Int):Rat):=Rat.intCast_le_intCast.2 (by have:=x.den_pos;omega)
  exact this
 have hm:=Ns x
 have hN0:(0:Rat)≤(((4294967296 ^ k:Nat):Int):Rat):=by
  have:((0:Int):Rat)≤(((4294967296 ^ k:Nat):Int):Rat):=Rat.intCast_le_intCast.2 ab
  exact this
 have h1:((x.num:Int):Rat)≤(((4294967296 ^ k:Nat):Int):Rat):=Rat.intCast_le_intCast.2 ab
 have h2: -(((4294967296 ^ k:Nat):Int):Rat)≤((x.num:Int):Rat):=by
  rw [<-Rat.intCast_neg];exact Rat.intCast_le_intCast.2 ab
 generalize (((4294967296 ^ k:Nat):Int):Rat)=N at *
 generalize ((x.num:Int):Rat)=n at *
 generalize ((((x.den:Nat):Int):Int):Rat)=d at *
 have h3:N≤N * d:=by
  have:=Rat.mul_le_mul_of_nonneg_left hd hN0
  rw [Rat.mul_one] at this;exact this
 constructor
 ·refine Rat.not_lt.1 fun hlt=> ?_
  have:=Rat.mul_lt_mul_of_pos_right hlt (show 0 < d by grind)
  grind
 ·refine Rat.not_lt.1 fun hlt=> ?_
  have:=Rat.mul_lt_mul_of_pos_right hlt (show 0 < d by grind)
  grind
def Lm (k:Nat) (x:Rat):Prop:=x.num.natAbs≤4294967296 ^ k/\x.den≤4294967296 ^ k
theorem Nt {k:Nat}:∀ {l:List (Rat×Rat)},(∀ e∈l,Lm k e.1/\Lm k e.2)->xt l≤4294967296 ^ (2 * k * l.length)
 | [],_=>by simp [xt]
 | e::l,h=>by
   obtain ⟨h1,h2⟩:=h e cw
   have h3:=Nt (l:=l) fun x hx=>h x (by simp [hx])
   have e1:4294967296 ^ (2 * k * (e::l).length)=(4294967296 ^ k * 4294967296 ^ k) * 4294967296 ^ (2 * k * l.length):=by
    rw [<-Nat.pow_add,<-Nat.pow_add];congr 1;rw [List.length_cons];grind
   rw [e1]
   exact Nat.mul_le_mul (Nat.mul_le_mul h1.2 h2.2) h3
theorem TX {k n:Nat} {S F:Rat} {l:List (Rat×Rat)} (hS:Lm k S) (hF:Lm k F) (h0:0≤S) (h1:S≤1) (hl:∀ e∈l,Lm k e.1/\Lm k e.2) (hn:l.length≤n) (hk:1≤k):
  FH (S.den * F.den * xt l) (((4294967296 ^ k:Nat):Int):Rat) S F (2 * k * n + 3 * k + 1) l:=by
 obtain ⟨N,hN⟩:∃ N,N=4294967296 ^ k:=⟨_,rfl⟩
 have hNk:4294967296≤N:=by rw [hN];exact Nat.le_self_pow ab _
 have hN0:(0:Rat)≤((N:Int):Rat):=by
  have:((0:Int):Rat)≤((N:Int):Rat):=Rat.intCast_le_intCast.2 ab
  exact this
 refine ⟨fun e he=> ?_,fun x hI iA Kc=> ?_⟩
 ·rw [<-hN]
  obtain ⟨he1,he2⟩:=hl e he
  have b1:=LN he1.1
  have b2:=LN he2.1
  have b3:=LN hF.1
  rw [<-hN] at b1 b2 b3
  have hd:=Jx he
  have hSe:S * e.2≤((N:Int):Rat):=by
   by_cases h:0≤e.2
   ·have:=Rat.mul_le_mul_of_nonneg_right h1 h
    rw [Rat.one_mul] at this
    exact Rat.le_trans this b2.2
   ·have h':0≤-e.2:=by grind
    have:=Rat.mul_nonneg h0 h'
    rw [Rat.mul_neg] at this
    grind
  have hIe:Iz (S.den * F.den * xt l) (S * e.2):=((Iz.FI (Nat.dvd_refl S.den)).mul (Iz.FI (Nat.dvd_refl e.2.den))).dvd (by
   obtain ⟨c,hc⟩:=hd
   rw [hc]
   exact ⟨F.den * e.1.den * c,by grind⟩)
  refine ⟨?_,?_,Iz.FI ?_,b1.1,b1.2⟩
  ·rcases Cc S F e.2 with h | h | h <;> rw [h]
   ·exact Iz.FI ⟨S.den * xt l,by grind⟩
   ·exact hIe
   ·exact Iz.zero
  ·rcases Cc S F e.2 with h | h | h <;> rw [h]
   ·exact b3.2
   ·exact hSe
   ·exact hN0
  ·obtain ⟨c,hc⟩:=hd
   rw [hc]
   exact ⟨S.den * F.den * e.2.den * c,by grind⟩
 ·rw [<-hN] at iA Kc
  have jR:=Nt hl
  have hpow:4294967296 ^ (2 * k * l.length)≤4294967296 ^ (2 * k * n):=Nat.pow_le_pow_right ab (Nat.mul_le_mul_left _ hn)
  have hD:S.den * F.den * xt l≤N * N * 4294967296 ^ (2 * k * n):=Nat.mul_le_mul (Nat.mul_le_mul (by rw [hN];exact hS.2) (by rw [hN];exact hF.2)) (Nat.le_trans jR hpow)
  have e1:4294967296 ^ (2 * k * n + 3 * k + 1)=(N * N * 4294967296 ^ (2 * k * n)) * (N * 4294967296):=by
   rw [hN,show 2 * k * n + 3 * k + 1=k + k + 2 * k * n + (k + 1) by omega,Nat.pow_add,Nat.pow_add,Nat.pow_add,Nat.pow_succ]
  have hP:0 < N * N * 4294967296 ^ (2 * k * n):=Nat.mul_pos (Nat.mul_pos ab ab) (Nat.pow_pos ab)
  have e2:(((N + N:Nat):Int):Rat)=((N:Int):Rat) + ((N:Int):Rat):=by rw [<-Rat.intCast_add];rfl
  refine rsz_of (M:=N + N) (Nat.mul_pos (Nat.mul_pos S.den_pos F.den_pos) (Jw l)) hI (by rw [e2];exact iA) (by rw [e2];exact Kc) ?_ ?_
  ·rw [e1]
   calc (N + N) * (S.den * F.den * xt l)≤(N + N) * (N * N * 4294967296 ^ (2 * k * n)):=Nat.mul_le_mul_left _ hD
    _ < (N * 4294967296) * (N * N * 4294967296 ^ (2 * k * n)):=Nat.mul_lt_mul_of_pos_right ab hP
    _=_:=Nat.mul_comm _ _
  ·rw [e1]
   calc S.den * F.den * xt l≤(N * N * 4294967296 ^ (2 * k * n)) * 1:=by rw [Nat.mul_one];exact hD
    _ < _:=Nat.mul_lt_mul_of_pos_left ab hP
end
end Go.Proofs.YtabalinjfgcfeaaGreat
