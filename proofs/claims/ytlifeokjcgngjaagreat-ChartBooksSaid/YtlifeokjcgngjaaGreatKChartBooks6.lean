/-BN of the proof,laid behind one another. -/
import Derived.Test.YtlifeokjcgngjaaGreatKChartBooks5
set_option linter.all false
set_option maxHeartbeats 64000000
set_option maxRecDepth 4000
namespace Go.Proofs.YtlifeokjcgngjaaGreat
section
open Go.RowKit
attribute [local irreducible] aE VS
theorem NK (p p2:Option Addr) (n c m d:Nat) (w:World):
  Calls Tryz.prog 137 #[.slice p n c,.slice p2 m d] w λo w'=>o=.returned (.bool (decide (n=m)))/\ax w w':=by
 refine ai (C:=aY Tryz.prog w _) (args:=[_,_]) Tryz.func137 aa Tryz.ntmps137 (cG aa) ?_;refine ag ?_;refine ck ?_;intro wz kz bz
 exact⟨by
  by_cases h:n=m
  ·subst h;simp[mj]
  ·have:¬ ((n:Int)=(m:Int)):=by omega
   simp[mj,h,this],bz⟩
def fT (t:mG):List Nat:=t.map List.length
variable {r:List Rat} {i:Nat} {t:mG}
theorem nP (h:t[i]? =some r):(fT t)[i]? =some r.length:=by unfold fT;rw[jq,h];rfl
variable {u:mG}
theorem lens_ne (h:t.length≠u.length):decide (fT t=fT u)=false:=aR (λe=>h (by have:=au List.length e;simpa [fT] using this))
theorem Kh {s:List Rat} (h1:t[i]? =some r) (h2:u[i]? =some s) (h:r.length≠s.length):decide (fT t=fT u)=false:=aR (λe=>h (by
 have h3:=nP h1;rw[e,nP h2] at h3;exact (lx h3).symm))
theorem lens_eq (hl:t.length=u.length) (h:∀ (i:Nat) (r s:List Rat),t[i]? =some r->u[i]? =some s->r.length=s.length):decide (fT t=fT u)=true:=aU (qk λi=>by
 cases hi:t[i]? with
 | none=>
   have:=List.getElem?_eq_none_iff.1 hi;rw[gD (by simp[fT];omega),gD (by simp[fT];omega)]
 | some r=>
   obtain⟨s,hs⟩:∃ s,u[i]? =some s:=⟨_,aH (by have:=(bd.1 hi).1;omega)⟩;rw[nP hi,nP hs,h i r s hi hs])
theorem Rm (v u:Value) (t t2:mG) (j k:Nat) (w:World) (hv:bK (jR j) 1 w v t) (hu:bK (jR k) 1 w u t2):
  Calls Tryz.prog 136 #[v,u,.func (.func 137) #[] #[]] w λo w'=>o=.returned (.bool (decide (fT t=fT t2)))/\ax w w':=by
 obtain⟨p,c,rfl,fV,gj⟩:=hv.form;obtain⟨p2,c2,rfl,hnc2,hcm2⟩:=hu.form;obtain⟨R,hR⟩:∃ R,R=t.length:=⟨_,aa⟩;obtain⟨R2,hR2⟩:∃ R,R=t2.length:=⟨_,aa⟩;rw[<-hR] at hv fV;rw[<-hR2] at hu hnc2;rw[<-hR,<-hR2];refine ai (C:=aY Tryz.prog w _) (args:=[_,_,_]) Tryz.func136 aa Tryz.ntmps136 (cG aa) ?_;refine ag ?_;by_cases hRR:R=R2
 rotate_left
 ·refine VS.bB aa (bne_y ae) ?_;refine ag ?_;refine ck ?_;intro wz kz bz;exact⟨by rw[lens_ne ae];rfl,bz⟩
 subst hRR;refine VS.bC aa (bne_n ae) ?_;refine ag ?_;refine VS.loop (J:=λmm L M w'=>∃ z:Nat,z<=R/\mm=R-z/\L=[(0,.val (.slice p R c)),(1,.val (.slice p2 R c2)),(2,.val (.func (.func 137) #[] #[])),(15,.val (.slice p R c)),(16,.val (.int .i64 (R:Int))),(17,.val (.int .i64 (z:Int)))]/\M=[]/\∀ (i:Nat) (r s:List Rat),i<z->t[i]? =some r->t2[i]? =some s->r.length=s.length) R ⟨_,_,?_,?_,?_,?_,⟨0,ae,aa,aa,aa,λi r s hi=>ae⟩⟩ ?_
 ·exact lD
 ·exact lD
 ·rfl
 ·exact AZ
 rintro mm L M wJ ⟨z,hz,rfl,rfl,rfl,hno⟩;refine ag ?_;by_cases hlt:z<R
 rotate_left
 ·refine VS.bC aa (aR (λe=>hlt (aW.1 e))) ?_;refine ag ?_;refine ck ?_;intro wz kz bz;exact⟨by rw[lens_eq ae (λi r s h1 h2=>hno i r s (by have:=(bd.1 h1).1;omega) h1 h2)];rfl,bz⟩
 obtain⟨ra,OJ⟩:∃ x,t[z]? =some x:=⟨_,aH ae⟩;obtain⟨rb,Fx⟩:∃ x,t2[z]? =some x:=⟨_,aH ae⟩;obtain⟨b,off,cs,rfl,hc,⟨xa,rfl,ha⟩⟩:=hv.at OJ;obtain⟨b2,QB,cs2,rfl,lS,⟨xb,rfl,hb⟩⟩:=hu.at Fx;obtain⟨pa,ca,rfl⟩:=ha.sl;obtain⟨pb,cb,rfl⟩:=hb.sl;refine VS.bB aa (aU (aW.2 hlt)) ?_;refine ag ?_;refine VO.cond aa fb ?_;refine wV aa ?_;refine ag ?_;refine VO.read aa [.slice pa ra.length ca] aa (fK hc) (wV aa ?_);refine ag ?_;refine VO.cond aa fb ?_;refine wV aa ?_;refine ag ?_;refine VO.read aa [.slice pb rb.length cb] aa (fK lS) (wV aa ?_);refine ag ?_;refine VO.call aa aa (fk Tryz.func137) (λcV eG db=>(NK _ _ _ _ _ _ cV).mono ?_);rintro o w1 ⟨rfl,bF⟩;by_cases hll:ra.length=rb.length
 rotate_left
 ·rw[aR hll];refine dB bF ?_;intro fM _ bb1;refine ck ?_;intro wz kz bz;exact⟨by rw[Kh OJ Fx hll];rfl,bz⟩
 rw[aU hll];refine dB bF ?_;intro fM _ bb1;refine VS.back (R-(z+1)) ae ⟨_,_,?_,?_,?_,?_,⟨z+1,ae,aa,aa,aa,λi r s hi h1 h2=> ?_⟩⟩
 ·refine⟨aa,aa,aa,aa,aa,?_,aj⟩;rw[<-bl (i:=z) ae];rfl
 ·exact lD
 ·rfl
 ·exact AZ
 ·by_cases LP:i=z
  ·subst LP;rw[OJ] at h1;rw[Fx] at h2;cases h1;cases h2;exact hll
  ·exact hno i r s ae h1 h2
theorem NL (v u:Value) (t t2:mG) (j k:Nat) (w:World) (hv:bK (jR j) 1 w v t) (hu:bK (jR k) 1 w u t2):
  Calls Tryz.prog 76 #[.agg #[v],.agg #[u]] w λo w'=>o=.returned (.bool (decide (fT t=fT t2)))/\ax w w':=by
 obtain⟨p,c,rfl⟩:=hv.sl;obtain⟨p2,c2,rfl⟩:=hu.sl;refine ai (C:=aY Tryz.prog w _) (args:=[_,_]) Tryz.func76 aa Tryz.ntmps76 (cG aa) ?_;refine ag ?_;refine VO.cB aa aa (fk Tryz.func136) (λcV eG db=>Rm _ _ t t2 j k cV (hv.qB (jE j) db) (hu.qB (jE k) db)) (λcV eG db w1 bF fM _ bb1=>wV aa ?_);refine ag ?_;refine ck ?_;intro wz kz bz;exact⟨aa,bz⟩
theorem all_any (p:Option Addr) (n c:Nat) (w:World):
  Calls Tryz.prog 78 #[.agg #[.slice p n c]] w λo w'=>∃ B1,o=.returned (.func (.func 138) #[] #[.pointer (some ⟨B1,0,none⟩)])/\aQ w' B1 52 #[.slice p n c]/\w.heap.size<=B1/\ax w w':=by
 refine ai (C:=aY Tryz.prog w _) (args:=[_]) Tryz.func78 aa Tryz.ntmps78 (cG aa) ?_;refine ag ?_;refine VS.oU (bU _ _) aa (λwz β kz bz en=> ?_);exact⟨β 1,aa,(en.own 1 _ _ aa).cls,(en.own 1 _ _ aa).new,bz⟩
theorem Ki {P:Program} {l:Nat} {args:Array Value} {W:World} {R R':Ending->World->Prop} (h:YieldAt Fence.wide 0 P l args W R) (hr:∀ e W',R e W'->R' e W'):YieldAt Fence.wide 0 P l args W R':=by
 obtain⟨fn,tmps,assign,body,h1,h2⟩:=h;exact⟨fn,tmps,assign,body,h1,h2.mono hr⟩
def Rn (kk:Nat) (us:List Value) (t:mG) (v:Value) (W:World):Prop:=us.length=t.length/\bK VE 1 W v us/\∀ (i:Nat) (u:Value) (r:List Rat),us[i]? =some u->t[i]? =some r->bK (Br kk) 4 W u r
variable {kk:Nat} {v:Value} {w:World}
theorem tabH_of (h:bK (jR kk) 1 w v t):∃ us,Rn kk us t v w:=by
 obtain⟨p,c,rfl,h1,h2,h3⟩:=h
 have hex:∀ i:Nat,∃ u:Value,∀ r,t[i]? =some r->bK (Br kk) 4 w u r/\∃ b off,p=some ⟨b,off,none⟩/\w.cell? ⟨b,off+i*1+0,none⟩=some u:=λi=>by
  cases hi:t[i]? with
  | none=>exact⟨undef,λr hr=>(by cases hr)⟩
  | some r=>
    obtain⟨b,off,cs,hp,hc,⟨u,rfl,hu⟩⟩:=h3 i r hi;exact⟨u,λr' hr=>by cases hr;exact⟨hu,b,off,hp,hc 0 u aa⟩⟩
 refine⟨(List.range t.length).map λi=>(hex i).choose,by rw[aM,xe],⟨p,c,by rw[aM,xe],by rw[aM,xe];exact h1,h2,λi u hu=> ?_⟩,λi u r hu hr=> ?_⟩
 ·have hlt:i<t.length:=by have:=(bd.1 hu).1;simpa using this
  rw[jq,BR hlt] at hu;cases hu;obtain⟨r,hr⟩:∃ r,t[i]? =some r:=⟨_,aH hlt⟩;obtain⟨hs,b,off,hp,hc⟩:=(hex i).choose_spec r hr;obtain⟨pp,cc,hf⟩:=hs.sl;refine⟨b,off,_,hp,λj x hj=> ?_,aa,pp,_,cc,hf⟩
  match j,hj with
  | 0,hj=>cases hj;exact hc
  | j+1,hj=>cases hj
 ·have hlt:i<t.length:=(bd.1 hr).1;rw[jq,BR hlt] at hu;cases hu;exact ((hex i).choose_spec r hr).1
theorem Rn.aA {us:List Value} {w':World} (h:Rn kk us t v w) (hb:ax w w'):Rn kk us t v w':=⟨h.1,h.2.1.aA jk hb,λi u r hu hr=>(h.2.2 i u r hu hr).aA (Ai kk) hb⟩
def PrT (t:mG) (kk:Nat) (i i':Nat×Nat) (vs:Array Value) (W:World):Prop:=∃ r x s p n c t' y m d,t[i.1]? =some r/\r[i.2]? =some x/\vs=#[.agg #[.int .i64 (i.1:Int),.int .i64 (i.2:Int)],.agg #[.bool s,.slice p n c,.bool t',.slice y m d]]/\Br kk W [.bool s,.slice p n c,.bool t',.slice y m d] x/\i'=(i.1,i.2+1)
def MvT (t:mG) (i i':Nat×Nat):Prop:=∃ r,t[i.1]? =some r/\i.2=r.length/\i'=(i.1+1,0)
def FinT (t:mG) (i:Nat×Nat):Prop:=i=(t.length,0)
theorem Ro (us:List Value) (t:mG) (kk ly B1:Nat) (p:Option Addr) (R c:Nat) (J':Nat×Nat->World->Prop) (IE:World->Prop)
  (hR:R=t.length)
  (Jg:∀ i W,J' i W->Rn kk us t (.slice p R c) W/\aQ W B1 52 #[.slice p R c])
  (hmv:∀ i i' W,MvT t i i'->J' i W->J' i' W) (hbeh:∀ i W W',J' i W->ax W W'->J' i W') (hbehX:∀ W W',IE W->ax W W'->IE W')
  (hy:∀ i i' vs W1,J' i W1->PrT t kk i i' vs W1->YieldAt Fence.wide 0 Tryz.prog ly vs W1 λe W'=>(e=.returned (.bool true)/\J' i' W')\/(e=.returned (.bool false)/\IE W'))
  (w:World) (h0:J' (0,0) w):
  Calls Tryz.prog 138 #[.func (.yield ly) #[] #[],.pointer (some ⟨B1,0,none⟩)] w λe W'=>(∃ v,e=.returned v)/\((∃ i,FinT t i/\J' i W')\/IE W'):=by
 obtain⟨⟨Jf,hus0,-⟩,kP⟩:=Jg _ _ h0;obtain⟨p',c',e1,fV,gj⟩:=hus0.form;rw[Jf,<-hR] at e1 fV;cases e1;refine ai (C:=aY Tryz.prog w _) (args:=[_,_]) Tryz.func138 aa Tryz.ntmps138 (cG aa) ?_;refine ag ?_;refine VO.read aa [.slice p R c] aa (aX (kP.cell (j:=0) aa)) (wV aa ?_);refine ag ?_
 refine VS.loopR (J:=λm L W=>∃ e:Nat,e<=R/\m=R-e/\L=[(0,.func (.yield ly) #[] #[]),(1,.pointer (some ⟨B1,0,none⟩)),(8,.slice p R c),(9,.int .i64 (R:Int)),(10,.int .i64 (e:Int))]/\J' (e,0) W) (λW=>aY Tryz.prog W _) (λ_=>aa) (λ_=>aa) (λW=>ax.refl W) R
  (λw' hkw how=>⟨_,?hL,0,ae,rfl,rfl,hbeh _ w w' h0 how⟩) ?_
 case hL=>exact⟨aa,aa,aa,aa,aa,aj⟩
 rintro m L W ⟨e,he,rfl,rfl,hJ⟩;obtain⟨⟨-,Kf,hrows⟩,hB⟩:=Jg _ _ hJ;refine ag ?_;by_cases hlt:e<R
 rotate_left
 ·refine VS.bC aa (aR (λe=>hlt (aW.1 e))) ?_;refine ag ?_;refine VS.Ey (bU _ _) aa λwz β kz bz en=> ?_;exact⟨⟨_,aa⟩,.inl ⟨(e,0),by unfold FinT;rw[<-hR];congr 1;omega,hbeh _ W wz hJ bz⟩⟩
 obtain⟨r,hr⟩:∃ x,t[e]? =some x:=⟨_,aH ae⟩;obtain⟨u,hu⟩:∃ x,us[e]? =some x:=⟨_,aH ae⟩;obtain⟨b,off,cs,rfl,hc,⟨rfl,-⟩⟩:=Kf.at hu;have bD:=hrows e u r hu hr;obtain⟨pr,cr,rfl,hKc,hKm⟩:=bD.form;obtain⟨K,hK⟩:∃ K,K=r.length:=⟨_,aa⟩;rw[<-hK] at bD hc hKc;refine VS.bB aa (aU (aW.2 hlt)) ?_;refine ag ?_;refine VO.cond aa fb ?_;refine wV aa ?_;refine ag ?_;refine VO.read aa [.slice pr K cr] aa (fK hc) (wV aa ?_);refine ag ?_
 refine VS.loopR (J:=λm L W=>∃ z:Nat,z<=K/\m=K-z/\L=[(0,.func (.yield ly) #[] #[]),(1,.pointer (some ⟨B1,0,none⟩)),(8,.slice (some ⟨b,off,none⟩) R c),(9,.int .i64 (R:Int)),(10,.int .i64 (e:Int)),(3,.int .i64 (e:Int)),(15,.slice pr K cr),(16,.int .i64 (K:Int)),(17,.int .i64 (z:Int))]/\J' (e,z) W) (λW=>aY Tryz.prog W _) (λ_=>aa) (λ_=>aa) (λW=>ax.refl W) K
  (λw' hkw how=>⟨_,?hL2,0,ae,rfl,rfl,hbeh _ W w' hJ how⟩) ?_
 case hL2=>exact⟨aa,aa,aa,aa,aa,aa,aa,aa,aa,aj⟩
 rintro m L W2 ⟨z,hz,rfl,rfl,hJ2⟩;obtain⟨⟨-,hus2,hrows2⟩,hB2⟩:=Jg _ _ hJ2;have Im:=hrows2 e _ r hu hr;rw[<-hK] at Im;refine ag ?_;by_cases hlz:z<K
 rotate_left
 ·refine VS.bC aa (aR (λe=>hlz (aW.1 e))) ?_;refine ag ?_;refine VS.backR aa (R-(e+1)) ae [(0,.func (.yield ly) #[] #[]),(1,.pointer (some ⟨B1,0,none⟩)),(8,.slice (some ⟨b,off,none⟩) R c),(9,.int .i64 (R:Int)),(10,.int .i64 ((e+1:Nat):Int))] ⟨aa,aa,aa,aa,?_,aj⟩ (λw' ML ho'=>⟨e+1,ae,aa,aa,hmv (e,z) (e+1,0) w' ⟨r,hr,ae,aa⟩ (hbeh _ W2 w' hJ2 ho')⟩);rw[<-bl (i:=e) ae];rfl
 obtain⟨x,hx⟩:∃ x,r[z]? =some x:=⟨_,aH ae⟩;obtain⟨bx,ox,Bs,rfl,qz,ik⟩:=Im.at hx;have hel0:=ik;obtain⟨s,q,n,l,t',y,m',d,rfl,-⟩:=ik;refine VS.bB aa (aU (aW.2 hlz)) ?_;refine ag ?_;refine VO.cond aa fb ?_;refine wV aa ?_;refine ag ?_;refine VO.read aa [.bool s,.slice q n l,.bool t',.slice y m' d] aa (bf qz 0 _ ⟨[],aa⟩) (wV aa ?_)
 (repeat (first|refine wN ?_|refine wP aa ?_|refine wO aa aa ?_))
 refine VS.QG (bU _ _) 5 aa aa aa aa aa aa aa aa (wV aa ?_);refine wN ?_;refine⟨ly,_,λW=>aY Tryz.prog W _,aa,aa,λ_=>aa,λ_=>aa,λW=>ax.refl W,(show 27<31 by decide),(show 28<31 by decide),λw9 kw ow=> ?_⟩;refine Ki (hy (e,z) (e,z+1) _ w9 (hbeh _ W2 w9 hJ2 ow) ⟨r,x,_,_,_,_,_,_,_,_,hr,hx,aa,(Ai kk).kp hel0 (Kp.of (U:=UU) ow),aa⟩) ?_;rintro o w3 (⟨rfl,hJ3⟩|⟨rfl,hJx⟩)
 ·refine⟨true,aa,[(0,.func (.yield ly) #[] #[]),(1,.pointer (some ⟨B1,0,none⟩)),(8,.slice (some ⟨b,off,none⟩) R c),(9,.int .i64 (R:Int)),(10,.int .i64 (e:Int)),(3,.int .i64 (e:Int)),(15,.slice (some ⟨bx,ox,none⟩) K cr),(16,.int .i64 (K:Int)),(17,.int .i64 (z:Int))],⟨aa,aa,aa,aa,aa,aa,aa,aa,aa,aj⟩,aa,?_⟩;refine ag ?_;refine VS.backR aa (K-(z+1)) ae [(0,.func (.yield ly) #[] #[]),(1,.pointer (some ⟨B1,0,none⟩)),(8,.slice (some ⟨b,off,none⟩) R c),(9,.int .i64 (R:Int)),(10,.int .i64 (e:Int)),(3,.int .i64 (e:Int)),(15,.slice (some ⟨bx,ox,none⟩) K cr),(16,.int .i64 (K:Int)),(17,.int .i64 ((z+1:Nat):Int))] ⟨aa,aa,aa,aa,aa,aa,aa,aa,?_,aj⟩ (λw' ML ho'=>⟨z+1,ae,aa,aa,hbeh _ w3 w' hJ3 ho'⟩);rw[<-bl (i:=z) ae];rfl
 ·refine⟨false,aa,[],aj,aa,?_⟩;refine ag ?_;refine VS.oU (bU _ _) aa (λwz β kz bz en=> ?_);exact⟨⟨_,aa⟩,.inr (hbehX _ _ hJx bz)⟩
set_option maxRecDepth 4000
abbrev cxA1 (P:Program) (w:World) (N:Nat) (g:Nat) (ha:jA (KU UU) [g] w):Cx:=uM P w N (KU UU) (λt=>Nat.beq t UU) table (λ_ _=>trivial) [g] (jY g) ha
theorem vh (w:World) (N g:Nat) (ha:jA (KU UU) [g] w):(cxA1 Tryz.prog w N g ha).Ok:=gn
theorem Kj (w:World) (N g:Nat) (ha:jA (KU UU) [g] w):(cxA1 Tryz.prog w N g ha).P.follows .mixedOrders=true:=by show Tryz.prog.follows .mixedOrders=true;kernel_rfl
theorem ij {b:Nat} {t:TypeId} {cs:List Value} (h:aQ w b t cs.toArray) (off:Nat) (ds:List Value) (hd:ds <+:cs.drop off):∀ (j:Nat) (u:Value),ds[j]? =some u->w.cell? ((⟨b,off,none⟩:Addr).add j)=some u:=by
 intro j u hj;obtain⟨t,ht⟩:=hd;rw[Addr.add_mid];refine aQ.cell (b:=b) h ?_;rw[List.getElem?_toArray,<-oo,<-ht,jo (bd.1 hj).1];exact hj
theorem Kk {C:Cx} {l:List Deferred} (h:C.Ok):(dsCx C l).Ok:=h
theorem Kl (h:decide (fT t=fT u)=false):decide (t=u)=false:=aR (λe=>of_decide_eq_false h (by rw[e]))
set_option maxRecDepth 4000 in
theorem NM (v u:Value) (t t2:mG) (j k:Nat) (w:World) (hv:bK (jR j) 1 w v t) (hu:bK (jR k) 1 w u t2) (hj1:1<=j) (yv:1<=k) (hj:j<=1000) (hk:k<=1000):
  Calls Tryz.prog 32 #[.agg #[v],.agg #[u]] w λo w'=>o=.returned (.bool (decide (t=t2)))/\ax w w':=by
 obtain⟨p,c,rfl⟩:=hv.sl;obtain⟨p2,c2,rfl⟩:=hu.sl;refine Hy (C:=aY Tryz.prog w _) (args:=[_,_]) Tryz.func32 aa Tryz.ntmps32 (cG aa) ?_;refine ag ?_;refine VO.call aa aa (fk Tryz.func76) (λcV eG db=>(NL _ _ t t2 j k cV (hv.qB (jE j) db) (hu.qB (jE k) db)).mono ?_);rintro o w1 ⟨rfl,bF⟩;cases hl:decide (fT t=fT t2) with
 | false=>
   refine dB bF ?_;intro fM _ bb1;refine VS.retM (bU _ _) aa aa (λwz kz bz=> ?_);exact⟨by rw[Kl hl];rfl,bz⟩
 | true=>
 have hll:fT t=fT t2:=mY hl;refine⟨_,aa,bF,λfM _ bb1=>wV aa ?_⟩
 (repeat (first|refine wN ?_|refine wP aa ?_|refine wO aa aa ?_))
 refine VS.jZ (λw=>aY Tryz.prog w 28) (λ_=>aa) (λ_=>aa) (λ_=>ax.refl _) (λw9 β k9 b9 en=> ?_);have hb9:ax w w9:=b9;have h2:aQ w9 (β 2) 52 #[.slice p t.length c]:=(en.own 2 _ _ aa).cls;have h3:aQ w9 (β 3) 52 #[.slice p2 t2.length c2]:=(en.own 3 _ _ aa).cls;have h4:aQ w9 (β 4) 4 #[.bool false]:=(en.own 4 _ _ aa).cls;have hn4:w.heap.size<=β 4:=(en.own 4 _ _ aa).new;refine⟨[(2,.val (.pointer (some ⟨β 2,0,none⟩))),(3,.val (.pointer (some ⟨β 3,0,none⟩))),(4,.val (.pointer (some ⟨β 4,0,none⟩)))],⟨⟨_,_,aa,aa,aa⟩,⟨_,_,aa,aa,aa⟩,⟨_,_,aa,aa,aa⟩,aj⟩,?_⟩;generalize β 2=g2 at h2 ⊢;generalize β 3=g3 at h3 ⊢;generalize β 4=g4 at h4 hn4 ⊢;refine VS.regionC (bU _ _) 1 aa aa aa (wV aa ?_);refine VO.read aa [.slice p t.length c] aa (aX (h2.cell (j:=0) aa)) (wV aa ?_);refine wN ?_;refine⟨_,_,_,aa,aa,fk Tryz.func78,λw3 k3 o3=>(all_any p t.length c w3).mono ?_⟩;rintro e w4 ⟨B1,rfl,hB1,yk,jJ⟩;refine⟨_,aa,jJ,λβ a3 a4 hr3 hr4 k4=> ?_⟩;have Bk:ax w9 w4:=ax.aG o3 jJ;have lM:ax w w4:=hb9.aG Bk;have h34:=h3.aA Bk;have h44:=h4.aA Bk;have hsz4:a4.tmps.size=28:=hr4.size;have ht3:a4.tmps.getD 3 undef=.pointer (some ⟨g3,0,none⟩):=hr4.tmp 3 _ aa;have ht4:a4.tmps.getD 4 undef=.pointer (some ⟨g4,0,none⟩):=hr4.tmp 4 _ aa;obtain⟨us,Kf⟩:=tabH_of hv;have hg43:g3≠g4:=λh=>by rw[h] at h3;exact absurd (bL h3 h4) cW
 have hgB:B1≠g4:=λh=>by rw[h] at hB1;exact absurd (bL hB1 h44) cW
 have hold:∀ W,dP [g4] w4 W->ax w W:=λW h=>dP.aA lM h (λg hg=>by rw[ak.1 hg];exact hn4);refine VS.goB ?_
 refine HF .ret .ret (.inl ⟨aa,aa⟩) (hr4.tmp 12 _ aa) (enters_of Tryz.func138 (by kernel_rfl) aa) (0,0) (MvT t)
  (λi W=>dP [g4] w4 W/\aQ W g4 4 #[.bool false]/\(∀ n,n<i.1->t[n]? =t2[n]?)/\(∀ r s,t[i.1]? =some r->t2[i.1]? =some s->∀ n,n<i.2->r[n]? =s[n]?))
  (λW=>dP [g4] w4 W/\aQ W g4 4 #[.bool false]/\t≠t2) (PrT t j) (FinT t) ?hput ?hputX ?hmv ?hbeh ?hbehX ?h0 ?hps ?hseq ?hround ?hdone ?hleave
 case hput=>
  rintro i W l r r' ⟨g1,g2',g3',g4'⟩ hl hq;exact⟨g1.put hl _,g2'.put hq _,g3',g4'⟩
 case hputX=>
  rintro W l r r' ⟨g1,g2',g3'⟩ hl hq;exact⟨g1.put hl _,g2'.put hq _,g3'⟩
 case hmv=>
  rintro⟨e,z⟩ i' W ⟨r,hr,hz,rfl⟩ ⟨g1,g2',g3',g4'⟩;have hz':z=r.length:=hz;have Bc:t[e]? =some r:=hr;refine⟨g1,g2',λn hn=> ?_,λr s _ _ n hn=>by have:n<0:=hn;omega⟩;have hn':n<e+1:=hn;by_cases hne:n=e
  ·subst hne;have h5:=nP Bc;rw[hll] at h5
   obtain⟨s,hs⟩:∃ s,t2[n]? =some s:=by
    cases hs:t2[n]? with
    | some s=>exact⟨s,aa⟩
    | none=>unfold fT at h5;rw[jq,hs] at h5;cases h5
   have h6:=nP hs;rw[h6] at h5;have h7:s.length=r.length:=lx h5;rw[Bc,hs,row_eq h7.symm (λi hi=>g4' r s Bc hs i (show i<z by omega))]
  ·exact g3' n (show n<e by omega)
 case hbeh=>
  rintro i W W' ⟨g1,g2',g3',g4'⟩ hb;exact⟨g1.aG (dP.of hb),g2'.aA hb,g3',g4'⟩
 case hbehX=>
  rintro W W' ⟨g1,g2',g3'⟩ hb;exact⟨g1.aG (dP.of hb),g2'.aA hb,g3'⟩
 case h0=>exact⟨dP.of (ax.refl _),h44,λn hn=>absurd hn (Nat.not_lt_zero n),λr s _ _ n hn=>absurd hn (Nat.not_lt_zero n)⟩
 case hps=>
  rintro i i' vs W ⟨r,x,s,q,n,l,t',y,m,d,-,-,rfl,-⟩;rfl
 case hseq=>
  intro ly J' IE W nZ hmv' hJ' QF hJJ hY h0';refine callsIn_wide.2 (Ro us t j ly B1 p t.length c J' IE aa (λi W2 h=> ?_) hmv' hJ' QF hY W h0');obtain⟨g1,-⟩:=hJJ i W2 h;exact⟨Kf.aA (hold W2 g1),(g1.jd _ hB1.lt (λhm=>hgB (ak.1 hm))).trans hB1⟩
 case hdone=>
  rintro D i W hD hi ⟨g1,po,Ip,-⟩ hDW;cases hi
  have heq:t=t2:=qk λn=>by
   by_cases hn:n<t.length
   ·exact Ip n hn
   ·have:(fT t).length=(fT t2).length:=by rw[hll]
    unfold fT at this;rw[aM,aM] at this;rw[gD ae,gD ae]
  refine VS.goA (K:=KU UU) (SU:=λt=>Nat.beq t UU) (ti:=table) (keep:=λ_ _=>trivial) (L:=[]) 4 hr4 ⟨⟨_,_,aa,aa,aa⟩,aj⟩ po aa aa ?_;refine VS.jd ?_;refine VS.seq (VS.region (Kk (vh _ _ _ _)) (wV aa (wN ?_)));refine VS.retD [D] (Kk (vh _ _ _ _)) aa aa aa (λw' ho=>⟨cf,λd hd=> ?_⟩) (λ_=>trivial) (λw' w'' k' o' hs=>⟨by rw[aU heq];rfl,?_⟩)
  ·rw[ak.1 hd]
   exact (ho.1.jd _ (gh.1 hDW).1 (λhm=>by
    rw[ak.1 hm] at hDW;have:=hDW.symm.trans po;cases this)).trans hDW
  ·refine hs.aA (dP.aA (hold W g1) o'.1 (λg hg=>by rw[ak.1 hg];exact hn4)) (λd hd=> ?_);rw[ak.1 hd];exact aV lM.size hD
 case hleave=>
  rintro D W hD ⟨g1,po,hne⟩ hDW;refine VS.goAJ (K:=KU UU) (SU:=λt=>Nat.beq t UU) (ti:=table) (keep:=λ_ _=>trivial) (L:=[]) 4 hr4 ⟨⟨_,_,aa,aa,aa⟩,aj⟩ po aa aa ?_;refine VS.retD [D] (Kk (vh _ _ _ _)) aa aa aa (λw' ho=>⟨cf,λd hd=> ?_⟩) (λ_=>trivial) (λw' w'' k' o' hs=>⟨by rw[aR hne];rfl,?_⟩)
  ·rw[ak.1 hd]
   exact (ho.1.jd _ (gh.1 hDW).1 (λhm=>by
    rw[ak.1 hm] at hDW;have:=hDW.symm.trans po;cases this)).trans hDW
  ·refine hs.aA (dP.aA (hold W g1) o'.1 (λg hg=>by rw[ak.1 hg];exact hn4)) (λd hd=> ?_);rw[ak.1 hd];exact aV lM.size hD
 case hround=>
  rintro ly ⟨e,z⟩ i' vs W qy ⟨g1,po,Ip,QI⟩ ⟨r,x,s,q,n,l,t',y,m,d,hr,hx,rfl,ik,rfl⟩ ⟨rr,hrr⟩;replace hr:t[e]? =some r:=hr;replace hx:r[z]? =some x:=hx;replace Ip:∀ n,n<e->t[n]? =t2[n]? :=Ip;replace QI:∀ r s,t[e]? =some r->t2[e]? =some s->∀ n,n<z->r[n]? =s[n]? :=QI
  obtain⟨r2,sn,hrl⟩:∃ r2,t2[e]? =some r2/\r2.length=r.length:=by
   have h5:=nP hr;rw[hll] at h5;cases hs:t2[e]? with
   | some s=>rw[nP hs] at h5;exact⟨s,aa,lx h5⟩
   | none=>unfold fT at h5;rw[jq,hs] at h5;cases h5
  obtain⟨y2,uV⟩:∃ y2,r2[z]? =some y2:=⟨_,aH (by rw[hrl];exact (bd.1 hx).1)⟩;have hbwW:=hold W g1;refine jS.start (C:=aY Tryz.prog W 28) ?_ (Knows.rel (L:=[(3,.pointer (some ⟨g3,0,none⟩)),(4,.pointer (some ⟨g4,0,none⟩)),(13,.agg #[.int .i64 (e:Int),.int .i64 (z:Int)]),(14,.agg #[.bool s,.slice q n l,.bool t',.slice y m d])]) ?hkn (ax.refl W)) (aK.refl _ _)
  case hkn=>
   refine⟨aa,by simp[hsz4],λq hq=> ?_⟩;simp only[List.mem_cons,List.not_mem_nil,or_false] at hq;rw[fy] at ht3 ht4 ⊢;rcases hq with rfl|rfl|rfl|rfl
   ·refine⟨show 3<28 by decide,?_⟩;simpa [Array.getElem?_setIfInBounds] using ht3
   ·refine⟨show 4<28 by decide,?_⟩;simpa [Array.getElem?_setIfInBounds] using ht4
   ·refine⟨show 13<28 by decide,?_⟩;simp[Array.getElem?_setIfInBounds,hsz4]
   ·refine⟨show 14<28 by decide,?_⟩;simp[Array.getElem?_setIfInBounds,hsz4]
  refine jS.seq (jS.region (dW.round _) (bU _ _) aa aa (wN (jS.region (dW.round _) (bU _ _) aa aa (wN (jS.done λβ2 a2 W2 wM hk2=> ?_)))));refine⟨wM.old,λr'=> ?_⟩;have cJ:ax W W2:=wM.old;have hrr2:W2.heap[ly]? =some (.loop rr):=(ky cJ _ (gh.1 hrr).1).trans hrr;have hB3:dP [g4] w4 (W2.putObj ly (.loop r')):=(g1.aG (dP.of cJ)).put qy _;have Cs:=(po.aA cJ).put hrr2 (.loop r');have hc5:=(wM.own 5 _ _ aa).cls.put hrr2 (.loop r');have hc6:=(wM.own 6 _ _ aa).cls.put hrr2 (.loop r');have hk3:Kp UU W (W2.putObj ly (.loop r')):=hk2.aG (aK.put hrr2);have hn5:W.heap.size<=β2 5:=(wM.own 5 _ _ aa).new;have hn6:W.heap.size<=β2 6:=(wM.own 6 _ _ aa).new
  have hkn2:Knows 28 ((4,.pointer (some ⟨g4,0,none⟩))::[(3,.pointer (some ⟨g3,0,none⟩)),(5,.pointer (some ⟨β2 5,0,none⟩)),(6,.pointer (some ⟨β2 6,0,none⟩))]) a2:=by
   refine⟨wM.defers,wM.size,λq hq=> ?_⟩;simp only[List.mem_cons,List.not_mem_nil,or_false] at hq;rcases hq with rfl|rfl|rfl|rfl
   ·exact⟨show 4<28 by decide,wM.tmp 4 _ rfl⟩
   ·exact⟨show 3<28 by decide,wM.tmp 3 _ rfl⟩
   ·exact⟨show 5<28 by decide,wM.tmp 5 _ rfl⟩
   ·exact⟨show 6<28 by decide,wM.tmp 6 _ rfl⟩
  have AX:=po.lt;replace hc5:aQ (W2.putObj ly (.loop r')) (β2 5) 144 #[.int .i64 (e:Int),.int .i64 (z:Int)]:=hc5;replace hc6:aQ (W2.putObj ly (.loop r')) (β2 6) 27 #[.bool s,.slice q n l,.bool t',.slice y m d]:=hc6;replace Cs:aQ (W2.putObj ly (.loop r')) g4 4 [.bool false].toArray:=Cs;generalize β2 5=b5 at hc5 hn5 hkn2;generalize β2 6=b6 at hc6 hn6 hkn2;clear wM hk2;generalize W2.putObj ly (.loop r')=W3 at*;have MZ:=hold W3 hB3;have hc3:aQ W3 g3 52 #[.slice p2 t2.length c2]:=(hB3.jd _ h34.lt (λhm=>hg43 (ak.1 hm))).trans h34;obtain⟨bq,oq,csq,rfl,hcq,⟨rv2,rfl,Im⟩⟩:=hu.at sn;obtain⟨Di,Bv,rfl,hKc2,hKm2⟩:=Im.form;obtain⟨bx,ox,Bs,rfl,qz,hel2⟩:=Im.at uV;obtain⟨s2,q2,n2,l2,t2',y2',m2,d2,rfl,hel2'⟩:=hel2;have jP:=(bd.1 uV).1;have he2:=(bd.1 sn).1
  have Ct:∀ {b off:Nat} {cs:List Value},(∀ (j:Nat) (u:Value),cs[j]? =some u->w.cell? ((⟨b,off,none⟩:Addr).add j)=some u)->∀ (j:Nat) (u:Value),cs[j]? =some u->Cx.At (cxA1 Tryz.prog W3 28 g4 (ad1 Cs rfl rfl)) ((⟨b,off,none⟩:Addr).add j) u:=λh j u hj=>cD (λhm=>by
   have:=gP w _ (h j u hj);omega) (MZ.cell (h j u hj))
  refine jS.start (C:=cxA1 Tryz.prog W3 28 g4 (ad1 Cs aa aa)) ?_ (LN _ _ hkn2 Cs aa aa) (aK.refl _ _);refine jS.block (jS.seq (jS.draw (dW.round _) (λ⟨_,_,h⟩=>(by rcases h.2 with h|h <;> cases h.1)) (vh _ _ _ _) (Kj _ _ _ _) aa aa ?_));obtain⟨s0,q0,n0,l0,t0,y0,m0,d0,e0,xP⟩:=ik;cases e0;refine VO.bJ aa [.bool s,.slice q n l,.bool t',.slice y m d] aa (λj u hj=>cD (by rw[Addr.add_mid];show b6≠g4;omega) (ij (cs:=[.bool s,.slice q n l,.bool t',.slice y m d]) hc6 0 _ ⟨[],aa⟩ j u hj)) (wV aa ?_);refine VO.bJ aa [.slice (some ⟨bq,oq,none⟩) t2.length c2] aa (λj u hj=>cD (by rw[Addr.add_mid];exact hg43) (ij (cs:=[.slice (some ⟨bq,oq,none⟩) t2.length c2]) hc3 0 _ ⟨[],aa⟩ j u hj)) (wV aa ?_);refine VO.bJ aa [.int .i64 (e:Int)] aa (λj u hj=>cD (by rw[Addr.add_mid];show b5≠g4;omega) (ij (cs:=[.int .i64 (e:Int),.int .i64 (z:Int)]) hc5 0 _ ⟨_,aa⟩ j u hj)) (wV aa ?_);refine VO.cond aa fb (wV aa ?_);refine VO.bJ aa [.slice (some ⟨bx,ox,none⟩) r2.length Bv] aa (Ct (fK hcq)) (wV aa ?_);refine VO.bJ aa [.int .i64 (z:Int)] aa (λj u hj=>cD (by rw[Addr.add_mid];show b5≠g4;omega) (ij (cs:=[.int .i64 (e:Int),.int .i64 (z:Int)]) hc5 1 _ ⟨_,aa⟩ j u hj)) (wV aa ?_);refine VO.cond aa fb (wV aa ?_);refine VO.bJ aa [.bool s2,.slice q2 n2 l2,.bool t2',.slice y2' m2 d2] aa (Ct (bf qz 0 _ ⟨[],aa⟩)) (wV aa ?_);refine VO.call aa aa (fk Tryz.func81) (λmP oV og=>(Hn _ _ x y2 j k mP (xP.kp (T:=λ_=>false) (kT hk3 oV)) ((hel2'.kp (Kp.of (U:=UU) MZ)).kp (T:=λ_=>false) oV) ae ae).mono ?_);rintro o w5 ⟨rfl,lL⟩;by_cases Dx:x=y2
  ·rw[aU Dx];refine⟨_,aa,lL,λtw _ Ek=>wV aa ?_⟩;refine wN (jS.bC aa aa (jS.skip (jS.jd (jS.done λβ3 a5 W4 hr5 hk5=> ?_))));have hoc:aQ W4 g4 4 #[.bool false]:=own1 (hr5.own 56 _ _ aa) aa;have Rp:dP [g4] W3 W4:=hr5.old.1;refine⟨Cb.but Rp (λg hg=>by rw[ak.1 hg];exact⟨_,_,Cs⟩),.inl ⟨aa,hB3.aG Rp,hoc,Ip,λra sa h1 h2 n hn=> ?_⟩⟩;have hn':n<z+1:=hn;by_cases hnz:n=z
   ·subst hnz;have e1:ra=r:=lx (h1.symm.trans hr);have e2:sa=r2:=lx (h2.symm.trans sn);rw[e1,e2,hx,uV,Dx]
   ·exact QI ra sa h1 h2 n ae
  ·rw[aR Dx];refine⟨_,aa,lL,λtw _ Ek=>wV aa ?_⟩;refine wN (jS.bB aa aa (jS.seq (jS.region (dW.round _) (vh _ _ _ _) aa aa (wN (jS.ret λβ3 a5 W4 hr5 hk5=> ?_)))));have hoc:aQ W4 g4 4 #[.bool false]:=own1 (hr5.own 56 _ _ aa) aa;have Rp:dP [g4] W3 W4:=hr5.old.1;refine⟨Cb.but Rp (λg hg=>by rw[ak.1 hg];exact⟨_,_,Cs⟩),.inr ⟨aa,hB3.aG Rp,hoc,λheq=>Dx ?_⟩⟩
   have e1:r=r2:=by
    rw[heq] at hr;exact lx (hr.symm.trans sn)
   rw[e1] at hx;exact lx (hx.symm.trans uV)
set_option maxRecDepth 4000
section
variable {F F':Fr} {H H':Hp} {w w1:World} {N:Nat} {l':List Oper} {Q:Exit->Act->World->Prop} {k:List It} {id:Nat} {ops:Array Oper}
end
theorem Rq (t:mG):rtab (rawT t)=t:=by
 unfold rtab rawT;rw[oz]
 conv=>rhs;rw[<-List.map_id t]
 refine mW λr _=> ?_;show (r.map Rw.of).map Rw.q=r;rw[oz]
 conv=>rhs;rw[<-List.map_id r]
 exact mW λx _=>QA x
set_option maxRecDepth 4000
def six (x:Rw):Prop:=x.xs.length<=6/\x.ys.length<=6
set_option maxRecDepth 4000 in
theorem Rr (v:Value) (l:List Rw) (kk:Nat) (w:World) (hv:bK (cP kk) 4 w v l):
  Calls Tryz.prog 126 #[v] w λo w'=>∃ b,o=.returned (.bool b)/\(b=true->∀ x∈l,six x)/\ax w w':=by
 obtain⟨p,c,rfl,fV,gj⟩:=hv.form;obtain⟨N,hN⟩:∃ N,N=l.length:=⟨_,aa⟩;rw[<-hN] at hv fV ⊢;refine ai (C:=aY Tryz.prog w _) (args:=[_]) Tryz.func126 aa Tryz.ntmps126 (cG aa) ?_;refine ag ?_;refine VS.loop (J:=λm L M w'=>∃ z:Nat,z<=N/\m=N-z/\L=[(0,.val (.slice p N c)),(3,.val (.int .i64 (z:Int)))]/\M=[]/\∀ (i:Nat) (x:Rw),i<z->l[i]? =some x->six x) N ⟨_,_,?_,?_,?_,?_,⟨0,ae,aa,aa,aa,λi x hi=>ae⟩⟩ ?_
 ·exact lD
 ·exact lD
 ·rfl
 ·exact AZ
 rintro m L M wJ ⟨z,hz,rfl,rfl,rfl,hup⟩;refine ag ?_;by_cases hlt:z<N
 rotate_left
 ·refine VS.bC aa (aR (λe=>hlt (aW.1 e))) ?_;refine ag ?_;refine ck ?_;intro wz kz bz;refine⟨_,aa,λ_ x hx=> ?_,bz⟩;obtain⟨i,hi⟩:=sE hx;exact hup i x (by have:=(bd.1 hi).1;omega) hi
 obtain⟨x,hx⟩:∃ x,l[z]? =some x:=⟨_,aH ae⟩;obtain⟨b,off,cs,rfl,hc,ik⟩:=hv.at hx;obtain⟨s,px,cx,t,yx,dx,rfl,sx⟩:=ik.form;obtain⟨_,_,_,_,hv',h1,h2⟩:=sx;clear hv';have bF:=h1.Om.1.u32;have cJ:=h2.Om.1.u32;refine VS.bB aa (aU (aW.2 hlt)) ?_;refine ag ?_;refine VO.cond aa fb ?_;refine wV aa ?_;refine ag ?_;refine VO.read aa [.slice px x.xs.length cx] aa (bf hc 1 _ ⟨_,aa⟩) (wV aa ?_);refine ag ?_;by_cases h6:(x.xs.length:Int)>6
 ·refine VO.fix 18 aa (au (λb=>AV.val (.bool b)) (aU h6)) ?_;refine ag ?_;refine ck ?_;intro wz kz bz;exact⟨_,aa,λh=>(by cases h),bz⟩
 refine VO.fix 18 aa (au (λb=>AV.val (.bool b)) (aR h6)) ?_;refine ag ?_;refine VO.cond aa fb ?_;refine wV aa ?_;refine ag ?_;refine VO.read aa [.slice yx x.ys.length dx] aa (bf hc 3 _ ⟨[],aa⟩) (wV aa ?_);refine ag ?_;by_cases h7:(x.ys.length:Int)>6
 ·refine VS.bB aa (aU h7) ?_;refine ag ?_;refine ck ?_;intro wz kz bz;exact⟨_,aa,λh=>(by cases h),bz⟩
 refine VS.bC aa (aR h7) ?_;refine ag ?_;refine VS.back (N-(z+1)) ae ⟨_,_,?_,?_,?_,?_,⟨z+1,ae,aa,aa,aa,λi y hi hy=> ?_⟩⟩
 ·refine⟨aa,?_,aj⟩;rw[<-bl (i:=z) ae];rfl
 ·exact lD
 ·rfl
 ·exact AZ
 ·by_cases LP:i=z
  ·subst LP;rw[hx] at hy;cases hy;exact⟨ae,ae⟩
  ·exact hup i y ae hy
set_option maxRecDepth 4000 in
theorem Km (v:Value) (l:List ByteArray) (w:World) (hv:bK ed 1 w v l):
  Calls Tryz.prog 128 #[v] w λo w'=>∃ b,o=.returned (.bool b)/\(b=true->∀ x∈l,x.size<=70)/\ax w w':=by
 obtain⟨p,c,rfl,fV,gj⟩:=hv.form;obtain⟨N,hN⟩:∃ N,N=l.length:=⟨_,aa⟩;rw[<-hN] at hv fV ⊢;refine ai (C:=aY Tryz.prog w _) (args:=[_]) Tryz.func128 aa Tryz.ntmps128 (cG aa) ?_;refine ag ?_;refine VS.loop (J:=λm L M w'=>∃ z:Nat,z<=N/\m=N-z/\L=[(0,.val (.slice p N c)),(3,.val (.int .i64 (z:Int)))]/\M=[]/\∀ (i:Nat) (x:ByteArray),i<z->l[i]? =some x->x.size<=70) N ⟨_,_,?_,?_,?_,?_,⟨0,ae,aa,aa,aa,λi x hi=>ae⟩⟩ ?_
 ·exact lD
 ·exact lD
 ·rfl
 ·exact AZ
 rintro m L M wJ ⟨z,hz,rfl,rfl,rfl,hup⟩;refine ag ?_;by_cases hlt:z<N
 rotate_left
 ·refine VS.bC aa (aR (λe=>hlt (aW.1 e))) ?_;refine ag ?_;refine ck ?_;intro wz kz bz;refine⟨_,aa,λ_ x hx=> ?_,bz⟩;obtain⟨i,hi⟩:=sE hx;exact hup i x (by have:=(bd.1 hi).1;omega) hi
 obtain⟨x,hx⟩:∃ x,l[z]? =some x:=⟨_,aH ae⟩;obtain⟨b,off,cs,rfl,hc,ik⟩:=hv.at hx;cases ik;refine VS.bB aa (aU (aW.2 hlt)) ?_;refine ag ?_;refine VO.cond aa fb ?_;refine wV aa ?_;refine ag ?_;refine VO.read aa [.string x] aa (fK hc) (wV aa ?_);refine ag ?_;by_cases h7:((x.size:Nat):Int)>70
 ·refine VS.bB aa (aU h7) ?_;refine ag ?_;refine ck ?_;intro wz kz bz;exact⟨_,aa,λh=>(by cases h),bz⟩
 refine VS.bC aa (aR h7) ?_;refine ag ?_;refine VS.back (N-(z+1)) ae ⟨_,_,?_,?_,?_,?_,⟨z+1,ae,aa,aa,aa,λi y hi hy=> ?_⟩⟩
 ·refine⟨aa,?_,aj⟩;rw[<-bl (i:=z) ae];rfl
 ·exact lD
 ·rfl
 ·exact AZ
 ·by_cases LP:i=z
  ·subst LP;rw[hx] at hy;cases hy;omega
  ·exact hup i y ae hy
theorem cw.app {α:Type} {E:World->List Value->α->Prop} {w:World}:∀ {zs bs:List α} {vs us:List (List Value)},cw E w zs vs->cw E w bs us->cw E w (zs++bs) (vs++us)
 | _,_,_,_,.nil,h=>h
 | _,_,_,_,.cons h t,k=>.cons h (t.app k)
section
variable {C:Cx} {F:Fr} {H:Hp} {w:World} {m:Option (List FuncId)} {full:Array Oper} {K:Fr->Hp->World->Prop} {o:Oper} {r:List Oper}
variable {vs:List (List Value)} {sp:List AV} {i c dst:Nat} {x y:Operand} {it ie:TI} {α:Type} {zs es:List α} {t e:TypeId} {E:World->List Value->α->Prop}
theorem VO.wR {sz:Nat} (hC:C.Ok) (hE:gp E sz) {te:TypeId} {s n kn:Nat} {css:List (List Value)}
  (e0:stepOf C full F H o=.call (.op o [.row i 0 n c,.row s 0 kn kn])) (ho:o.op=.call { callee:=.builtin .append,args:=#[x,y],argTypes:=#[t,t] })
  (Jv:C.ti t=some it) (ik:it.elem=some (e,sz)) (vB:C.ti e=some ie) (hU:C.K.fz e=false) (PG:ie.zero.cells.toList.all aO=true)
  (hd:o.dst=some dst) (hN:dst<C.N) (hl:lvl C.SU m o=2) (iw:H dst=none\/some i=some dst) (hi:H i=some (e,vs.flatten.map .val++sp)) (hr:fO E sz w n c vs sp es) (hs:H s=some (te,css.flatten.map .val)) (hcs:cw E w zs css) (hkn:zs.length=kn) (Cq:0<kn) (gz:(n+kn)*(24*sz)<=140737488355328)
  (hK:∀ w2 cap mQ ρ,aK C.K w w2->C.Old w2->(∀ x,aO (ρ x)=true)->fO E sz w2 (n+kn) cap (vs++css) mQ (es++zs)->aE C m full r K ((F.forget (some i) ρ).bO o.dst (.row dst 0 (n+kn) cap)) ((H.forget (some i) ρ).put dst (e,(vs++css).flatten.map AV.val++mQ)) w2)
  (hkp:∀ w w',aK C.K w w'->Kp UU w w':=by first|exact λ_ _ h=>h|exact λ_ _ h=>h.dN):aE C m full (o::r) K F H w:=by
 obtain⟨k1,k2⟩:=hr.el.ok hE;obtain⟨j1,j2⟩:=hcs.ok hE;have IW:=hr.len
 refine VO.app hC e0 ho Jv ik vB hU PG hd hN hl (known:=vs.flatten.map .val) (spare:=sp) (del:=some i) (n:=n) (c:=c) (mm:=kn) (news:=css.flatten.map .val) (.inr ⟨i,aa,hi,aa⟩) iw (by rw[aM,k2,IW]) hr.fl hr.le hr.cm ⟨ah _,hr.sl,ah _⟩ ⟨aL k1,hr.so,aL j1⟩ (by rw[aM,j2,hkn]) gz
  (λw1 β k1 b1 ho=>⟨_,_,rfl,.inr ⟨β s,0,rfl,iX (rest:=[]) (ho.own s (.base (om _ (ak.2 rfl))) _ _ hs) (by rw[eX])⟩⟩) (λw2 cap mQ ρ k2 b2 fo h1 h2 h3 h4 h5=> ?_)
 have e:(vs.flatten.map AV.val++css.flatten.map .val)=(vs++css).flatten.map AV.val:=cf;have:=hK w2 cap mQ ρ k2 b2 fo ⟨by rw[bg,hr.len,hkn],(hr.el.kp hE (hkp _ _ k2)).app (hcs.kp hE (hkp _ _ k2)),h4,h5,ae,h2,by rw[<-e];exact h3⟩;rw[<-e] at this;exact this
theorem VO.appT {sz:Nat} (hC:C.Ok) (hE:gp E sz) {n:Nat} {u:Value}
  (e0:stepOf C full F H o=.call (.op o [.row i 0 n c,.val u])) (ho:o.op=.call { callee:=.builtin .append,args:=#[x,y],argTypes:=#[t,t] })
  (Jv:C.ti t=some it) (ik:it.elem=some (e,sz)) (vB:C.ti e=some ie) (hU:C.K.fz e=false) (PG:ie.zero.cells.toList.all aO=true)
  (hd:o.dst=some dst) (hN:dst<C.N) (hl:lvl C.SU m o=2) (iw:H dst=none\/some i=some dst) (hi:H i=some (e,vs.flatten.map .val++sp)) (hr:fO E sz w n c vs sp es) (css:List (List Value)) (hcs:cw E w zs css)
  (Jw:∀ w1,aK C.K w w1->C.Old w1->∃ p cc,u=.slice p zs.length cc/\(zs.length=0\/∃ b off,p=some ⟨b,off,none⟩/\∀ (j:Nat) (q:Value),css.flatten[j]? =some q->w1.cell? ⟨b,off+j,none⟩=some q)) (gz:(n+zs.length)*(24*sz)<=140737488355328)
  (hK:∀ w2 cap mQ ρ,aK C.K w w2->C.Old w2->(∀ x,aO (ρ x)=true)->fO E sz w2 (n+zs.length) cap (vs++css) mQ (es++zs)->aE C m full r K ((F.forget (some i) ρ).bO o.dst (.row dst 0 (n+zs.length) cap)) ((H.forget (some i) ρ).put dst (e,(vs++css).flatten.map AV.val++mQ)) w2)
  (hkp:∀ w w',aK C.K w w'->Kp UU w w':=by first|exact λ_ _ h=>h|exact λ_ _ h=>h.dN):aE C m full (o::r) K F H w:=by
 obtain⟨k1,k2⟩:=hr.el.ok hE;obtain⟨j1,j2⟩:=hcs.ok hE;have IW:=hr.len
 refine VO.app hC e0 ho Jv ik vB hU PG hd hN hl (known:=vs.flatten.map .val) (spare:=sp) (del:=some i) (n:=n) (c:=c) (mm:=zs.length) (news:=css.flatten.map .val) (.inr ⟨i,aa,hi,aa⟩) iw (by rw[aM,k2,IW]) hr.fl hr.le hr.cm ⟨ah _,hr.sl,ah _⟩ ⟨aL k1,hr.so,aL j1⟩ (by rw[aM,j2]) gz
  (λw1 β k1 b1 ho=> ?_) (λw2 cap mQ ρ k2 b2 fo h1 h2 h3 h4 h5=> ?_)
 ·obtain⟨p,cc,hu,xO⟩:=Jw w1 k1 b1;refine⟨p,cc,hu,xO.imp id (λ⟨b,off,hp,hc⟩=>⟨b,off,hp,λj q hj=> ?_⟩)⟩;rw[az] at hj;exact hc j q hj
 ·have e:(vs.flatten.map AV.val++css.flatten.map .val)=(vs++css).flatten.map AV.val:=by simp
  have:=hK w2 cap mQ ρ k2 b2 fo ⟨by rw[bg,hr.len],(hr.el.kp hE (hkp _ _ k2)).app (hcs.kp hE (hkp _ _ k2)),h4,h5,ae,h2,by rw[<-e];exact h3⟩;rw[<-e] at this;exact this
end
set_option maxRecDepth 4000
theorem eU {α β:Type} {g:α->List β} {l:List α} {i:Nat} {x:α} (h:l[i]? =some x):(l.take (i+1)).flatMap g=(l.take i).flatMap g++g x:=by
 rw[fj h,List.flatMap_append];simp
def tM (b:BrR):List Rw:=[b.1,b.2]
def AA (x:Au):List Rw:=[x.2.2]
def ke (x:lg):List Rw:=[x.2.2]
def AB (x:QU):List Rw:=[x.Dk]
def AD (x:QS):List Rw:=[x.2.1,x.2.2]
def Kn (x:QT):List Rw:=[x.2]
def lh (y:ve):List Rw:=y.holds.flatMap ke++y.bn.flatMap ke++y.dE.flatMap AB++y.di.flatMap AD++y.ft.flatMap Kn
def iY (f:kM):List Rw:=[f.On,f.cap,f.Oo,f.Oq]++f.Fa.flatMap tM++f.cls.flatMap AA++f.jn.flatMap lh
structure Rs (f:kM):Prop where
 Fa:f.Fa.length<=20
 cls:f.cls.length<=70
 dD:f.dD.length<=260
 jn:f.jn.length<=45
 each:∀ y∈f.jn,y.holds.length<=40/\y.bn.length<=40/\y.dE.length<=40/\y.di.length<=40/\y.ft.length<=40
set_option maxRecDepth 8000 in
theorem Rt (v:Value) (f:kM) (kk:Nat) (w:World) (hv:sB kk w v f) (hs:Rs f):
  Calls Tryz.prog 127 #[v] w λo w'=>∃ r,o=.returned r/\ay (cP kk) 4 27 w.heap.size w' r (iY f)/\ax w w':=by
 obtain⟨pB,nB,cB,sT,pT,nT,cT,tT,yT,mT,dT,sC,pC,nC,cC,tC,yC,mC,dC,sI,pI,nI,cI,tI,yI,mI,dI,sF,pF,nF,cF,tF,yF,mF,dF,pc,Nc,cc,pe,Ne,ce,py,Ny,cy,rfl,h1,h2,h3,h4,h5,h6,h7,h8⟩:=hv;have hnB:nB=f.Fa.length:=by obtain⟨_,_,e,_⟩:=h1.form;cases e;rfl
 have hNc:Nc=f.cls.length:=by obtain⟨_,_,e,_⟩:=h6.form;cases e;rfl
 have hNy:Ny=f.jn.length:=by obtain⟨_,_,e,_⟩:=h8.form;cases e;rfl
 have hsB:=hs.Fa;have hsC:=hs.cls;have hsY:=hs.jn;refine ai (C:=aY Tryz.prog w _) (args:=[_]) Tryz.func127 aa Tryz.ntmps127 (cG aa) ?_;refine ag ?_;refine VS.jZ (λw=>aY Tryz.prog w 159) (λ_=>aa) (λ_=>aa) (λ_=>ax.refl _) (λw0 β k0 Rb en=> ?_);have hBw0:ax w w0:=Rb;have Ru:aQ w0 (β 1) 32 #[.string f.name,.string f.parent,.slice pB nB cB,.bool sT,.slice pT nT cT,.bool tT,.slice yT mT dT,.bool sC,.slice pC nC cC,.bool tC,.slice yC mC dC,.int .i64 f.bk,.int .i64 f.fw,.bool sI,.slice pI nI cI,.bool tI,.slice yI mI dI,.bool sF,.slice pF nF cF,.bool tF,.slice yF mF dF,.int .i64 f.kp,.slice pc Nc cc,.slice pe Ne ce,.slice py Ny cy]:=(en.own 1 _ _ aa).cls;have bD:ay (cP kk) 4 27 w.heap.size w0 (.slice (some ⟨β 21,0,none⟩) 4 4) [f.On,f.cap,f.Oo,f.Oq]:=dQ (E:=cP kk) (vs:=[[.bool sT,.slice pT nT cT,.bool tT,.slice yT mT dT],[.bool sC,.slice pC nC cC,.bool tC,.slice yC mC dC],[.bool sI,.slice pI nI cI,.bool tI,.slice yI mI dI],[.bool sF,.slice pF nF cF,.bool tF,.slice yF mF dF]]) (spare:=[]) (en.own 21 _ _ aa) (.cons (h2.kp (Kp.of (U:=UU) Rb)) (.cons (h3.kp (Kp.of (U:=UU) Rb)) (.cons (h4.kp (Kp.of (U:=UU) Rb)) (.cons (h5.kp (Kp.of (U:=UU) Rb)) .nil)))) aa (aP _) cW aa (λ_ _ h=>h);refine⟨[(1,.val (.pointer (some ⟨β 1,0,none⟩))),(3,.val (.slice (some ⟨β 21,0,none⟩) 4 4)),(4,.val (.int .i64 ((0:Nat):Int)))],⟨⟨_,_,aa,aa,aa⟩,⟨_,_,aa,aa,aa⟩,⟨_,_,aa,aa,aa⟩,aj⟩,?_⟩;generalize β 1=g1 at Ru ⊢;obtain⟨v,hvv⟩:∃ v,v=Value.slice (some ⟨β 21,0,none⟩) 4 4:=⟨_,aa⟩;rw[<-hvv] at bD ⊢;clear hvv en;obtain⟨es,hes⟩:∃ es,es=[f.On,f.cap,f.Oo,f.Oq]:=⟨_,aa⟩;rw[<-hes] at bD;have gN:4<=es.length:=by rw[hes];exact aP _
 have Dm:es.length<=4:=by rw[hes];exact aP _
 refine VS.fL (J:=λm L W=>∃ (i:Nat) (v:Value) (es:List (Rw)),i<=nB/\m=nB-i/\L=[(1,.pointer (some ⟨g1,0,none⟩)),(3,v),(4,.int .i64 (i:Int))]/\ax w W/\aQ W g1 32 #[.string f.name,.string f.parent,.slice pB nB cB,.bool sT,.slice pT nT cT,.bool tT,.slice yT mT dT,.bool sC,.slice pC nC cC,.bool tC,.slice yC mC dC,.int .i64 f.bk,.int .i64 f.fw,.bool sI,.slice pI nI cI,.bool tI,.slice yI mI dI,.bool sF,.slice pF nF cF,.bool tF,.slice yF mF dF,.int .i64 f.kp,.slice pc Nc cc,.slice pe Ne ce,.slice py Ny cy]/\ay (cP kk) 4 27 w.heap.size W v es/\es=[f.On,f.cap,f.Oo,f.Oq]++((f.Fa).take i).flatMap tM/\4<=es.length/\es.length<=4+2*i)
  (λW=>aY Tryz.prog W 159) (λ_=>rfl) (λ_=>rfl) (λ_=>ax.refl _) nB (λw' β k' o en=>⟨[(1,.pointer (some ⟨g1,0,none⟩)),(3,v),(4,.int .i64 ((0:Nat):Int))],⟨⟨_,_,rfl,rfl,rfl⟩,⟨_,_,rfl,rfl,rfl⟩,⟨_,_,rfl,rfl,rfl⟩,aj⟩,0,v,es,ae,rfl,rfl,hBw0.aG o,Ru.aA o,bD.aA (cP.el kk) o,by rw[iD,hes];rfl,gN,ae⟩) ?_
 rintro m L wA ⟨i,v,es,hi,rfl,rfl,hBwA,Ko,bD,hes,gN,Dm⟩;refine ag ?_;refine VO.read aa [.slice pB nB cB] aa (aX (Ko.cell (j:=2) aa)) (wV aa ?_);refine ag ?_;by_cases hlt:i<nB
 ·obtain⟨x,hx⟩:∃ x,(f.Fa)[i]? =some x:=⟨_,aH (by rw[<-hnB];exact hlt)⟩;obtain⟨b,off,Bs,rfl,hc,ik⟩:=h1.at hx;obtain⟨s1,p1,n1,c1,t1,y1,m1,d1,s2,p2,n2,c2,t2,y2,m2,d2,rfl,qi,he2⟩:=ik
  obtain⟨b0,c0,vs,sp,rfl,kP,cZ,dS,eO,hle,fc,gR⟩:∃ b0 c0 vs sp,v=.slice (some ⟨b0,0,none⟩) es.length c0/\w.heap.size<=b0/\aQ wA b0 27 (vs.flatten++sp).toArray/\cw (cP kk) wA es vs/\sp.all aO=true/\es.length<=c0/\c0<=9223372036854775807/\(vs.flatten++sp).length=c0*4:=by
   rcases bD with ⟨_,dZ⟩|⟨b0,c0,vs,sp,h1,h2,h3,h4,h5,h6,h7,h8⟩
   ·rw[dZ] at gN;simp at gN
   ·exact⟨b0,c0,vs,sp,h1,h2,h3,h4,h5,h6,h7,h8⟩
  have fm:g1≠b0:=λh=>by rw[h] at Ko;exact absurd (bL Ko cZ) cW
  refine VS.bB aa (aU (aW.2 hlt)) ?_;refine VS.cK dp (λt=>Nat.beq t 23) table (λ_ _ _=>trivial) (λbI nA k1 ic qF=> ?_);have aB:ax wA bI:=ic;have qg:=hBwA.size;have ig:=aB.size
  have eh:dv dp 159 [b0] [(27,vs.flatten.map .val++sp.map .val)] bI:=by
   refine⟨aa,cf,λj g' c' hj hc=> ?_,λc' hc=> ?_,λc' hc k hk=> ?_⟩
   ·match j,hj,hc with
    | 0,hj,hc=>cases hj;cases hc;rw[<-aF,az];exact cZ.aA aB
    | j+1,hj,_=>simp at hj
   ·cases ak.1 hc;exact⟨aa,by rw[<-aF];exact aL (by rw[dK,(dS.ok (cP.el kk)).1,eO];rfl)⟩
   ·cases ak.1 hc;rw[<-aF,ah] at hk;cases hk
  have sA:fO (cP kk) 4 bI es.length c0 vs (sp.map .val) es:=⟨aa,dS.kp (cP.el kk) (Kp.of (U:=UU) aB),aL eO,ah _,hle,fc,by rw[<-aF,aM];exact gR⟩;refine⟨[b0],[(27,vs.flatten.map .val++sp.map .val)],eh,[(1,.val (.pointer (some ⟨g1,0,none⟩))),(3,.row 318 0 es.length c0),(4,.val (.int .i64 (i:Int)))],⟨⟨_,aa,aa,λi hi=>(by cases hi)⟩,⟨_,aa,aa,λi hi=>by rw[(by simpa [AV.ids] using hi:i=318)];exact⟨(by show 318<=318;omega),(by show 318<2*159+1;omega)⟩⟩,⟨_,aa,aa,λi hi=>(by cases hi)⟩,aj⟩,?_⟩;have eI:ax w bI:=hBwA.aG aB
  have gA:∀ {b off:Nat} {cs:List Value},(∀ (j:Nat) (u:Value),cs[j]? =some u->w.cell? ((⟨b,off,none⟩:Addr).add j)=some u)->∀ (j:Nat) (u:Value),cs[j]? =some u->Cx.At (jK Tryz.prog bI 159 [b0] eh.nodup eh.ad) ((⟨b,off,none⟩:Addr).add j) u:=λh j u hj=>cD (λhm=>by
   have:=gP w _ (h j u hj);omega) (eI.cell (h j u hj))
  refine aq ?_;refine VO.bJ aa [.slice (some ⟨b,off,none⟩) nB cB] aa (λj u hj=>cD (by rw[Addr.add_mid];exact fm) (aX ((Ko.aA aB).cell (j:=2) aa) j u hj)) (wV aa ?_);refine aq ?_;refine VO.cond aa fb ?_;refine wV aa ?_;refine aq ?_;refine VO.bJ aa [.bool s1,.slice p1 n1 c1,.bool t1,.slice y1 m1 d1] aa (gA (bf hc 0 _ ⟨_,aa⟩)) (wV aa ?_);refine aq ?_;refine VO.bJ aa [.slice (some ⟨b,off,none⟩) nB cB] aa (λj u hj=>cD (by rw[Addr.add_mid];exact fm) (aX ((Ko.aA aB).cell (j:=2) aa) j u hj)) (wV aa ?_);refine aq ?_;refine VO.cond aa fb ?_;refine wV aa ?_;refine aq ?_;refine VO.bJ aa [.bool s2,.slice p2 n2 c2,.bool t2,.slice y2 m2 d2] aa (gA (bf hc 4 _ ⟨_,aa⟩)) (wV aa ?_);refine aq ?_;have hcs:cw (cP kk) bI [x.1,x.2] [[.bool s1,.slice p1 n1 c1,.bool t1,.slice y1 m1 d1],[.bool s2,.slice p2 n2 c2,.bool t2,.slice y2 m2 d2]]:=.cons (qi.kp (Kp.of (U:=UU) eI)) (.cons (he2.kp (Kp.of (U:=UU) eI)) .nil);refine VO.wR (cM _ _) (cP.el kk) (t:=105) (e:=27) (s:=42) (i:=318) (n:=es.length) (c:=c0) (kn:=2) (css:=[[.bool s1,.slice p1 n1 c1,.bool t1,.slice y1 m1 d1],[.bool s2,.slice p2 n2 c2,.bool t2,.slice y2 m2 d2]]) (zs:=[x.1,x.2]) (vs:=vs) (sp:=sp.map .val) (es:=es) aa aa aa aa aa aa aa aa (cG aa) aa (.inl aa) aa (sA.kp (cP.el kk) (show aK dp bI _ from dA)) aa (hcs.kp (cP.el kk) (show aK dp bI _ from dA)) aa ae ae (λiA cap mQ ρ vC qE fo oc=>wV aa ?_);refine aq ?_;refine VS.eK aa (nB-(i+1)) ae (λw' bM k' o' kc=> ?_);have qC:ax w w':=dP.aA eI o'.1 (λx hx=>by rw[ak.1 hx];exact kP);have hst:fp (cP kk) 4 27 43 (.row 43 0 (es.length+2) cap) [(43,(27,_))] iA (es++[x.1,x.2]):=.inr ⟨_,cap,_,mQ,aa,aa,oc⟩;have eW:=hst.told (cP.el kk) kc (λx hx=>by cases ak.1 hx;rfl) (show aK dp iA w' from k') w.heap.size (λh=>(cH (show fF 159 [b0] bI 43 (bM 43) from h)).elim (λq=>aV qg (aV ig q)) (λq=>by rw[ak.1 q];exact kP));refine⟨[(1,.pointer (some ⟨g1,0,none⟩)),(3,.slice (some ⟨bM 43,0,none⟩) (es.length+2) cap),(4,.int .i64 ((i+1:Nat):Int))],⟨⟨_,_,aa,aa,aa⟩,⟨_,_,aa,aa,aa⟩,⟨_,_,aa,au (λz=>Value.int .i64 z) (bl (i:=i) ae),aa⟩,aj⟩,i+1,_,es++[x.1,x.2],ae,aa,aa,qC,(Ko.aA aB).but o'.1 (by simp[fm]),eW,by rw[eU hx,hes,gQ];rfl,by rw[bg];omega,by rw[bg];show es.length+2<=_;omega⟩
 refine VS.bC aa (aR (λh=>hlt (aW.1 h))) ?_;obtain rfl:nB=i:=ae;rw[cO (by rw[<-hnB];exact aP _)] at hes;refine ag ?_
 refine VS.fL (J:=λm L W=>∃ (i:Nat) (v:Value) (es:List (Rw)),i<=Nc/\m=Nc-i/\L=[(1,.pointer (some ⟨g1,0,none⟩)),(3,v),(5,.int .i64 (i:Int))]/\ax w W/\aQ W g1 32 #[.string f.name,.string f.parent,.slice pB nB cB,.bool sT,.slice pT nT cT,.bool tT,.slice yT mT dT,.bool sC,.slice pC nC cC,.bool tC,.slice yC mC dC,.int .i64 f.bk,.int .i64 f.fw,.bool sI,.slice pI nI cI,.bool tI,.slice yI mI dI,.bool sF,.slice pF nF cF,.bool tF,.slice yF mF dF,.int .i64 f.kp,.slice pc Nc cc,.slice pe Ne ce,.slice py Ny cy]/\ay (cP kk) 4 27 w.heap.size W v es/\es=([f.On,f.cap,f.Oo,f.Oq]++f.Fa.flatMap tM)++((f.cls).take i).flatMap AA/\4<=es.length/\es.length<=44+1*i)
  (λW=>aY Tryz.prog W 159) (λ_=>rfl) (λ_=>rfl) (λ_=>ax.refl _) Nc (λw' β k' o en=>⟨[(1,.pointer (some ⟨g1,0,none⟩)),(3,v),(5,.int .i64 ((0:Nat):Int))],⟨⟨_,_,rfl,rfl,rfl⟩,⟨_,_,rfl,rfl,rfl⟩,⟨_,_,rfl,rfl,rfl⟩,aj⟩,0,v,es,ae,rfl,rfl,hBwA.aG o,Ko.aA o,bD.aA (cP.el kk) o,by rw[iD,nc,eX];exact hes,gN,ae⟩) ?_
 rintro m L wC ⟨i,v,es,hi,rfl,rfl,Kq,wT,bD,hes,gN,Dm⟩;refine ag ?_;refine VO.read aa [.slice pc Nc cc] aa (aX (wT.cell (j:=22) aa)) (wV aa ?_);refine ag ?_;by_cases hlt:i<Nc
 ·obtain⟨x,hx⟩:∃ x,(f.cls)[i]? =some x:=⟨_,aH (by rw[<-hNc];exact hlt)⟩;obtain⟨b,off,Bs,rfl,hc,ik⟩:=h6.at hx;obtain⟨s1,p1,n1,c1,t1,y1,m1,d1,rfl,qi,-⟩:=ik
  obtain⟨b0,c0,vs,sp,rfl,kP,cZ,dS,eO,hle,fc,gR⟩:∃ b0 c0 vs sp,v=.slice (some ⟨b0,0,none⟩) es.length c0/\w.heap.size<=b0/\aQ wC b0 27 (vs.flatten++sp).toArray/\cw (cP kk) wC es vs/\sp.all aO=true/\es.length<=c0/\c0<=9223372036854775807/\(vs.flatten++sp).length=c0*4:=by
   rcases bD with ⟨_,dZ⟩|⟨b0,c0,vs,sp,h1,h2,h3,h4,h5,h6,h7,h8⟩
   ·rw[dZ] at gN;simp at gN
   ·exact⟨b0,c0,vs,sp,h1,h2,h3,h4,h5,h6,h7,h8⟩
  have fm:g1≠b0:=λh=>by rw[h] at wT;exact absurd (bL wT cZ) cW
  refine VS.bB aa (aU (aW.2 hlt)) ?_;refine VS.cK dp (λt=>Nat.beq t 23) table (λ_ _ _=>trivial) (λbI nA k1 ic qF=> ?_);have aB:ax wC bI:=ic;have qg:=Kq.size;have ig:=aB.size
  have eh:dv dp 159 [b0] [(27,vs.flatten.map .val++sp.map .val)] bI:=by
   refine⟨aa,cf,λj g' c' hj hc=> ?_,λc' hc=> ?_,λc' hc k hk=> ?_⟩
   ·match j,hj,hc with
    | 0,hj,hc=>cases hj;cases hc;rw[<-aF,az];exact cZ.aA aB
    | j+1,hj,_=>simp at hj
   ·cases ak.1 hc;exact⟨aa,by rw[<-aF];exact aL (by rw[dK,(dS.ok (cP.el kk)).1,eO];rfl)⟩
   ·cases ak.1 hc;rw[<-aF,ah] at hk;cases hk
  have sA:fO (cP kk) 4 bI es.length c0 vs (sp.map .val) es:=⟨aa,dS.kp (cP.el kk) (Kp.of (U:=UU) aB),aL eO,ah _,hle,fc,by rw[<-aF,aM];exact gR⟩;refine⟨[b0],[(27,vs.flatten.map .val++sp.map .val)],eh,[(1,.val (.pointer (some ⟨g1,0,none⟩))),(3,.row 318 0 es.length c0),(5,.val (.int .i64 (i:Int)))],⟨⟨_,aa,aa,λi hi=>(by cases hi)⟩,⟨_,aa,aa,λi hi=>by rw[(by simpa [AV.ids] using hi:i=318)];exact⟨(by show 318<=318;omega),(by show 318<2*159+1;omega)⟩⟩,⟨_,aa,aa,λi hi=>(by cases hi)⟩,aj⟩,?_⟩;have eI:ax w bI:=Kq.aG aB
  have gA:∀ {b off:Nat} {cs:List Value},(∀ (j:Nat) (u:Value),cs[j]? =some u->w.cell? ((⟨b,off,none⟩:Addr).add j)=some u)->∀ (j:Nat) (u:Value),cs[j]? =some u->Cx.At (jK Tryz.prog bI 159 [b0] eh.nodup eh.ad) ((⟨b,off,none⟩:Addr).add j) u:=λh j u hj=>cD (λhm=>by
   have:=gP w _ (h j u hj);omega) (eI.cell (h j u hj))
  refine aq ?_;refine VO.bJ aa [.slice (some ⟨b,off,none⟩) Nc cc] aa (λj u hj=>cD (by rw[Addr.add_mid];exact fm) (aX ((wT.aA aB).cell (j:=22) aa) j u hj)) (wV aa ?_);refine aq ?_;refine VO.cond aa fb ?_;refine wV aa ?_;refine aq ?_;refine VO.bJ aa [.bool s1,.slice p1 n1 c1,.bool t1,.slice y1 m1 d1] aa (gA (bf hc 2 _ ⟨_,aa⟩)) (wV aa ?_);refine aq ?_;have hcs:cw (cP kk) bI [x.2.2] [[.bool s1,.slice p1 n1 c1,.bool t1,.slice y1 m1 d1]]:=.cons (qi.kp (Kp.of (U:=UU) eI)) .nil;refine VO.wR (cM _ _) (cP.el kk) (t:=105) (e:=27) (s:=58) (i:=318) (n:=es.length) (c:=c0) (kn:=1) (css:=[[.bool s1,.slice p1 n1 c1,.bool t1,.slice y1 m1 d1]]) (zs:=[x.2.2]) (vs:=vs) (sp:=sp.map .val) (es:=es) aa aa aa aa aa aa aa aa (cG aa) aa (.inl aa) aa (sA.kp (cP.el kk) (show aK dp bI _ from dA)) aa (hcs.kp (cP.el kk) (show aK dp bI _ from dA)) aa ae ae (λiA cap mQ ρ vC qE fo oc=>wV aa ?_);refine aq ?_;refine VS.eK aa (Nc-(i+1)) ae (λw' bM k' o' kc=> ?_);have qC:ax w w':=dP.aA eI o'.1 (λx hx=>by rw[ak.1 hx];exact kP);have hst:fp (cP kk) 4 27 59 (.row 59 0 (es.length+1) cap) [(59,(27,_))] iA (es++[x.2.2]):=.inr ⟨_,cap,_,mQ,aa,aa,oc⟩;have eW:=hst.told (cP.el kk) kc (λx hx=>by cases ak.1 hx;rfl) (show aK dp iA w' from k') w.heap.size (λh=>(cH (show fF 159 [b0] bI 59 (bM 59) from h)).elim (λq=>aV qg (aV ig q)) (λq=>by rw[ak.1 q];exact kP));refine⟨[(1,.pointer (some ⟨g1,0,none⟩)),(3,.slice (some ⟨bM 59,0,none⟩) (es.length+1) cap),(5,.int .i64 ((i+1:Nat):Int))],⟨⟨_,_,aa,aa,aa⟩,⟨_,_,aa,aa,aa⟩,⟨_,_,aa,au (λz=>Value.int .i64 z) (bl (i:=i) ae),aa⟩,aj⟩,i+1,_,es++[x.2.2],ae,aa,aa,qC,(wT.aA aB).but o'.1 (by simp[fm]),eW,by rw[eU hx,hes,gQ];rfl,by rw[bg];omega,by rw[bg];show es.length+1<=_;omega⟩
 refine VS.bC aa (aR (λh=>hlt (aW.1 h))) ?_;obtain rfl:Nc=i:=ae;rw[cO (by rw[<-hNc];exact aP _)] at hes;refine ag ?_
 refine VS.fL (J:=λm L W=>∃ (k:Nat) (v:Value) (es:List Rw),k<=Ny/\m=Ny-k/\L=[(1,.pointer (some ⟨g1,0,none⟩)),(3,v),(6,.int .i64 (k:Int))]/\ax w W/\aQ W g1 32 #[.string f.name,.string f.parent,.slice pB nB cB,.bool sT,.slice pT nT cT,.bool tT,.slice yT mT dT,.bool sC,.slice pC nC cC,.bool tC,.slice yC mC dC,.int .i64 f.bk,.int .i64 f.fw,.bool sI,.slice pI nI cI,.bool tI,.slice yI mI dI,.bool sF,.slice pF nF cF,.bool tF,.slice yF mF dF,.int .i64 f.kp,.slice pc Nc cc,.slice pe Ne ce,.slice py Ny cy]/\ay (cP kk) 4 27 w.heap.size W v es/\es=([f.On,f.cap,f.Oo,f.Oq]++f.Fa.flatMap tM++f.cls.flatMap AA)++(f.jn.take k).flatMap lh/\4<=es.length/\es.length<=114+240*k)
  (λW=>aY Tryz.prog W 159) (λ_=>rfl) (λ_=>rfl) (λ_=>ax.refl _) Ny (λw' β k' o en=>⟨[(1,.pointer (some ⟨g1,0,none⟩)),(3,v),(6,.int .i64 ((0:Nat):Int))],⟨⟨_,_,rfl,rfl,rfl⟩,⟨_,_,rfl,rfl,rfl⟩,⟨_,_,rfl,rfl,rfl⟩,aj⟩,0,v,es,ae,rfl,rfl,Kq.aG o,wT.aA o,bD.aA (cP.el kk) o,by rw[iD,nc,eX];exact hes,gN,ae⟩) ?_
 rintro m L wY ⟨k,v,es,hk,rfl,rfl,Kr,Ks,bD,hes,gN,Dm⟩;refine ag ?_;refine VO.read aa [.slice py Ny cy] aa (aX (Ks.cell (j:=24) aa)) (wV aa ?_);refine ag ?_;by_cases hlt:k<Ny
 rotate_left
 ·refine VS.bC aa (aR (λh=>hlt (aW.1 h))) ?_;have ET:f.jn.length<=k:=ae;rw[cO ET] at hes;refine ag ?_;refine ck ?_;intro wz kz bz;refine⟨v,aa,?_,Kr.aG bz⟩;have:=bD.aA (cP.el kk) bz;rw[hes] at this;exact this
 obtain⟨y,hy⟩:∃ y,f.jn[k]? =some y:=⟨_,aH ae⟩;obtain⟨ha1,ha2,ha3,ha4,ha5⟩:=hs.each y (dc hy);obtain⟨Bx,Bz,csy,rfl,vE,⟨yh,yb,yd,ys,yq,rfl,y1,y2,y3,y4,y5⟩⟩:=h8.at hy;obtain⟨ph,nh,ch,rfl,hnh⟩:∃ p n c,yh=.slice p n c/\n=y.holds.length:=by obtain⟨p,c,e⟩:=y1.sl;exact⟨_,_,_,e,aa⟩
 obtain⟨pb,nb,cb,rfl,Lb⟩:∃ p n c,yb=.slice p n c/\n=y.bn.length:=by obtain⟨p,c,e⟩:=y2.sl;exact⟨_,_,_,e,aa⟩
 obtain⟨pd,nd,cd,rfl,hnd⟩:∃ p n c,yd=.slice p n c/\n=y.dE.length:=by obtain⟨p,c,e⟩:=y3.sl;exact⟨_,_,_,e,aa⟩
 obtain⟨ps,ns,cs,rfl,hns⟩:∃ p n c,ys=.slice p n c/\n=y.di.length:=by obtain⟨p,c,e⟩:=y4.sl;exact⟨_,_,_,e,aa⟩
 obtain⟨pq,nq,cq,rfl,hnq⟩:∃ p n c,yq=.slice p n c/\n=y.ft.length:=by obtain⟨p,c,e⟩:=y5.sl;exact⟨_,_,_,e,aa⟩
 refine VS.bB aa (aU (aW.2 hlt)) ?_;refine ag ?_;refine VO.read aa [.slice (some ⟨Bx,Bz,none⟩) Ny cy] aa (aX (Ks.cell (j:=24) aa)) (wV aa ?_);refine ag ?_;refine VO.cond aa fb ?_;refine wV aa ?_;refine ag ?_;refine VO.read aa [.int .i64 y.num,.slice ph nh ch,.slice pb nb cb,.slice pd nd cd,.slice ps ns cs,.slice pq nq cq] aa (λj u hj=>Kr.cell (bf vE 0 _ ⟨[],aa⟩ j u hj)) (wV aa ?_)
 (repeat (first|refine wN ?_|refine wP aa ?_|refine wO aa aa ?_))
 refine VS.jZ (λw=>aY Tryz.prog w 159) (λ_=>aa) (λ_=>aa) (λ_=>ax.refl _) (λw1 β k1 ic en=> ?_);have hBw1:ax w w1:=Kr.aG ic;have hfw1:=Ks.aA ic;have Rv:aQ w1 (β 7) 99 #[.int .i64 y.num,.slice ph nh ch,.slice pb nb cb,.slice pd nd cd,.slice ps ns cs,.slice pq nq cq]:=(en.own 7 _ _ aa).cls;replace bD:=bD.aA (cP.el kk) ic;refine⟨[(1,.val (.pointer (some ⟨g1,0,none⟩))),(6,.val (.int .i64 (k:Int))),(7,.val (.pointer (some ⟨β 7,0,none⟩))),(3,.val v)],⟨⟨_,_,aa,aa,aa⟩,⟨_,_,aa,aa,aa⟩,⟨_,_,aa,aa,aa⟩,⟨_,_,aa,aa,aa⟩,aj⟩,?_⟩;generalize β 7=g7 at Rv ⊢;clear en;obtain⟨E0,hE0⟩:∃ E0,E0=es:=⟨_,aa⟩;have hbE:E0.length<=114+240*k:=by rw[hE0];exact Dm
 have hesE:E0=([f.On,f.cap,f.Oo,f.Oq]++f.Fa.flatMap tM++f.cls.flatMap AA)++(f.jn.take k).flatMap lh:=by rw[hE0];exact hes
 replace hes:es=E0:=hE0.symm;replace Dm:es.length<=E0.length:=by rw[hes];exact aP _
 refine ag ?_
 refine VS.fL (J:=λm L W=>∃ (i:Nat) (v:Value) (es:List (Rw)),i<=nh/\m=nh-i/\L=[(1,.pointer (some ⟨g1,0,none⟩)),(6,.int .i64 (k:Int)),(7,.pointer (some ⟨g7,0,none⟩)),(3,v),(8,.int .i64 (i:Int))]/\ax w W/\aQ W g1 32 #[.string f.name,.string f.parent,.slice pB nB cB,.bool sT,.slice pT nT cT,.bool tT,.slice yT mT dT,.bool sC,.slice pC nC cC,.bool tC,.slice yC mC dC,.int .i64 f.bk,.int .i64 f.fw,.bool sI,.slice pI nI cI,.bool tI,.slice yI mI dI,.bool sF,.slice pF nF cF,.bool tF,.slice yF mF dF,.int .i64 f.kp,.slice pc Nc cc,.slice pe Ne ce,.slice (some ⟨Bx,Bz,none⟩) Ny cy]/\aQ W g7 99 #[.int .i64 y.num,.slice ph nh ch,.slice pb nb cb,.slice pd nd cd,.slice ps ns cs,.slice pq nq cq]/\ay (cP kk) 4 27 w.heap.size W v es/\es=E0++((y.holds).take i).flatMap ke/\4<=es.length/\es.length<=E0.length+1*i)
  (λW=>aY Tryz.prog W 159) (λ_=>rfl) (λ_=>rfl) (λ_=>ax.refl _) nh (λw' β k' o en=>⟨[(1,.pointer (some ⟨g1,0,none⟩)),(6,.int .i64 (k:Int)),(7,.pointer (some ⟨g7,0,none⟩)),(3,v),(8,.int .i64 ((0:Nat):Int))],⟨⟨_,_,rfl,rfl,rfl⟩,⟨_,_,rfl,rfl,rfl⟩,⟨_,_,rfl,rfl,rfl⟩,⟨_,_,rfl,rfl,rfl⟩,⟨_,_,rfl,rfl,rfl⟩,aj⟩,0,v,es,ae,rfl,rfl,hBw1.aG o,hfw1.aA o,Rv.aA o,bD.aA (cP.el kk) o,by rw[iD,nc,eX];exact hes,gN,ae⟩) ?_
 rintro m L wH ⟨i,v,es,hi,rfl,rfl,Kt,EE,vi,bD,hes,gN,Dm⟩;refine ag ?_;refine VO.read aa [.slice ph nh ch] aa (aX (vi.cell (j:=1) aa)) (wV aa ?_);refine ag ?_;by_cases hlt:i<nh
 ·obtain⟨x,hx⟩:∃ x,(y.holds)[i]? =some x:=⟨_,aH (by rw[<-hnh];exact hlt)⟩;obtain⟨b,off,Bs,rfl,hc,ik⟩:=y1.at hx;obtain⟨s1,p1,n1,c1,t1,xU,m1,d1,rfl,qi⟩:=ik
  obtain⟨b0,c0,vs,sp,rfl,kP,cZ,dS,eO,hle,fc,gR⟩:∃ b0 c0 vs sp,v=.slice (some ⟨b0,0,none⟩) es.length c0/\w.heap.size<=b0/\aQ wH b0 27 (vs.flatten++sp).toArray/\cw (cP kk) wH es vs/\sp.all aO=true/\es.length<=c0/\c0<=9223372036854775807/\(vs.flatten++sp).length=c0*4:=by
   rcases bD with ⟨_,dZ⟩|⟨b0,c0,vs,sp,h1,h2,h3,h4,h5,h6,h7,h8⟩
   ·rw[dZ] at gN;simp at gN
   ·exact⟨b0,c0,vs,sp,h1,h2,h3,h4,h5,h6,h7,h8⟩
  have fm:g1≠b0:=λh=>by rw[h] at EE;exact absurd (bL EE cZ) cW
  have eL:g7≠b0:=λh=>by rw[h] at vi;exact absurd (bL vi cZ) cW
  refine VS.bB aa (aU (aW.2 hlt)) ?_;refine VS.cK dp (λt=>Nat.beq t 23) table (λ_ _ _=>trivial) (λbI nA k1 ic qF=> ?_);have aB:ax wH bI:=ic;have qg:=Kt.size;have ig:=aB.size
  have eh:dv dp 159 [b0] [(27,vs.flatten.map .val++sp.map .val)] bI:=by
   refine⟨aa,cf,λj g' c' hj hc=> ?_,λc' hc=> ?_,λc' hc k hk=> ?_⟩
   ·match j,hj,hc with
    | 0,hj,hc=>cases hj;cases hc;rw[<-aF,az];exact cZ.aA aB
    | j+1,hj,_=>simp at hj
   ·cases ak.1 hc;exact⟨aa,by rw[<-aF];exact aL (by rw[dK,(dS.ok (cP.el kk)).1,eO];rfl)⟩
   ·cases ak.1 hc;rw[<-aF,ah] at hk;cases hk
  have sA:fO (cP kk) 4 bI es.length c0 vs (sp.map .val) es:=⟨aa,dS.kp (cP.el kk) (Kp.of (U:=UU) aB),aL eO,ah _,hle,fc,by rw[<-aF,aM];exact gR⟩;refine⟨[b0],[(27,vs.flatten.map .val++sp.map .val)],eh,[(1,.val (.pointer (some ⟨g1,0,none⟩))),(6,.val (.int .i64 (k:Int))),(7,.val (.pointer (some ⟨g7,0,none⟩))),(3,.row 318 0 es.length c0),(8,.val (.int .i64 (i:Int)))],⟨⟨_,aa,aa,λi hi=>(by cases hi)⟩,⟨_,aa,aa,λi hi=>(by cases hi)⟩,⟨_,aa,aa,λi hi=>(by cases hi)⟩,⟨_,aa,aa,λi hi=>by rw[(by simpa [AV.ids] using hi:i=318)];exact⟨(by show 318<=318;omega),(by show 318<2*159+1;omega)⟩⟩,⟨_,aa,aa,λi hi=>(by cases hi)⟩,aj⟩,?_⟩;have eI:ax w bI:=Kt.aG aB
  have gA:∀ {b off:Nat} {cs:List Value},(∀ (j:Nat) (u:Value),cs[j]? =some u->w.cell? ((⟨b,off,none⟩:Addr).add j)=some u)->∀ (j:Nat) (u:Value),cs[j]? =some u->Cx.At (jK Tryz.prog bI 159 [b0] eh.nodup eh.ad) ((⟨b,off,none⟩:Addr).add j) u:=λh j u hj=>cD (λhm=>by
   have:=gP w _ (h j u hj);omega) (eI.cell (h j u hj))
  refine aq ?_;refine VO.bJ aa [.slice (some ⟨b,off,none⟩) nh ch] aa (λj u hj=>cD (by rw[Addr.add_mid];exact eL) (aX ((vi.aA aB).cell (j:=1) aa) j u hj)) (wV aa ?_);refine aq ?_;refine VO.cond aa fb ?_;refine wV aa ?_;refine aq ?_;refine VO.bJ aa [.bool s1,.slice p1 n1 c1,.bool t1,.slice xU m1 d1] aa (gA (bf hc 2 _ ⟨_,aa⟩)) (wV aa ?_);refine aq ?_;have hcs:cw (cP kk) bI [x.2.2] [[.bool s1,.slice p1 n1 c1,.bool t1,.slice xU m1 d1]]:=.cons (qi.kp (Kp.of (U:=UU) eI)) .nil;refine VO.wR (cM _ _) (cP.el kk) (t:=105) (e:=27) (s:=86) (i:=318) (n:=es.length) (c:=c0) (kn:=1) (css:=[[.bool s1,.slice p1 n1 c1,.bool t1,.slice xU m1 d1]]) (zs:=[x.2.2]) (vs:=vs) (sp:=sp.map .val) (es:=es) aa aa aa aa aa aa aa aa (cG aa) aa (.inl aa) aa (sA.kp (cP.el kk) (show aK dp bI _ from dA)) aa (hcs.kp (cP.el kk) (show aK dp bI _ from dA)) aa ae ae (λiA cap mQ ρ vC qE fo oc=>wV aa ?_);refine aq ?_;refine VS.eK aa (nh-(i+1)) ae (λw' bM k' o' kc=> ?_);have qC:ax w w':=dP.aA eI o'.1 (λx hx=>by rw[ak.1 hx];exact kP);have hst:fp (cP kk) 4 27 87 (.row 87 0 (es.length+1) cap) [(87,(27,_))] iA (es++[x.2.2]):=.inr ⟨_,cap,_,mQ,aa,aa,oc⟩;have eW:=hst.told (cP.el kk) kc (λx hx=>by cases ak.1 hx;rfl) (show aK dp iA w' from k') w.heap.size (λh=>(cH (show fF 159 [b0] bI 87 (bM 87) from h)).elim (λq=>aV qg (aV ig q)) (λq=>by rw[ak.1 q];exact kP));refine⟨[(1,.pointer (some ⟨g1,0,none⟩)),(6,.int .i64 (k:Int)),(7,.pointer (some ⟨g7,0,none⟩)),(3,.slice (some ⟨bM 87,0,none⟩) (es.length+1) cap),(8,.int .i64 ((i+1:Nat):Int))],⟨⟨_,_,aa,aa,aa⟩,⟨_,_,aa,aa,aa⟩,⟨_,_,aa,aa,aa⟩,⟨_,_,aa,aa,aa⟩,⟨_,_,aa,au (λz=>Value.int .i64 z) (bl (i:=i) ae),aa⟩,aj⟩,i+1,_,es++[x.2.2],ae,aa,aa,qC,(EE.aA aB).but o'.1 (by simp[fm]),(vi.aA aB).but o'.1 (by simp[eL]),eW,by rw[eU hx,hes,gQ];rfl,by rw[bg];omega,by rw[bg];show es.length+1<=_;omega⟩
 refine VS.bC aa (aR (λh=>hlt (aW.1 h))) ?_;obtain rfl:nh=i:=ae;rw[cO (by rw[<-hnh];exact aP _)] at hes;refine ag ?_
 refine VS.fL (J:=λm L W=>∃ (i:Nat) (v:Value) (es:List (Rw)),i<=nb/\m=nb-i/\L=[(1,.pointer (some ⟨g1,0,none⟩)),(6,.int .i64 (k:Int)),(7,.pointer (some ⟨g7,0,none⟩)),(3,v),(9,.int .i64 (i:Int))]/\ax w W/\aQ W g1 32 #[.string f.name,.string f.parent,.slice pB nB cB,.bool sT,.slice pT nT cT,.bool tT,.slice yT mT dT,.bool sC,.slice pC nC cC,.bool tC,.slice yC mC dC,.int .i64 f.bk,.int .i64 f.fw,.bool sI,.slice pI nI cI,.bool tI,.slice yI mI dI,.bool sF,.slice pF nF cF,.bool tF,.slice yF mF dF,.int .i64 f.kp,.slice pc Nc cc,.slice pe Ne ce,.slice (some ⟨Bx,Bz,none⟩) Ny cy]/\aQ W g7 99 #[.int .i64 y.num,.slice ph nh ch,.slice pb nb cb,.slice pd nd cd,.slice ps ns cs,.slice pq nq cq]/\ay (cP kk) 4 27 w.heap.size W v es/\es=(E0++y.holds.flatMap ke)++((y.bn).take i).flatMap ke/\4<=es.length/\es.length<=(E0.length+40)+1*i)
  (λW=>aY Tryz.prog W 159) (λ_=>rfl) (λ_=>rfl) (λ_=>ax.refl _) nb (λw' β k' o en=>⟨[(1,.pointer (some ⟨g1,0,none⟩)),(6,.int .i64 (k:Int)),(7,.pointer (some ⟨g7,0,none⟩)),(3,v),(9,.int .i64 ((0:Nat):Int))],⟨⟨_,_,rfl,rfl,rfl⟩,⟨_,_,rfl,rfl,rfl⟩,⟨_,_,rfl,rfl,rfl⟩,⟨_,_,rfl,rfl,rfl⟩,⟨_,_,rfl,rfl,rfl⟩,aj⟩,0,v,es,ae,rfl,rfl,Kt.aG o,EE.aA o,vi.aA o,bD.aA (cP.el kk) o,by rw[iD,nc,eX];exact hes,gN,ae⟩) ?_
 rintro m L wK ⟨i,v,es,hi,rfl,rfl,Ku,EF,vm,bD,hes,gN,Dm⟩;refine ag ?_;refine VO.read aa [.slice pb nb cb] aa (aX (vm.cell (j:=2) aa)) (wV aa ?_);refine ag ?_;by_cases hlt:i<nb
 ·obtain⟨x,hx⟩:∃ x,(y.bn)[i]? =some x:=⟨_,aH (by rw[<-Lb];exact hlt)⟩;obtain⟨b,off,Bs,rfl,hc,ik⟩:=y2.at hx;obtain⟨s1,p1,n1,c1,t1,xU,m1,d1,rfl,qi⟩:=ik
  obtain⟨b0,c0,vs,sp,rfl,kP,cZ,dS,eO,hle,fc,gR⟩:∃ b0 c0 vs sp,v=.slice (some ⟨b0,0,none⟩) es.length c0/\w.heap.size<=b0/\aQ wK b0 27 (vs.flatten++sp).toArray/\cw (cP kk) wK es vs/\sp.all aO=true/\es.length<=c0/\c0<=9223372036854775807/\(vs.flatten++sp).length=c0*4:=by
   rcases bD with ⟨_,dZ⟩|⟨b0,c0,vs,sp,h1,h2,h3,h4,h5,h6,h7,h8⟩
   ·rw[dZ] at gN;simp at gN
   ·exact⟨b0,c0,vs,sp,h1,h2,h3,h4,h5,h6,h7,h8⟩
  have fm:g1≠b0:=λh=>by rw[h] at EF;exact absurd (bL EF cZ) cW
  have eL:g7≠b0:=λh=>by rw[h] at vm;exact absurd (bL vm cZ) cW
  refine VS.bB aa (aU (aW.2 hlt)) ?_;refine VS.cK dp (λt=>Nat.beq t 23) table (λ_ _ _=>trivial) (λbI nA k1 ic qF=> ?_);have aB:ax wK bI:=ic;have qg:=Ku.size;have ig:=aB.size
  have eh:dv dp 159 [b0] [(27,vs.flatten.map .val++sp.map .val)] bI:=by
   refine⟨aa,cf,λj g' c' hj hc=> ?_,λc' hc=> ?_,λc' hc k hk=> ?_⟩
   ·match j,hj,hc with
    | 0,hj,hc=>cases hj;cases hc;rw[<-aF,az];exact cZ.aA aB
    | j+1,hj,_=>simp at hj
   ·cases ak.1 hc;exact⟨aa,by rw[<-aF];exact aL (by rw[dK,(dS.ok (cP.el kk)).1,eO];rfl)⟩
   ·cases ak.1 hc;rw[<-aF,ah] at hk;cases hk
  have sA:fO (cP kk) 4 bI es.length c0 vs (sp.map .val) es:=⟨aa,dS.kp (cP.el kk) (Kp.of (U:=UU) aB),aL eO,ah _,hle,fc,by rw[<-aF,aM];exact gR⟩;refine⟨[b0],[(27,vs.flatten.map .val++sp.map .val)],eh,[(1,.val (.pointer (some ⟨g1,0,none⟩))),(6,.val (.int .i64 (k:Int))),(7,.val (.pointer (some ⟨g7,0,none⟩))),(3,.row 318 0 es.length c0),(9,.val (.int .i64 (i:Int)))],⟨⟨_,aa,aa,λi hi=>(by cases hi)⟩,⟨_,aa,aa,λi hi=>(by cases hi)⟩,⟨_,aa,aa,λi hi=>(by cases hi)⟩,⟨_,aa,aa,λi hi=>by rw[(by simpa [AV.ids] using hi:i=318)];exact⟨(by show 318<=318;omega),(by show 318<2*159+1;omega)⟩⟩,⟨_,aa,aa,λi hi=>(by cases hi)⟩,aj⟩,?_⟩;have eI:ax w bI:=Ku.aG aB
  have gA:∀ {b off:Nat} {cs:List Value},(∀ (j:Nat) (u:Value),cs[j]? =some u->w.cell? ((⟨b,off,none⟩:Addr).add j)=some u)->∀ (j:Nat) (u:Value),cs[j]? =some u->Cx.At (jK Tryz.prog bI 159 [b0] eh.nodup eh.ad) ((⟨b,off,none⟩:Addr).add j) u:=λh j u hj=>cD (λhm=>by
   have:=gP w _ (h j u hj);omega) (eI.cell (h j u hj))
  refine aq ?_;refine VO.bJ aa [.slice (some ⟨b,off,none⟩) nb cb] aa (λj u hj=>cD (by rw[Addr.add_mid];exact eL) (aX ((vm.aA aB).cell (j:=2) aa) j u hj)) (wV aa ?_);refine aq ?_;refine VO.cond aa fb ?_;refine wV aa ?_;refine aq ?_;refine VO.bJ aa [.bool s1,.slice p1 n1 c1,.bool t1,.slice xU m1 d1] aa (gA (bf hc 2 _ ⟨_,aa⟩)) (wV aa ?_);refine aq ?_;have hcs:cw (cP kk) bI [x.2.2] [[.bool s1,.slice p1 n1 c1,.bool t1,.slice xU m1 d1]]:=.cons (qi.kp (Kp.of (U:=UU) eI)) .nil;refine VO.wR (cM _ _) (cP.el kk) (t:=105) (e:=27) (s:=102) (i:=318) (n:=es.length) (c:=c0) (kn:=1) (css:=[[.bool s1,.slice p1 n1 c1,.bool t1,.slice xU m1 d1]]) (zs:=[x.2.2]) (vs:=vs) (sp:=sp.map .val) (es:=es) aa aa aa aa aa aa aa aa (cG aa) aa (.inl aa) aa (sA.kp (cP.el kk) (show aK dp bI _ from dA)) aa (hcs.kp (cP.el kk) (show aK dp bI _ from dA)) aa ae ae (λiA cap mQ ρ vC qE fo oc=>wV aa ?_);refine aq ?_;refine VS.eK aa (nb-(i+1)) ae (λw' bM k' o' kc=> ?_);have qC:ax w w':=dP.aA eI o'.1 (λx hx=>by rw[ak.1 hx];exact kP);have hst:fp (cP kk) 4 27 103 (.row 103 0 (es.length+1) cap) [(103,(27,_))] iA (es++[x.2.2]):=.inr ⟨_,cap,_,mQ,aa,aa,oc⟩;have eW:=hst.told (cP.el kk) kc (λx hx=>by cases ak.1 hx;rfl) (show aK dp iA w' from k') w.heap.size (λh=>(cH (show fF 159 [b0] bI 103 (bM 103) from h)).elim (λq=>aV qg (aV ig q)) (λq=>by rw[ak.1 q];exact kP));refine⟨[(1,.pointer (some ⟨g1,0,none⟩)),(6,.int .i64 (k:Int)),(7,.pointer (some ⟨g7,0,none⟩)),(3,.slice (some ⟨bM 103,0,none⟩) (es.length+1) cap),(9,.int .i64 ((i+1:Nat):Int))],⟨⟨_,_,aa,aa,aa⟩,⟨_,_,aa,aa,aa⟩,⟨_,_,aa,aa,aa⟩,⟨_,_,aa,aa,aa⟩,⟨_,_,aa,au (λz=>Value.int .i64 z) (bl (i:=i) ae),aa⟩,aj⟩,i+1,_,es++[x.2.2],ae,aa,aa,qC,(EF.aA aB).but o'.1 (by simp[fm]),(vm.aA aB).but o'.1 (by simp[eL]),eW,by rw[eU hx,hes,gQ];rfl,by rw[bg];omega,by rw[bg];show es.length+1<=_;omega⟩
 refine VS.bC aa (aR (λh=>hlt (aW.1 h))) ?_;obtain rfl:nb=i:=ae;rw[cO (by rw[<-Lb];exact aP _)] at hes;refine ag ?_
 refine VS.fL (J:=λm L W=>∃ (i:Nat) (v:Value) (es:List (Rw)),i<=nd/\m=nd-i/\L=[(1,.pointer (some ⟨g1,0,none⟩)),(6,.int .i64 (k:Int)),(7,.pointer (some ⟨g7,0,none⟩)),(3,v),(10,.int .i64 (i:Int))]/\ax w W/\aQ W g1 32 #[.string f.name,.string f.parent,.slice pB nB cB,.bool sT,.slice pT nT cT,.bool tT,.slice yT mT dT,.bool sC,.slice pC nC cC,.bool tC,.slice yC mC dC,.int .i64 f.bk,.int .i64 f.fw,.bool sI,.slice pI nI cI,.bool tI,.slice yI mI dI,.bool sF,.slice pF nF cF,.bool tF,.slice yF mF dF,.int .i64 f.kp,.slice pc Nc cc,.slice pe Ne ce,.slice (some ⟨Bx,Bz,none⟩) Ny cy]/\aQ W g7 99 #[.int .i64 y.num,.slice ph nh ch,.slice pb nb cb,.slice pd nd cd,.slice ps ns cs,.slice pq nq cq]/\ay (cP kk) 4 27 w.heap.size W v es/\es=(E0++y.holds.flatMap ke++y.bn.flatMap ke)++((y.dE).take i).flatMap AB/\4<=es.length/\es.length<=(E0.length+80)+1*i)
  (λW=>aY Tryz.prog W 159) (λ_=>rfl) (λ_=>rfl) (λ_=>ax.refl _) nd (λw' β k' o en=>⟨[(1,.pointer (some ⟨g1,0,none⟩)),(6,.int .i64 (k:Int)),(7,.pointer (some ⟨g7,0,none⟩)),(3,v),(10,.int .i64 ((0:Nat):Int))],⟨⟨_,_,rfl,rfl,rfl⟩,⟨_,_,rfl,rfl,rfl⟩,⟨_,_,rfl,rfl,rfl⟩,⟨_,_,rfl,rfl,rfl⟩,⟨_,_,rfl,rfl,rfl⟩,aj⟩,0,v,es,ae,rfl,rfl,Ku.aG o,EF.aA o,vm.aA o,bD.aA (cP.el kk) o,by rw[iD,nc,eX];exact hes,gN,ae⟩) ?_
 rintro m L wD ⟨i,v,es,hi,rfl,rfl,Kv,EG,wU,bD,hes,gN,Dm⟩;refine ag ?_;refine VO.read aa [.slice pd nd cd] aa (aX (wU.cell (j:=3) aa)) (wV aa ?_);refine ag ?_;by_cases hlt:i<nd
 ·obtain⟨x,hx⟩:∃ x,(y.dE)[i]? =some x:=⟨_,aH (by rw[<-hnd];exact hlt)⟩;obtain⟨b,off,Bs,rfl,hc,ik⟩:=y3.at hx;obtain⟨s1,p1,n1,c1,t1,xU,m1,d1,rfl,qi,-⟩:=ik
  obtain⟨b0,c0,vs,sp,rfl,kP,cZ,dS,eO,hle,fc,gR⟩:∃ b0 c0 vs sp,v=.slice (some ⟨b0,0,none⟩) es.length c0/\w.heap.size<=b0/\aQ wD b0 27 (vs.flatten++sp).toArray/\cw (cP kk) wD es vs/\sp.all aO=true/\es.length<=c0/\c0<=9223372036854775807/\(vs.flatten++sp).length=c0*4:=by
   rcases bD with ⟨_,dZ⟩|⟨b0,c0,vs,sp,h1,h2,h3,h4,h5,h6,h7,h8⟩
   ·rw[dZ] at gN;simp at gN
   ·exact⟨b0,c0,vs,sp,h1,h2,h3,h4,h5,h6,h7,h8⟩
  have fm:g1≠b0:=λh=>by rw[h] at EG;exact absurd (bL EG cZ) cW
  have eL:g7≠b0:=λh=>by rw[h] at wU;exact absurd (bL wU cZ) cW
  refine VS.bB aa (aU (aW.2 hlt)) ?_;refine VS.cK dp (λt=>Nat.beq t 23) table (λ_ _ _=>trivial) (λbI nA k1 ic qF=> ?_);have aB:ax wD bI:=ic;have qg:=Kv.size;have ig:=aB.size
  have eh:dv dp 159 [b0] [(27,vs.flatten.map .val++sp.map .val)] bI:=by
   refine⟨aa,cf,λj g' c' hj hc=> ?_,λc' hc=> ?_,λc' hc k hk=> ?_⟩
   ·match j,hj,hc with
    | 0,hj,hc=>cases hj;cases hc;rw[<-aF,az];exact cZ.aA aB
    | j+1,hj,_=>simp at hj
   ·cases ak.1 hc;exact⟨aa,by rw[<-aF];exact aL (by rw[dK,(dS.ok (cP.el kk)).1,eO];rfl)⟩
   ·cases ak.1 hc;rw[<-aF,ah] at hk;cases hk
  have sA:fO (cP kk) 4 bI es.length c0 vs (sp.map .val) es:=⟨aa,dS.kp (cP.el kk) (Kp.of (U:=UU) aB),aL eO,ah _,hle,fc,by rw[<-aF,aM];exact gR⟩;refine⟨[b0],[(27,vs.flatten.map .val++sp.map .val)],eh,[(1,.val (.pointer (some ⟨g1,0,none⟩))),(6,.val (.int .i64 (k:Int))),(7,.val (.pointer (some ⟨g7,0,none⟩))),(3,.row 318 0 es.length c0),(10,.val (.int .i64 (i:Int)))],⟨⟨_,aa,aa,λi hi=>(by cases hi)⟩,⟨_,aa,aa,λi hi=>(by cases hi)⟩,⟨_,aa,aa,λi hi=>(by cases hi)⟩,⟨_,aa,aa,λi hi=>by rw[(by simpa [AV.ids] using hi:i=318)];exact⟨(by show 318<=318;omega),(by show 318<2*159+1;omega)⟩⟩,⟨_,aa,aa,λi hi=>(by cases hi)⟩,aj⟩,?_⟩;have eI:ax w bI:=Kv.aG aB
  have gA:∀ {b off:Nat} {cs:List Value},(∀ (j:Nat) (u:Value),cs[j]? =some u->w.cell? ((⟨b,off,none⟩:Addr).add j)=some u)->∀ (j:Nat) (u:Value),cs[j]? =some u->Cx.At (jK Tryz.prog bI 159 [b0] eh.nodup eh.ad) ((⟨b,off,none⟩:Addr).add j) u:=λh j u hj=>cD (λhm=>by
   have:=gP w _ (h j u hj);omega) (eI.cell (h j u hj))
  refine aq ?_;refine VO.bJ aa [.slice (some ⟨b,off,none⟩) nd cd] aa (λj u hj=>cD (by rw[Addr.add_mid];exact eL) (aX ((wU.aA aB).cell (j:=3) aa) j u hj)) (wV aa ?_);refine aq ?_;refine VO.cond aa fb ?_;refine wV aa ?_;refine aq ?_;refine VO.bJ aa [.bool s1,.slice p1 n1 c1,.bool t1,.slice xU m1 d1] aa (gA (bf hc 6 _ ⟨_,aa⟩)) (wV aa ?_);refine aq ?_;have hcs:cw (cP kk) bI [x.Dk] [[.bool s1,.slice p1 n1 c1,.bool t1,.slice xU m1 d1]]:=.cons (qi.kp (Kp.of (U:=UU) eI)) .nil;refine VO.wR (cM _ _) (cP.el kk) (t:=105) (e:=27) (s:=118) (i:=318) (n:=es.length) (c:=c0) (kn:=1) (css:=[[.bool s1,.slice p1 n1 c1,.bool t1,.slice xU m1 d1]]) (zs:=[x.Dk]) (vs:=vs) (sp:=sp.map .val) (es:=es) aa aa aa aa aa aa aa aa (cG aa) aa (.inl aa) aa (sA.kp (cP.el kk) (show aK dp bI _ from dA)) aa (hcs.kp (cP.el kk) (show aK dp bI _ from dA)) aa ae ae (λiA cap mQ ρ vC qE fo oc=>wV aa ?_);refine aq ?_;refine VS.eK aa (nd-(i+1)) ae (λw' bM k' o' kc=> ?_);have qC:ax w w':=dP.aA eI o'.1 (λx hx=>by rw[ak.1 hx];exact kP);have hst:fp (cP kk) 4 27 119 (.row 119 0 (es.length+1) cap) [(119,(27,_))] iA (es++[x.Dk]):=.inr ⟨_,cap,_,mQ,aa,aa,oc⟩;have eW:=hst.told (cP.el kk) kc (λx hx=>by cases ak.1 hx;rfl) (show aK dp iA w' from k') w.heap.size (λh=>(cH (show fF 159 [b0] bI 119 (bM 119) from h)).elim (λq=>aV qg (aV ig q)) (λq=>by rw[ak.1 q];exact kP));refine⟨[(1,.pointer (some ⟨g1,0,none⟩)),(6,.int .i64 (k:Int)),(7,.pointer (some ⟨g7,0,none⟩)),(3,.slice (some ⟨bM 119,0,none⟩) (es.length+1) cap),(10,.int .i64 ((i+1:Nat):Int))],⟨⟨_,_,aa,aa,aa⟩,⟨_,_,aa,aa,aa⟩,⟨_,_,aa,aa,aa⟩,⟨_,_,aa,aa,aa⟩,⟨_,_,aa,au (λz=>Value.int .i64 z) (bl (i:=i) ae),aa⟩,aj⟩,i+1,_,es++[x.Dk],ae,aa,aa,qC,(EG.aA aB).but o'.1 (by simp[fm]),(wU.aA aB).but o'.1 (by simp[eL]),eW,by rw[eU hx,hes,gQ];rfl,by rw[bg];omega,by rw[bg];show es.length+1<=_;omega⟩
 refine VS.bC aa (aR (λh=>hlt (aW.1 h))) ?_;obtain rfl:nd=i:=ae;rw[cO (by rw[<-hnd];exact aP _)] at hes;refine ag ?_
 refine VS.fL (J:=λm L W=>∃ (i:Nat) (v:Value) (es:List (Rw)),i<=ns/\m=ns-i/\L=[(1,.pointer (some ⟨g1,0,none⟩)),(6,.int .i64 (k:Int)),(7,.pointer (some ⟨g7,0,none⟩)),(3,v),(11,.int .i64 (i:Int))]/\ax w W/\aQ W g1 32 #[.string f.name,.string f.parent,.slice pB nB cB,.bool sT,.slice pT nT cT,.bool tT,.slice yT mT dT,.bool sC,.slice pC nC cC,.bool tC,.slice yC mC dC,.int .i64 f.bk,.int .i64 f.fw,.bool sI,.slice pI nI cI,.bool tI,.slice yI mI dI,.bool sF,.slice pF nF cF,.bool tF,.slice yF mF dF,.int .i64 f.kp,.slice pc Nc cc,.slice pe Ne ce,.slice (some ⟨Bx,Bz,none⟩) Ny cy]/\aQ W g7 99 #[.int .i64 y.num,.slice ph nh ch,.slice pb nb cb,.slice pd nd cd,.slice ps ns cs,.slice pq nq cq]/\ay (cP kk) 4 27 w.heap.size W v es/\es=(E0++y.holds.flatMap ke++y.bn.flatMap ke++y.dE.flatMap AB)++((y.di).take i).flatMap AD/\4<=es.length/\es.length<=(E0.length+120)+2*i)
  (λW=>aY Tryz.prog W 159) (λ_=>rfl) (λ_=>rfl) (λ_=>ax.refl _) ns (λw' β k' o en=>⟨[(1,.pointer (some ⟨g1,0,none⟩)),(6,.int .i64 (k:Int)),(7,.pointer (some ⟨g7,0,none⟩)),(3,v),(11,.int .i64 ((0:Nat):Int))],⟨⟨_,_,rfl,rfl,rfl⟩,⟨_,_,rfl,rfl,rfl⟩,⟨_,_,rfl,rfl,rfl⟩,⟨_,_,rfl,rfl,rfl⟩,⟨_,_,rfl,rfl,rfl⟩,aj⟩,0,v,es,ae,rfl,rfl,Kv.aG o,EG.aA o,wU.aA o,bD.aA (cP.el kk) o,by rw[iD,nc,eX];exact hes,gN,ae⟩) ?_
 rintro m L wS ⟨i,v,es,hi,rfl,rfl,Kw,EH,vn,bD,hes,gN,Dm⟩;refine ag ?_;refine VO.read aa [.slice ps ns cs] aa (aX (vn.cell (j:=4) aa)) (wV aa ?_);refine ag ?_;by_cases hlt:i<ns
 ·obtain⟨x,hx⟩:∃ x,(y.di)[i]? =some x:=⟨_,aH (by rw[<-hns];exact hlt)⟩;obtain⟨b,off,Bs,rfl,hc,ik⟩:=y4.at hx;obtain⟨s1,p1,n1,c1,t1,xU,m1,d1,s2,p2,n2,c2,t2,y2',m2,d2,rfl,qi,he2⟩:=ik
  obtain⟨b0,c0,vs,sp,rfl,kP,cZ,dS,eO,hle,fc,gR⟩:∃ b0 c0 vs sp,v=.slice (some ⟨b0,0,none⟩) es.length c0/\w.heap.size<=b0/\aQ wS b0 27 (vs.flatten++sp).toArray/\cw (cP kk) wS es vs/\sp.all aO=true/\es.length<=c0/\c0<=9223372036854775807/\(vs.flatten++sp).length=c0*4:=by
   rcases bD with ⟨_,dZ⟩|⟨b0,c0,vs,sp,h1,h2,h3,h4,h5,h6,h7,h8⟩
   ·rw[dZ] at gN;simp at gN
   ·exact⟨b0,c0,vs,sp,h1,h2,h3,h4,h5,h6,h7,h8⟩
  have fm:g1≠b0:=λh=>by rw[h] at EH;exact absurd (bL EH cZ) cW
  have eL:g7≠b0:=λh=>by rw[h] at vn;exact absurd (bL vn cZ) cW
  refine VS.bB aa (aU (aW.2 hlt)) ?_;refine VS.cK dp (λt=>Nat.beq t 23) table (λ_ _ _=>trivial) (λbI nA k1 ic qF=> ?_);have aB:ax wS bI:=ic;have qg:=Kw.size;have ig:=aB.size
  have eh:dv dp 159 [b0] [(27,vs.flatten.map .val++sp.map .val)] bI:=by
   refine⟨aa,cf,λj g' c' hj hc=> ?_,λc' hc=> ?_,λc' hc k hk=> ?_⟩
   ·match j,hj,hc with
    | 0,hj,hc=>cases hj;cases hc;rw[<-aF,az];exact cZ.aA aB
    | j+1,hj,_=>simp at hj
   ·cases ak.1 hc;exact⟨aa,by rw[<-aF];exact aL (by rw[dK,(dS.ok (cP.el kk)).1,eO];rfl)⟩
   ·cases ak.1 hc;rw[<-aF,ah] at hk;cases hk
  have sA:fO (cP kk) 4 bI es.length c0 vs (sp.map .val) es:=⟨aa,dS.kp (cP.el kk) (Kp.of (U:=UU) aB),aL eO,ah _,hle,fc,by rw[<-aF,aM];exact gR⟩;refine⟨[b0],[(27,vs.flatten.map .val++sp.map .val)],eh,[(1,.val (.pointer (some ⟨g1,0,none⟩))),(6,.val (.int .i64 (k:Int))),(7,.val (.pointer (some ⟨g7,0,none⟩))),(3,.row 318 0 es.length c0),(11,.val (.int .i64 (i:Int)))],⟨⟨_,aa,aa,λi hi=>(by cases hi)⟩,⟨_,aa,aa,λi hi=>(by cases hi)⟩,⟨_,aa,aa,λi hi=>(by cases hi)⟩,⟨_,aa,aa,λi hi=>by rw[(by simpa [AV.ids] using hi:i=318)];exact⟨(by show 318<=318;omega),(by show 318<2*159+1;omega)⟩⟩,⟨_,aa,aa,λi hi=>(by cases hi)⟩,aj⟩,?_⟩;have eI:ax w bI:=Kw.aG aB
  have gA:∀ {b off:Nat} {cs:List Value},(∀ (j:Nat) (u:Value),cs[j]? =some u->w.cell? ((⟨b,off,none⟩:Addr).add j)=some u)->∀ (j:Nat) (u:Value),cs[j]? =some u->Cx.At (jK Tryz.prog bI 159 [b0] eh.nodup eh.ad) ((⟨b,off,none⟩:Addr).add j) u:=λh j u hj=>cD (λhm=>by
   have:=gP w _ (h j u hj);omega) (eI.cell (h j u hj))
  refine aq ?_;refine VO.bJ aa [.slice (some ⟨b,off,none⟩) ns cs] aa (λj u hj=>cD (by rw[Addr.add_mid];exact eL) (aX ((vn.aA aB).cell (j:=4) aa) j u hj)) (wV aa ?_);refine aq ?_;refine VO.cond aa fb ?_;refine wV aa ?_;refine aq ?_;refine VO.bJ aa [.bool s1,.slice p1 n1 c1,.bool t1,.slice xU m1 d1] aa (gA (bf hc 1 _ ⟨_,aa⟩)) (wV aa ?_);refine aq ?_;refine VO.bJ aa [.slice (some ⟨b,off,none⟩) ns cs] aa (λj u hj=>cD (by rw[Addr.add_mid];exact eL) (aX ((vn.aA aB).cell (j:=4) aa) j u hj)) (wV aa ?_);refine aq ?_;refine VO.cond aa fb ?_;refine wV aa ?_;refine aq ?_;refine VO.bJ aa [.bool s2,.slice p2 n2 c2,.bool t2,.slice y2' m2 d2] aa (gA (bf hc 5 _ ⟨_,aa⟩)) (wV aa ?_);refine aq ?_;have hcs:cw (cP kk) bI [x.2.1,x.2.2] [[.bool s1,.slice p1 n1 c1,.bool t1,.slice xU m1 d1],[.bool s2,.slice p2 n2 c2,.bool t2,.slice y2' m2 d2]]:=.cons (qi.kp (Kp.of (U:=UU) eI)) (.cons (he2.kp (Kp.of (U:=UU) eI)) .nil);refine VO.wR (cM _ _) (cP.el kk) (t:=105) (e:=27) (s:=140) (i:=318) (n:=es.length) (c:=c0) (kn:=2) (css:=[[.bool s1,.slice p1 n1 c1,.bool t1,.slice xU m1 d1],[.bool s2,.slice p2 n2 c2,.bool t2,.slice y2' m2 d2]]) (zs:=[x.2.1,x.2.2]) (vs:=vs) (sp:=sp.map .val) (es:=es) aa aa aa aa aa aa aa aa (cG aa) aa (.inl aa) aa (sA.kp (cP.el kk) (show aK dp bI _ from dA)) aa (hcs.kp (cP.el kk) (show aK dp bI _ from dA)) aa ae ae (λiA cap mQ ρ vC qE fo oc=>wV aa ?_);refine aq ?_;refine VS.eK aa (ns-(i+1)) ae (λw' bM k' o' kc=> ?_);have qC:ax w w':=dP.aA eI o'.1 (λx hx=>by rw[ak.1 hx];exact kP);have hst:fp (cP kk) 4 27 141 (.row 141 0 (es.length+2) cap) [(141,(27,_))] iA (es++[x.2.1,x.2.2]):=.inr ⟨_,cap,_,mQ,aa,aa,oc⟩;have eW:=hst.told (cP.el kk) kc (λx hx=>by cases ak.1 hx;rfl) (show aK dp iA w' from k') w.heap.size (λh=>(cH (show fF 159 [b0] bI 141 (bM 141) from h)).elim (λq=>aV qg (aV ig q)) (λq=>by rw[ak.1 q];exact kP));refine⟨[(1,.pointer (some ⟨g1,0,none⟩)),(6,.int .i64 (k:Int)),(7,.pointer (some ⟨g7,0,none⟩)),(3,.slice (some ⟨bM 141,0,none⟩) (es.length+2) cap),(11,.int .i64 ((i+1:Nat):Int))],⟨⟨_,_,aa,aa,aa⟩,⟨_,_,aa,aa,aa⟩,⟨_,_,aa,aa,aa⟩,⟨_,_,aa,aa,aa⟩,⟨_,_,aa,au (λz=>Value.int .i64 z) (bl (i:=i) ae),aa⟩,aj⟩,i+1,_,es++[x.2.1,x.2.2],ae,aa,aa,qC,(EH.aA aB).but o'.1 (by simp[fm]),(vn.aA aB).but o'.1 (by simp[eL]),eW,by rw[eU hx,hes,gQ];rfl,by rw[bg];omega,by rw[bg];show es.length+2<=_;omega⟩
 refine VS.bC aa (aR (λh=>hlt (aW.1 h))) ?_;obtain rfl:ns=i:=ae;rw[cO (by rw[<-hns];exact aP _)] at hes;refine ag ?_
 refine VS.fL (J:=λm L W=>∃ (i:Nat) (v:Value) (es:List (Rw)),i<=nq/\m=nq-i/\L=[(1,.pointer (some ⟨g1,0,none⟩)),(6,.int .i64 (k:Int)),(7,.pointer (some ⟨g7,0,none⟩)),(3,v),(12,.int .i64 (i:Int))]/\ax w W/\aQ W g1 32 #[.string f.name,.string f.parent,.slice pB nB cB,.bool sT,.slice pT nT cT,.bool tT,.slice yT mT dT,.bool sC,.slice pC nC cC,.bool tC,.slice yC mC dC,.int .i64 f.bk,.int .i64 f.fw,.bool sI,.slice pI nI cI,.bool tI,.slice yI mI dI,.bool sF,.slice pF nF cF,.bool tF,.slice yF mF dF,.int .i64 f.kp,.slice pc Nc cc,.slice pe Ne ce,.slice (some ⟨Bx,Bz,none⟩) Ny cy]/\aQ W g7 99 #[.int .i64 y.num,.slice ph nh ch,.slice pb nb cb,.slice pd nd cd,.slice ps ns cs,.slice pq nq cq]/\ay (cP kk) 4 27 w.heap.size W v es/\es=(E0++y.holds.flatMap ke++y.bn.flatMap ke++y.dE.flatMap AB++y.di.flatMap AD)++((y.ft).take i).flatMap Kn/\4<=es.length/\es.length<=(E0.length+200)+1*i)
  (λW=>aY Tryz.prog W 159) (λ_=>rfl) (λ_=>rfl) (λ_=>ax.refl _) nq (λw' β k' o en=>⟨[(1,.pointer (some ⟨g1,0,none⟩)),(6,.int .i64 (k:Int)),(7,.pointer (some ⟨g7,0,none⟩)),(3,v),(12,.int .i64 ((0:Nat):Int))],⟨⟨_,_,rfl,rfl,rfl⟩,⟨_,_,rfl,rfl,rfl⟩,⟨_,_,rfl,rfl,rfl⟩,⟨_,_,rfl,rfl,rfl⟩,⟨_,_,rfl,rfl,rfl⟩,aj⟩,0,v,es,ae,rfl,rfl,Kw.aG o,EH.aA o,vn.aA o,bD.aA (cP.el kk) o,by rw[iD,nc,eX];exact hes,gN,ae⟩) ?_
 rintro m L wQ ⟨i,v,es,hi,rfl,rfl,Ky,EI,AE,bD,hes,gN,Dm⟩;refine ag ?_;refine VO.read aa [.slice pq nq cq] aa (aX (AE.cell (j:=5) aa)) (wV aa ?_);refine ag ?_;by_cases hlt:i<nq
 ·obtain⟨x,hx⟩:∃ x,(y.ft)[i]? =some x:=⟨_,aH (by rw[<-hnq];exact hlt)⟩;obtain⟨b,off,Bs,rfl,hc,ik⟩:=y5.at hx;obtain⟨s1,p1,n1,c1,t1,xU,m1,d1,rfl,qi⟩:=ik
  obtain⟨b0,c0,vs,sp,rfl,kP,cZ,dS,eO,hle,fc,gR⟩:∃ b0 c0 vs sp,v=.slice (some ⟨b0,0,none⟩) es.length c0/\w.heap.size<=b0/\aQ wQ b0 27 (vs.flatten++sp).toArray/\cw (cP kk) wQ es vs/\sp.all aO=true/\es.length<=c0/\c0<=9223372036854775807/\(vs.flatten++sp).length=c0*4:=by
   rcases bD with ⟨_,dZ⟩|⟨b0,c0,vs,sp,h1,h2,h3,h4,h5,h6,h7,h8⟩
   ·rw[dZ] at gN;simp at gN
   ·exact⟨b0,c0,vs,sp,h1,h2,h3,h4,h5,h6,h7,h8⟩
  have fm:g1≠b0:=λh=>by rw[h] at EI;exact absurd (bL EI cZ) cW
  have eL:g7≠b0:=λh=>by rw[h] at AE;exact absurd (bL AE cZ) cW
  refine VS.bB aa (aU (aW.2 hlt)) ?_;refine VS.cK dp (λt=>Nat.beq t 23) table (λ_ _ _=>trivial) (λbI nA k1 ic qF=> ?_);have aB:ax wQ bI:=ic;have qg:=Ky.size;have ig:=aB.size
  have eh:dv dp 159 [b0] [(27,vs.flatten.map .val++sp.map .val)] bI:=by
   refine⟨aa,cf,λj g' c' hj hc=> ?_,λc' hc=> ?_,λc' hc k hk=> ?_⟩
   ·match j,hj,hc with
    | 0,hj,hc=>cases hj;cases hc;rw[<-aF,az];exact cZ.aA aB
    | j+1,hj,_=>simp at hj
   ·cases ak.1 hc;exact⟨aa,by rw[<-aF];exact aL (by rw[dK,(dS.ok (cP.el kk)).1,eO];rfl)⟩
   ·cases ak.1 hc;rw[<-aF,ah] at hk;cases hk
  have sA:fO (cP kk) 4 bI es.length c0 vs (sp.map .val) es:=⟨aa,dS.kp (cP.el kk) (Kp.of (U:=UU) aB),aL eO,ah _,hle,fc,by rw[<-aF,aM];exact gR⟩;refine⟨[b0],[(27,vs.flatten.map .val++sp.map .val)],eh,[(1,.val (.pointer (some ⟨g1,0,none⟩))),(6,.val (.int .i64 (k:Int))),(7,.val (.pointer (some ⟨g7,0,none⟩))),(3,.row 318 0 es.length c0),(12,.val (.int .i64 (i:Int)))],⟨⟨_,aa,aa,λi hi=>(by cases hi)⟩,⟨_,aa,aa,λi hi=>(by cases hi)⟩,⟨_,aa,aa,λi hi=>(by cases hi)⟩,⟨_,aa,aa,λi hi=>by rw[(by simpa [AV.ids] using hi:i=318)];exact⟨(by show 318<=318;omega),(by show 318<2*159+1;omega)⟩⟩,⟨_,aa,aa,λi hi=>(by cases hi)⟩,aj⟩,?_⟩;have eI:ax w bI:=Ky.aG aB
  have gA:∀ {b off:Nat} {cs:List Value},(∀ (j:Nat) (u:Value),cs[j]? =some u->w.cell? ((⟨b,off,none⟩:Addr).add j)=some u)->∀ (j:Nat) (u:Value),cs[j]? =some u->Cx.At (jK Tryz.prog bI 159 [b0] eh.nodup eh.ad) ((⟨b,off,none⟩:Addr).add j) u:=λh j u hj=>cD (λhm=>by
   have:=gP w _ (h j u hj);omega) (eI.cell (h j u hj))
  refine aq ?_;refine VO.bJ aa [.slice (some ⟨b,off,none⟩) nq cq] aa (λj u hj=>cD (by rw[Addr.add_mid];exact eL) (aX ((AE.aA aB).cell (j:=5) aa) j u hj)) (wV aa ?_);refine aq ?_;refine VO.cond aa fb ?_;refine wV aa ?_;refine aq ?_;refine VO.bJ aa [.bool s1,.slice p1 n1 c1,.bool t1,.slice xU m1 d1] aa (gA (bf hc 1 _ ⟨_,aa⟩)) (wV aa ?_);refine aq ?_;have hcs:cw (cP kk) bI [x.2] [[.bool s1,.slice p1 n1 c1,.bool t1,.slice xU m1 d1]]:=.cons (qi.kp (Kp.of (U:=UU) eI)) .nil;refine VO.wR (cM _ _) (cP.el kk) (t:=105) (e:=27) (s:=156) (i:=318) (n:=es.length) (c:=c0) (kn:=1) (css:=[[.bool s1,.slice p1 n1 c1,.bool t1,.slice xU m1 d1]]) (zs:=[x.2]) (vs:=vs) (sp:=sp.map .val) (es:=es) aa aa aa aa aa aa aa aa (cG aa) aa (.inl aa) aa (sA.kp (cP.el kk) (show aK dp bI _ from dA)) aa (hcs.kp (cP.el kk) (show aK dp bI _ from dA)) aa ae ae (λiA cap mQ ρ vC qE fo oc=>wV aa ?_);refine aq ?_;refine VS.eK aa (nq-(i+1)) ae (λw' bM k' o' kc=> ?_);have qC:ax w w':=dP.aA eI o'.1 (λx hx=>by rw[ak.1 hx];exact kP);have hst:fp (cP kk) 4 27 157 (.row 157 0 (es.length+1) cap) [(157,(27,_))] iA (es++[x.2]):=.inr ⟨_,cap,_,mQ,aa,aa,oc⟩;have eW:=hst.told (cP.el kk) kc (λx hx=>by cases ak.1 hx;rfl) (show aK dp iA w' from k') w.heap.size (λh=>(cH (show fF 159 [b0] bI 157 (bM 157) from h)).elim (λq=>aV qg (aV ig q)) (λq=>by rw[ak.1 q];exact kP));refine⟨[(1,.pointer (some ⟨g1,0,none⟩)),(6,.int .i64 (k:Int)),(7,.pointer (some ⟨g7,0,none⟩)),(3,.slice (some ⟨bM 157,0,none⟩) (es.length+1) cap),(12,.int .i64 ((i+1:Nat):Int))],⟨⟨_,_,aa,aa,aa⟩,⟨_,_,aa,aa,aa⟩,⟨_,_,aa,aa,aa⟩,⟨_,_,aa,aa,aa⟩,⟨_,_,aa,au (λz=>Value.int .i64 z) (bl (i:=i) ae),aa⟩,aj⟩,i+1,_,es++[x.2],ae,aa,aa,qC,(EI.aA aB).but o'.1 (by simp[fm]),(AE.aA aB).but o'.1 (by simp[eL]),eW,by rw[eU hx,hes,gQ];rfl,by rw[bg];omega,by rw[bg];show es.length+1<=_;omega⟩
 refine VS.bC aa (aR (λh=>hlt (aW.1 h))) ?_;obtain rfl:nq=i:=ae;rw[cO (by rw[<-hnq];exact aP _)] at hes;refine ag ?_;refine VS.eK aa (Ny-(k+1)) ae (λw' bM k' o' kc=> ?_);refine⟨[(1,.pointer (some ⟨g1,0,none⟩)),(3,v),(6,.int .i64 ((k+1:Nat):Int))],⟨⟨_,_,aa,aa,aa⟩,⟨_,_,aa,aa,aa⟩,⟨_,_,aa,au (λz=>Value.int .i64 z) (bl (i:=k) ae),aa⟩,aj⟩,k+1,v,es,ae,aa,aa,Ky.aG o',EI.aA o',bD.aA (cP.el kk) o',?_,gN,ae⟩;rw[eU hy,hes,hesE];unfold lh;simp only[List.append_assoc]
set_option maxRecDepth 4000
def LV (x:Au):List ByteArray:=[x.1]
def rO (x:lg):List ByteArray:=[x.1,x.2.1]
def LW (x:QU):List ByteArray:=[x.id,x.rM,x.rN,x.cls]
def Rx (x:QS):List ByteArray:=[x.1]
def sdTxt (x:QT):List ByteArray:=[x.1]
def LX (y:ve):List ByteArray:=y.holds.flatMap rO++y.bn.flatMap rO++y.dE.flatMap LW++y.di.flatMap Rx++y.ft.flatMap sdTxt
def Ry (f:kM):List ByteArray:=[f.name,f.parent]++f.dD++f.cls.flatMap LV++f.jn.flatMap LX
theorem str_src {w:World} {p:Option Addr} {n c:Nat} {es:List ByteArray} (h:bK ed 1 w (.slice p n c) es):∃ p' cc,Value.slice p n c=.slice p' es.length cc/\(es.length=0\/∃ b off,p'=some ⟨b,off,none⟩/\∀ (j:Nat) (q:Value),(es.map λs=>[Value.string s]).flatten[j]? =some q->w.cell? ⟨b,off+j,none⟩=some q):=by
 obtain⟨p',c',e,h1,h2,h3⟩:=h;cases e;refine⟨p,c,aa,?_⟩;cases es with
 | nil=>exact .inl aa
 | cons a r=>
   obtain⟨b,off,cs,rfl,-,-⟩:=h3 0 a aa;refine .inr ⟨b,off,aa,λj q hj=> ?_⟩;rw[mE,jq] at hj;obtain⟨s,hs,rfl⟩:=Ff.1 hj;obtain⟨b',off',ew,hp,hc,hE⟩:=h3 j s hs;cases hp;cases hE;have:=hc 0 _ aa;rw[np,lz] at this;exact this
set_option maxRecDepth 8000 in
theorem NN (v:Value) (f:kM) (kk:Nat) (w:World) (hv:sB kk w v f) (hs:Rs f):
  Calls Tryz.prog 129 #[v] w λo w'=>∃ r,o=.returned r/\ay ed 1 9 w.heap.size w' r (Ry f)/\ax w w':=by
 obtain⟨pB,nB,cB,sT,pT,nT,cT,tT,yT,mT,dT,sC,pC,nC,cC,tC,yC,mC,dC,sI,pI,nI,cI,tI,yI,mI,dI,sF,pF,nF,cF,tF,yF,mF,dF,pc,Nc,cc,pe,Ne,ce,py,Ny,cy,rfl,h1,h2,h3,h4,h5,h6,h7,h8⟩:=hv;have hNc:Nc=f.cls.length:=by obtain⟨_,_,e,_⟩:=h6.form;cases e;rfl
 have hNe:Ne=f.dD.length:=by obtain⟨_,_,e,_⟩:=h7.form;cases e;rfl
 have hNy:Ny=f.jn.length:=by obtain⟨_,_,e,_⟩:=h8.form;cases e;rfl
 have hsC:=hs.cls;have hsE:=hs.dD;have hsY:=hs.jn;refine ai (C:=aY Tryz.prog w _) (args:=[_]) Tryz.func129 aa Tryz.ntmps129 (cG aa) ?_;refine ag ?_;refine VO.appT (bU _ _) ba (t:=29) (e:=9) (i:=17) (n:=2) (c:=2) (vs:=[[.string f.name],[.string f.parent]]) (sp:=[]) (es:=[f.name,f.parent]) aa aa aa aa aa aa aa aa (cG aa) aa (.inl aa) aa ⟨aa,.cons aa (.cons aa .nil),aa,aa,aP _,cW,aa⟩ (f.dD.map λs=>[.string s]) (yD _ f.dD) (λw1 k1 o1=>str_src (h7.aA ba o1)) ae (λiA cap mQ ρ vC qE fo oc=>wV aa ?_)
 (repeat (first|refine wN ?_|refine wP aa ?_|refine wO aa aa ?_))
 refine VS.jZ (λw=>aY Tryz.prog w 150) (λ_=>aa) (λ_=>aa) (λ_=>ax.refl _) (λw0 β k0 Rb en=> ?_);have hBw0:ax w w0:=Rb;have Ru:aQ w0 (β 1) 32 #[.string f.name,.string f.parent,.slice pB nB cB,.bool sT,.slice pT nT cT,.bool tT,.slice yT mT dT,.bool sC,.slice pC nC cC,.bool tC,.slice yC mC dC,.int .i64 f.bk,.int .i64 f.fw,.bool sI,.slice pI nI cI,.bool tI,.slice yI mI dI,.bool sF,.slice pF nF cF,.bool tF,.slice yF mF dF,.int .i64 f.kp,.slice pc Nc cc,.slice pe Ne ce,.slice py Ny cy]:=(en.own 1 _ _ aa).cls;have bD:ay ed 1 9 w.heap.size w0 (.slice (some ⟨β 21,0,none⟩) (2+f.dD.length) cap) ([f.name,f.parent]++f.dD):=oc.new ba (en.own 21 _ _ aa) dA;refine⟨[(1,.val (.pointer (some ⟨β 1,0,none⟩))),(3,.val (.slice (some ⟨β 21,0,none⟩) (2+f.dD.length) cap))],⟨⟨_,_,aa,aa,aa⟩,⟨_,_,aa,aa,aa⟩,aj⟩,?_⟩;generalize β 1=g1 at Ru ⊢;obtain⟨v,hvv⟩:∃ v,v=Value.slice (some ⟨β 21,0,none⟩) (2+f.dD.length) cap:=⟨_,aa⟩;rw[<-hvv] at bD ⊢;clear hvv en;obtain⟨es,hes⟩:∃ es,es=[f.name,f.parent]++f.dD:=⟨_,aa⟩;rw[<-hes] at bD;have gN:2<=es.length:=by rw[hes,bg];show 2<=2+_;omega
 have Dm:es.length<=262:=by rw[hes,bg];show 2+_<=_;omega
 refine ag ?_
 refine VS.fL (J:=λm L W=>∃ (i:Nat) (v:Value) (es:List (ByteArray)),i<=Nc/\m=Nc-i/\L=[(1,.pointer (some ⟨g1,0,none⟩)),(3,v),(4,.int .i64 (i:Int))]/\ax w W/\aQ W g1 32 #[.string f.name,.string f.parent,.slice pB nB cB,.bool sT,.slice pT nT cT,.bool tT,.slice yT mT dT,.bool sC,.slice pC nC cC,.bool tC,.slice yC mC dC,.int .i64 f.bk,.int .i64 f.fw,.bool sI,.slice pI nI cI,.bool tI,.slice yI mI dI,.bool sF,.slice pF nF cF,.bool tF,.slice yF mF dF,.int .i64 f.kp,.slice pc Nc cc,.slice pe Ne ce,.slice py Ny cy]/\ay (ed) 1 9 w.heap.size W v es/\es=([f.name,f.parent]++f.dD)++((f.cls).take i).flatMap LV/\2<=es.length/\es.length<=262+1*i)
  (λW=>aY Tryz.prog W 150) (λ_=>rfl) (λ_=>rfl) (λ_=>ax.refl _) Nc (λw' β k' o en=>⟨[(1,.pointer (some ⟨g1,0,none⟩)),(3,v),(4,.int .i64 ((0:Nat):Int))],⟨⟨_,_,rfl,rfl,rfl⟩,⟨_,_,rfl,rfl,rfl⟩,⟨_,_,rfl,rfl,rfl⟩,aj⟩,0,v,es,ae,rfl,rfl,hBw0.aG o,Ru.aA o,bD.aA ba o,by rw[iD,nc,eX];exact hes,gN,ae⟩) ?_
 rintro m L wC ⟨i,v,es,hi,rfl,rfl,Kq,wT,bD,hes,gN,Dm⟩;refine ag ?_;refine VO.read aa [.slice pc Nc cc] aa (aX (wT.cell (j:=22) aa)) (wV aa ?_);refine ag ?_;by_cases hlt:i<Nc
 ·obtain⟨x,hx⟩:∃ x,(f.cls)[i]? =some x:=⟨_,aH (by rw[<-hNc];exact hlt)⟩;obtain⟨b,off,Bs,rfl,hc,ik⟩:=h6.at hx;obtain⟨s1,p1,n1,c1,t1,y1,m1,d1,rfl,-⟩:=ik
  obtain⟨b0,c0,vs,sp,rfl,kP,cZ,dS,eO,hle,fc,gR⟩:∃ b0 c0 vs sp,v=.slice (some ⟨b0,0,none⟩) es.length c0/\w.heap.size<=b0/\aQ wC b0 9 (vs.flatten++sp).toArray/\cw (ed) wC es vs/\sp.all aO=true/\es.length<=c0/\c0<=9223372036854775807/\(vs.flatten++sp).length=c0*1:=by
   rcases bD with ⟨_,dZ⟩|⟨b0,c0,vs,sp,h1,h2,h3,h4,h5,h6,h7,h8⟩
   ·rw[dZ] at gN;simp at gN
   ·exact⟨b0,c0,vs,sp,h1,h2,h3,h4,h5,h6,h7,h8⟩
  have fm:g1≠b0:=λh=>by rw[h] at wT;exact absurd (bL wT cZ) cW
  refine VS.bB aa (aU (aW.2 hlt)) ?_;refine VS.cK dp (λt=>Nat.beq t 23) table (λ_ _ _=>trivial) (λbI nA k1 ic qF=> ?_);have aB:ax wC bI:=ic;have qg:=Kq.size;have ig:=aB.size
  have eh:dv dp 150 [b0] [(9,vs.flatten.map .val++sp.map .val)] bI:=by
   refine⟨aa,cf,λj g' c' hj hc=> ?_,λc' hc=> ?_,λc' hc k hk=> ?_⟩
   ·match j,hj,hc with
    | 0,hj,hc=>cases hj;cases hc;rw[<-aF,az];exact cZ.aA aB
    | j+1,hj,_=>simp at hj
   ·cases ak.1 hc;exact⟨aa,by rw[<-aF];exact aL (by rw[dK,(dS.ok ba).1,eO];rfl)⟩
   ·cases ak.1 hc;rw[<-aF,ah] at hk;cases hk
  have sA:fO (ed) 1 bI es.length c0 vs (sp.map .val) es:=⟨aa,dS.kp ba (Kp.of (U:=UU) aB),aL eO,ah _,hle,fc,by rw[<-aF,aM];exact gR⟩;refine⟨[b0],[(9,vs.flatten.map .val++sp.map .val)],eh,[(1,.val (.pointer (some ⟨g1,0,none⟩))),(3,.row 300 0 es.length c0),(4,.val (.int .i64 (i:Int)))],⟨⟨_,aa,aa,λi hi=>(by cases hi)⟩,⟨_,aa,aa,λi hi=>by rw[(by simpa [AV.ids] using hi:i=300)];exact⟨(by show 300<=300;omega),(by show 300<2*150+1;omega)⟩⟩,⟨_,aa,aa,λi hi=>(by cases hi)⟩,aj⟩,?_⟩;have eI:ax w bI:=Kq.aG aB
  have gA:∀ {b off:Nat} {cs:List Value},(∀ (j:Nat) (u:Value),cs[j]? =some u->w.cell? ((⟨b,off,none⟩:Addr).add j)=some u)->∀ (j:Nat) (u:Value),cs[j]? =some u->Cx.At (jK Tryz.prog bI 150 [b0] eh.nodup eh.ad) ((⟨b,off,none⟩:Addr).add j) u:=λh j u hj=>cD (λhm=>by
   have:=gP w _ (h j u hj);omega) (eI.cell (h j u hj))
  refine aq ?_;refine VO.bJ aa [.slice (some ⟨b,off,none⟩) Nc cc] aa (λj u hj=>cD (by rw[Addr.add_mid];exact fm) (aX ((wT.aA aB).cell (j:=22) aa) j u hj)) (wV aa ?_);refine aq ?_;refine VO.cond aa fb ?_;refine wV aa ?_;refine aq ?_;refine VO.bJ aa [.string x.1] aa (gA (bf hc 0 _ ⟨_,aa⟩)) (wV aa ?_);refine aq ?_;have hcs:cw (ed) bI [x.1] [[.string x.1]]:=.cons aa .nil;refine VO.wR (cM _ _) ba (t:=29) (e:=9) (s:=36) (i:=300) (n:=es.length) (c:=c0) (kn:=1) (css:=[[.string x.1]]) (zs:=[x.1]) (vs:=vs) (sp:=sp.map .val) (es:=es) aa aa aa aa aa aa aa aa (cG aa) aa (.inl aa) aa (sA.kp ba (show aK dp bI _ from dA)) aa (hcs.kp ba (show aK dp bI _ from dA)) aa ae ae (λiA cap mQ ρ vC qE fo oc=>wV aa ?_);refine aq ?_;refine VS.eK aa (Nc-(i+1)) ae (λw' bM k' o' kc=> ?_);have qC:ax w w':=dP.aA eI o'.1 (λx hx=>by rw[ak.1 hx];exact kP);have hst:fp (ed) 1 9 37 (.row 37 0 (es.length+1) cap) [(37,(9,_))] iA (es++[x.1]):=.inr ⟨_,cap,_,mQ,aa,aa,oc⟩;have eW:=hst.told ba kc (λx hx=>by cases ak.1 hx;rfl) (show aK dp iA w' from k') w.heap.size (λh=>(cH (show fF 150 [b0] bI 37 (bM 37) from h)).elim (λq=>aV qg (aV ig q)) (λq=>by rw[ak.1 q];exact kP));refine⟨[(1,.pointer (some ⟨g1,0,none⟩)),(3,.slice (some ⟨bM 37,0,none⟩) (es.length+1) cap),(4,.int .i64 ((i+1:Nat):Int))],⟨⟨_,_,aa,aa,aa⟩,⟨_,_,aa,aa,aa⟩,⟨_,_,aa,au (λz=>Value.int .i64 z) (bl (i:=i) ae),aa⟩,aj⟩,i+1,_,es++[x.1],ae,aa,aa,qC,(wT.aA aB).but o'.1 (by simp[fm]),eW,by rw[eU hx,hes,gQ];rfl,by rw[bg];omega,by rw[bg];show es.length+1<=_;omega⟩
 refine VS.bC aa (aR (λh=>hlt (aW.1 h))) ?_;obtain rfl:Nc=i:=ae;rw[cO (by rw[<-hNc];exact aP _)] at hes;refine ag ?_
 refine VS.fL (J:=λm L W=>∃ (k:Nat) (v:Value) (es:List ByteArray),k<=Ny/\m=Ny-k/\L=[(1,.pointer (some ⟨g1,0,none⟩)),(3,v),(5,.int .i64 (k:Int))]/\ax w W/\aQ W g1 32 #[.string f.name,.string f.parent,.slice pB nB cB,.bool sT,.slice pT nT cT,.bool tT,.slice yT mT dT,.bool sC,.slice pC nC cC,.bool tC,.slice yC mC dC,.int .i64 f.bk,.int .i64 f.fw,.bool sI,.slice pI nI cI,.bool tI,.slice yI mI dI,.bool sF,.slice pF nF cF,.bool tF,.slice yF mF dF,.int .i64 f.kp,.slice pc Nc cc,.slice pe Ne ce,.slice py Ny cy]/\ay ed 1 9 w.heap.size W v es/\es=([f.name,f.parent]++f.dD++f.cls.flatMap LV)++(f.jn.take k).flatMap LX/\2<=es.length/\es.length<=332+400*k)
  (λW=>aY Tryz.prog W 150) (λ_=>rfl) (λ_=>rfl) (λ_=>ax.refl _) Ny (λw' β k' o en=>⟨[(1,.pointer (some ⟨g1,0,none⟩)),(3,v),(5,.int .i64 ((0:Nat):Int))],⟨⟨_,_,rfl,rfl,rfl⟩,⟨_,_,rfl,rfl,rfl⟩,⟨_,_,rfl,rfl,rfl⟩,aj⟩,0,v,es,ae,rfl,rfl,Kq.aG o,wT.aA o,bD.aA ba o,by rw[iD,nc,eX];exact hes,gN,ae⟩) ?_
 rintro m L wY ⟨k,v,es,hk,rfl,rfl,Kr,Ks,bD,hes,gN,Dm⟩;refine ag ?_;refine VO.read aa [.slice py Ny cy] aa (aX (Ks.cell (j:=24) aa)) (wV aa ?_);refine ag ?_;by_cases hlt:k<Ny
 rotate_left
 ·refine VS.bC aa (aR (λh=>hlt (aW.1 h))) ?_;have ET:f.jn.length<=k:=ae;rw[cO ET] at hes;refine ag ?_;refine ck ?_;intro wz kz bz;refine⟨v,aa,?_,Kr.aG bz⟩;have:=bD.aA ba bz;rw[hes] at this;exact this
 obtain⟨y,hy⟩:∃ y,f.jn[k]? =some y:=⟨_,aH ae⟩;obtain⟨ha1,ha2,ha3,ha4,ha5⟩:=hs.each y (dc hy);obtain⟨Bx,Bz,csy,rfl,vE,⟨yh,yb,yd,ys,yq,rfl,y1,y2,y3,y4,y5⟩⟩:=h8.at hy;obtain⟨ph,nh,ch,rfl,hnh⟩:∃ p n c,yh=.slice p n c/\n=y.holds.length:=by obtain⟨p,c,e⟩:=y1.sl;exact⟨_,_,_,e,aa⟩
 obtain⟨pb,nb,cb,rfl,Lb⟩:∃ p n c,yb=.slice p n c/\n=y.bn.length:=by obtain⟨p,c,e⟩:=y2.sl;exact⟨_,_,_,e,aa⟩
 obtain⟨pd,nd,cd,rfl,hnd⟩:∃ p n c,yd=.slice p n c/\n=y.dE.length:=by obtain⟨p,c,e⟩:=y3.sl;exact⟨_,_,_,e,aa⟩
 obtain⟨ps,ns,cs,rfl,hns⟩:∃ p n c,ys=.slice p n c/\n=y.di.length:=by obtain⟨p,c,e⟩:=y4.sl;exact⟨_,_,_,e,aa⟩
 obtain⟨pq,nq,cq,rfl,hnq⟩:∃ p n c,yq=.slice p n c/\n=y.ft.length:=by obtain⟨p,c,e⟩:=y5.sl;exact⟨_,_,_,e,aa⟩
 refine VS.bB aa (aU (aW.2 hlt)) ?_;refine ag ?_;refine VO.read aa [.slice (some ⟨Bx,Bz,none⟩) Ny cy] aa (aX (Ks.cell (j:=24) aa)) (wV aa ?_);refine ag ?_;refine VO.cond aa fb ?_;refine wV aa ?_;refine ag ?_;refine VO.read aa [.int .i64 y.num,.slice ph nh ch,.slice pb nb cb,.slice pd nd cd,.slice ps ns cs,.slice pq nq cq] aa (λj u hj=>Kr.cell (bf vE 0 _ ⟨[],aa⟩ j u hj)) (wV aa ?_)
 (repeat (first|refine wN ?_|refine wP aa ?_|refine wO aa aa ?_))
 refine VS.jZ (λw=>aY Tryz.prog w 150) (λ_=>aa) (λ_=>aa) (λ_=>ax.refl _) (λw1 β k1 ic en=> ?_);have hBw1:ax w w1:=Kr.aG ic;have hfw1:=Ks.aA ic;have Rv:aQ w1 (β 6) 99 #[.int .i64 y.num,.slice ph nh ch,.slice pb nb cb,.slice pd nd cd,.slice ps ns cs,.slice pq nq cq]:=(en.own 6 _ _ aa).cls;replace bD:=bD.aA ba ic;refine⟨[(1,.val (.pointer (some ⟨g1,0,none⟩))),(5,.val (.int .i64 (k:Int))),(6,.val (.pointer (some ⟨β 6,0,none⟩))),(3,.val v)],⟨⟨_,_,aa,aa,aa⟩,⟨_,_,aa,aa,aa⟩,⟨_,_,aa,aa,aa⟩,⟨_,_,aa,aa,aa⟩,aj⟩,?_⟩;generalize β 6=g7 at Rv ⊢;clear en;obtain⟨E0,hE0⟩:∃ E0,E0=es:=⟨_,aa⟩;have hbE:E0.length<=332+400*k:=by rw[hE0];exact Dm
 have hesE:E0=([f.name,f.parent]++f.dD++f.cls.flatMap LV)++(f.jn.take k).flatMap LX:=by rw[hE0];exact hes
 replace hes:es=E0:=hE0.symm;replace Dm:es.length<=E0.length:=by rw[hes];exact aP _
 refine ag ?_
 refine VS.fL (J:=λm L W=>∃ (i:Nat) (v:Value) (es:List (ByteArray)),i<=nh/\m=nh-i/\L=[(1,.pointer (some ⟨g1,0,none⟩)),(5,.int .i64 (k:Int)),(6,.pointer (some ⟨g7,0,none⟩)),(3,v),(7,.int .i64 (i:Int))]/\ax w W/\aQ W g1 32 #[.string f.name,.string f.parent,.slice pB nB cB,.bool sT,.slice pT nT cT,.bool tT,.slice yT mT dT,.bool sC,.slice pC nC cC,.bool tC,.slice yC mC dC,.int .i64 f.bk,.int .i64 f.fw,.bool sI,.slice pI nI cI,.bool tI,.slice yI mI dI,.bool sF,.slice pF nF cF,.bool tF,.slice yF mF dF,.int .i64 f.kp,.slice pc Nc cc,.slice pe Ne ce,.slice (some ⟨Bx,Bz,none⟩) Ny cy]/\aQ W g7 99 #[.int .i64 y.num,.slice ph nh ch,.slice pb nb cb,.slice pd nd cd,.slice ps ns cs,.slice pq nq cq]/\ay (ed) 1 9 w.heap.size W v es/\es=E0++((y.holds).take i).flatMap rO/\2<=es.length/\es.length<=E0.length+2*i)
  (λW=>aY Tryz.prog W 150) (λ_=>rfl) (λ_=>rfl) (λ_=>ax.refl _) nh (λw' β k' o en=>⟨[(1,.pointer (some ⟨g1,0,none⟩)),(5,.int .i64 (k:Int)),(6,.pointer (some ⟨g7,0,none⟩)),(3,v),(7,.int .i64 ((0:Nat):Int))],⟨⟨_,_,rfl,rfl,rfl⟩,⟨_,_,rfl,rfl,rfl⟩,⟨_,_,rfl,rfl,rfl⟩,⟨_,_,rfl,rfl,rfl⟩,⟨_,_,rfl,rfl,rfl⟩,aj⟩,0,v,es,ae,rfl,rfl,hBw1.aG o,hfw1.aA o,Rv.aA o,bD.aA ba o,by rw[iD,nc,eX];exact hes,gN,ae⟩) ?_
 rintro m L wH ⟨i,v,es,hi,rfl,rfl,Kt,EE,vi,bD,hes,gN,Dm⟩;refine ag ?_;refine VO.read aa [.slice ph nh ch] aa (aX (vi.cell (j:=1) aa)) (wV aa ?_);refine ag ?_;by_cases hlt:i<nh
 ·obtain⟨x,hx⟩:∃ x,(y.holds)[i]? =some x:=⟨_,aH (by rw[<-hnh];exact hlt)⟩;obtain⟨b,off,Bs,rfl,hc,ik⟩:=y1.at hx;obtain⟨s1,p1,n1,c1,t1,xU,m1,d1,rfl,-⟩:=ik
  obtain⟨b0,c0,vs,sp,rfl,kP,cZ,dS,eO,hle,fc,gR⟩:∃ b0 c0 vs sp,v=.slice (some ⟨b0,0,none⟩) es.length c0/\w.heap.size<=b0/\aQ wH b0 9 (vs.flatten++sp).toArray/\cw (ed) wH es vs/\sp.all aO=true/\es.length<=c0/\c0<=9223372036854775807/\(vs.flatten++sp).length=c0*1:=by
   rcases bD with ⟨_,dZ⟩|⟨b0,c0,vs,sp,h1,h2,h3,h4,h5,h6,h7,h8⟩
   ·rw[dZ] at gN;simp at gN
   ·exact⟨b0,c0,vs,sp,h1,h2,h3,h4,h5,h6,h7,h8⟩
  have fm:g1≠b0:=λh=>by rw[h] at EE;exact absurd (bL EE cZ) cW
  have eL:g7≠b0:=λh=>by rw[h] at vi;exact absurd (bL vi cZ) cW
  refine VS.bB aa (aU (aW.2 hlt)) ?_;refine VS.cK dp (λt=>Nat.beq t 23) table (λ_ _ _=>trivial) (λbI nA k1 ic qF=> ?_);have aB:ax wH bI:=ic;have qg:=Kt.size;have ig:=aB.size
  have eh:dv dp 150 [b0] [(9,vs.flatten.map .val++sp.map .val)] bI:=by
   refine⟨aa,cf,λj g' c' hj hc=> ?_,λc' hc=> ?_,λc' hc k hk=> ?_⟩
   ·match j,hj,hc with
    | 0,hj,hc=>cases hj;cases hc;rw[<-aF,az];exact cZ.aA aB
    | j+1,hj,_=>simp at hj
   ·cases ak.1 hc;exact⟨aa,by rw[<-aF];exact aL (by rw[dK,(dS.ok ba).1,eO];rfl)⟩
   ·cases ak.1 hc;rw[<-aF,ah] at hk;cases hk
  have sA:fO (ed) 1 bI es.length c0 vs (sp.map .val) es:=⟨aa,dS.kp ba (Kp.of (U:=UU) aB),aL eO,ah _,hle,fc,by rw[<-aF,aM];exact gR⟩;refine⟨[b0],[(9,vs.flatten.map .val++sp.map .val)],eh,[(1,.val (.pointer (some ⟨g1,0,none⟩))),(5,.val (.int .i64 (k:Int))),(6,.val (.pointer (some ⟨g7,0,none⟩))),(3,.row 300 0 es.length c0),(7,.val (.int .i64 (i:Int)))],⟨⟨_,aa,aa,λi hi=>(by cases hi)⟩,⟨_,aa,aa,λi hi=>(by cases hi)⟩,⟨_,aa,aa,λi hi=>(by cases hi)⟩,⟨_,aa,aa,λi hi=>by rw[(by simpa [AV.ids] using hi:i=300)];exact⟨(by show 300<=300;omega),(by show 300<2*150+1;omega)⟩⟩,⟨_,aa,aa,λi hi=>(by cases hi)⟩,aj⟩,?_⟩;have eI:ax w bI:=Kt.aG aB
  have gA:∀ {b off:Nat} {cs:List Value},(∀ (j:Nat) (u:Value),cs[j]? =some u->w.cell? ((⟨b,off,none⟩:Addr).add j)=some u)->∀ (j:Nat) (u:Value),cs[j]? =some u->Cx.At (jK Tryz.prog bI 150 [b0] eh.nodup eh.ad) ((⟨b,off,none⟩:Addr).add j) u:=λh j u hj=>cD (λhm=>by
   have:=gP w _ (h j u hj);omega) (eI.cell (h j u hj))
  refine aq ?_;refine VO.bJ aa [.slice (some ⟨b,off,none⟩) nh ch] aa (λj u hj=>cD (by rw[Addr.add_mid];exact eL) (aX ((vi.aA aB).cell (j:=1) aa) j u hj)) (wV aa ?_);refine aq ?_;refine VO.cond aa fb ?_;refine wV aa ?_;refine aq ?_;refine VO.bJ aa [.string x.1] aa (gA (bf hc 0 _ ⟨_,aa⟩)) (wV aa ?_);refine aq ?_;refine VO.bJ aa [.slice (some ⟨b,off,none⟩) nh ch] aa (λj u hj=>cD (by rw[Addr.add_mid];exact eL) (aX ((vi.aA aB).cell (j:=1) aa) j u hj)) (wV aa ?_);refine aq ?_;refine VO.cond aa fb ?_;refine wV aa ?_;refine aq ?_;refine VO.bJ aa [.string x.2.1] aa (gA (bf hc 1 _ ⟨_,aa⟩)) (wV aa ?_);refine aq ?_;have hcs:cw (ed) bI [x.1,x.2.1] [[.string x.1],[.string x.2.1]]:=.cons aa (.cons aa .nil);refine VO.wR (cM _ _) ba (t:=29) (e:=9) (s:=70) (i:=300) (n:=es.length) (c:=c0) (kn:=2) (css:=[[.string x.1],[.string x.2.1]]) (zs:=[x.1,x.2.1]) (vs:=vs) (sp:=sp.map .val) (es:=es) aa aa aa aa aa aa aa aa (cG aa) aa (.inl aa) aa (sA.kp ba (show aK dp bI _ from dA)) aa (hcs.kp ba (show aK dp bI _ from dA)) aa ae ae (λiA cap mQ ρ vC qE fo oc=>wV aa ?_);refine aq ?_;refine VS.eK aa (nh-(i+1)) ae (λw' bM k' o' kc=> ?_);have qC:ax w w':=dP.aA eI o'.1 (λx hx=>by rw[ak.1 hx];exact kP);have hst:fp (ed) 1 9 71 (.row 71 0 (es.length+2) cap) [(71,(9,_))] iA (es++[x.1,x.2.1]):=.inr ⟨_,cap,_,mQ,aa,aa,oc⟩;have eW:=hst.told ba kc (λx hx=>by cases ak.1 hx;rfl) (show aK dp iA w' from k') w.heap.size (λh=>(cH (show fF 150 [b0] bI 71 (bM 71) from h)).elim (λq=>aV qg (aV ig q)) (λq=>by rw[ak.1 q];exact kP));refine⟨[(1,.pointer (some ⟨g1,0,none⟩)),(5,.int .i64 (k:Int)),(6,.pointer (some ⟨g7,0,none⟩)),(3,.slice (some ⟨bM 71,0,none⟩) (es.length+2) cap),(7,.int .i64 ((i+1:Nat):Int))],⟨⟨_,_,aa,aa,aa⟩,⟨_,_,aa,aa,aa⟩,⟨_,_,aa,aa,aa⟩,⟨_,_,aa,aa,aa⟩,⟨_,_,aa,au (λz=>Value.int .i64 z) (bl (i:=i) ae),aa⟩,aj⟩,i+1,_,es++[x.1,x.2.1],ae,aa,aa,qC,(EE.aA aB).but o'.1 (by simp[fm]),(vi.aA aB).but o'.1 (by simp[eL]),eW,by rw[eU hx,hes,gQ];rfl,by rw[bg];omega,by rw[bg];show es.length+2<=_;omega⟩
 refine VS.bC aa (aR (λh=>hlt (aW.1 h))) ?_;obtain rfl:nh=i:=ae;rw[cO (by rw[<-hnh];exact aP _)] at hes;refine ag ?_
 refine VS.fL (J:=λm L W=>∃ (i:Nat) (v:Value) (es:List (ByteArray)),i<=nb/\m=nb-i/\L=[(1,.pointer (some ⟨g1,0,none⟩)),(5,.int .i64 (k:Int)),(6,.pointer (some ⟨g7,0,none⟩)),(3,v),(8,.int .i64 (i:Int))]/\ax w W/\aQ W g1 32 #[.string f.name,.string f.parent,.slice pB nB cB,.bool sT,.slice pT nT cT,.bool tT,.slice yT mT dT,.bool sC,.slice pC nC cC,.bool tC,.slice yC mC dC,.int .i64 f.bk,.int .i64 f.fw,.bool sI,.slice pI nI cI,.bool tI,.slice yI mI dI,.bool sF,.slice pF nF cF,.bool tF,.slice yF mF dF,.int .i64 f.kp,.slice pc Nc cc,.slice pe Ne ce,.slice (some ⟨Bx,Bz,none⟩) Ny cy]/\aQ W g7 99 #[.int .i64 y.num,.slice ph nh ch,.slice pb nb cb,.slice pd nd cd,.slice ps ns cs,.slice pq nq cq]/\ay (ed) 1 9 w.heap.size W v es/\es=(E0++y.holds.flatMap rO)++((y.bn).take i).flatMap rO/\2<=es.length/\es.length<=(E0.length+80)+2*i)
  (λW=>aY Tryz.prog W 150) (λ_=>rfl) (λ_=>rfl) (λ_=>ax.refl _) nb (λw' β k' o en=>⟨[(1,.pointer (some ⟨g1,0,none⟩)),(5,.int .i64 (k:Int)),(6,.pointer (some ⟨g7,0,none⟩)),(3,v),(8,.int .i64 ((0:Nat):Int))],⟨⟨_,_,rfl,rfl,rfl⟩,⟨_,_,rfl,rfl,rfl⟩,⟨_,_,rfl,rfl,rfl⟩,⟨_,_,rfl,rfl,rfl⟩,⟨_,_,rfl,rfl,rfl⟩,aj⟩,0,v,es,ae,rfl,rfl,Kt.aG o,EE.aA o,vi.aA o,bD.aA ba o,by rw[iD,nc,eX];exact hes,gN,ae⟩) ?_
 rintro m L wK ⟨i,v,es,hi,rfl,rfl,Ku,EF,vm,bD,hes,gN,Dm⟩;refine ag ?_;refine VO.read aa [.slice pb nb cb] aa (aX (vm.cell (j:=2) aa)) (wV aa ?_);refine ag ?_;by_cases hlt:i<nb
 ·obtain⟨x,hx⟩:∃ x,(y.bn)[i]? =some x:=⟨_,aH (by rw[<-Lb];exact hlt)⟩;obtain⟨b,off,Bs,rfl,hc,ik⟩:=y2.at hx;obtain⟨s1,p1,n1,c1,t1,xU,m1,d1,rfl,-⟩:=ik
  obtain⟨b0,c0,vs,sp,rfl,kP,cZ,dS,eO,hle,fc,gR⟩:∃ b0 c0 vs sp,v=.slice (some ⟨b0,0,none⟩) es.length c0/\w.heap.size<=b0/\aQ wK b0 9 (vs.flatten++sp).toArray/\cw (ed) wK es vs/\sp.all aO=true/\es.length<=c0/\c0<=9223372036854775807/\(vs.flatten++sp).length=c0*1:=by
   rcases bD with ⟨_,dZ⟩|⟨b0,c0,vs,sp,h1,h2,h3,h4,h5,h6,h7,h8⟩
   ·rw[dZ] at gN;simp at gN
   ·exact⟨b0,c0,vs,sp,h1,h2,h3,h4,h5,h6,h7,h8⟩
  have fm:g1≠b0:=λh=>by rw[h] at EF;exact absurd (bL EF cZ) cW
  have eL:g7≠b0:=λh=>by rw[h] at vm;exact absurd (bL vm cZ) cW
  refine VS.bB aa (aU (aW.2 hlt)) ?_;refine VS.cK dp (λt=>Nat.beq t 23) table (λ_ _ _=>trivial) (λbI nA k1 ic qF=> ?_);have aB:ax wK bI:=ic;have qg:=Ku.size;have ig:=aB.size
  have eh:dv dp 150 [b0] [(9,vs.flatten.map .val++sp.map .val)] bI:=by
   refine⟨aa,cf,λj g' c' hj hc=> ?_,λc' hc=> ?_,λc' hc k hk=> ?_⟩
   ·match j,hj,hc with
    | 0,hj,hc=>cases hj;cases hc;rw[<-aF,az];exact cZ.aA aB
    | j+1,hj,_=>simp at hj
   ·cases ak.1 hc;exact⟨aa,by rw[<-aF];exact aL (by rw[dK,(dS.ok ba).1,eO];rfl)⟩
   ·cases ak.1 hc;rw[<-aF,ah] at hk;cases hk
  have sA:fO (ed) 1 bI es.length c0 vs (sp.map .val) es:=⟨aa,dS.kp ba (Kp.of (U:=UU) aB),aL eO,ah _,hle,fc,by rw[<-aF,aM];exact gR⟩;refine⟨[b0],[(9,vs.flatten.map .val++sp.map .val)],eh,[(1,.val (.pointer (some ⟨g1,0,none⟩))),(5,.val (.int .i64 (k:Int))),(6,.val (.pointer (some ⟨g7,0,none⟩))),(3,.row 300 0 es.length c0),(8,.val (.int .i64 (i:Int)))],⟨⟨_,aa,aa,λi hi=>(by cases hi)⟩,⟨_,aa,aa,λi hi=>(by cases hi)⟩,⟨_,aa,aa,λi hi=>(by cases hi)⟩,⟨_,aa,aa,λi hi=>by rw[(by simpa [AV.ids] using hi:i=300)];exact⟨(by show 300<=300;omega),(by show 300<2*150+1;omega)⟩⟩,⟨_,aa,aa,λi hi=>(by cases hi)⟩,aj⟩,?_⟩;have eI:ax w bI:=Ku.aG aB
  have gA:∀ {b off:Nat} {cs:List Value},(∀ (j:Nat) (u:Value),cs[j]? =some u->w.cell? ((⟨b,off,none⟩:Addr).add j)=some u)->∀ (j:Nat) (u:Value),cs[j]? =some u->Cx.At (jK Tryz.prog bI 150 [b0] eh.nodup eh.ad) ((⟨b,off,none⟩:Addr).add j) u:=λh j u hj=>cD (λhm=>by
   have:=gP w _ (h j u hj);omega) (eI.cell (h j u hj))
  refine aq ?_;refine VO.bJ aa [.slice (some ⟨b,off,none⟩) nb cb] aa (λj u hj=>cD (by rw[Addr.add_mid];exact eL) (aX ((vm.aA aB).cell (j:=2) aa) j u hj)) (wV aa ?_);refine aq ?_;refine VO.cond aa fb ?_;refine wV aa ?_;refine aq ?_;refine VO.bJ aa [.string x.1] aa (gA (bf hc 0 _ ⟨_,aa⟩)) (wV aa ?_);refine aq ?_;refine VO.bJ aa [.slice (some ⟨b,off,none⟩) nb cb] aa (λj u hj=>cD (by rw[Addr.add_mid];exact eL) (aX ((vm.aA aB).cell (j:=2) aa) j u hj)) (wV aa ?_);refine aq ?_;refine VO.cond aa fb ?_;refine wV aa ?_;refine aq ?_;refine VO.bJ aa [.string x.2.1] aa (gA (bf hc 1 _ ⟨_,aa⟩)) (wV aa ?_);refine aq ?_;have hcs:cw (ed) bI [x.1,x.2.1] [[.string x.1],[.string x.2.1]]:=.cons aa (.cons aa .nil);refine VO.wR (cM _ _) ba (t:=29) (e:=9) (s:=92) (i:=300) (n:=es.length) (c:=c0) (kn:=2) (css:=[[.string x.1],[.string x.2.1]]) (zs:=[x.1,x.2.1]) (vs:=vs) (sp:=sp.map .val) (es:=es) aa aa aa aa aa aa aa aa (cG aa) aa (.inl aa) aa (sA.kp ba (show aK dp bI _ from dA)) aa (hcs.kp ba (show aK dp bI _ from dA)) aa ae ae (λiA cap mQ ρ vC qE fo oc=>wV aa ?_);refine aq ?_;refine VS.eK aa (nb-(i+1)) ae (λw' bM k' o' kc=> ?_);have qC:ax w w':=dP.aA eI o'.1 (λx hx=>by rw[ak.1 hx];exact kP);have hst:fp (ed) 1 9 93 (.row 93 0 (es.length+2) cap) [(93,(9,_))] iA (es++[x.1,x.2.1]):=.inr ⟨_,cap,_,mQ,aa,aa,oc⟩;have eW:=hst.told ba kc (λx hx=>by cases ak.1 hx;rfl) (show aK dp iA w' from k') w.heap.size (λh=>(cH (show fF 150 [b0] bI 93 (bM 93) from h)).elim (λq=>aV qg (aV ig q)) (λq=>by rw[ak.1 q];exact kP));refine⟨[(1,.pointer (some ⟨g1,0,none⟩)),(5,.int .i64 (k:Int)),(6,.pointer (some ⟨g7,0,none⟩)),(3,.slice (some ⟨bM 93,0,none⟩) (es.length+2) cap),(8,.int .i64 ((i+1:Nat):Int))],⟨⟨_,_,aa,aa,aa⟩,⟨_,_,aa,aa,aa⟩,⟨_,_,aa,aa,aa⟩,⟨_,_,aa,aa,aa⟩,⟨_,_,aa,au (λz=>Value.int .i64 z) (bl (i:=i) ae),aa⟩,aj⟩,i+1,_,es++[x.1,x.2.1],ae,aa,aa,qC,(EF.aA aB).but o'.1 (by simp[fm]),(vm.aA aB).but o'.1 (by simp[eL]),eW,by rw[eU hx,hes,gQ];rfl,by rw[bg];omega,by rw[bg];show es.length+2<=_;omega⟩
 refine VS.bC aa (aR (λh=>hlt (aW.1 h))) ?_;obtain rfl:nb=i:=ae;rw[cO (by rw[<-Lb];exact aP _)] at hes;refine ag ?_
 refine VS.fL (J:=λm L W=>∃ (i:Nat) (v:Value) (es:List (ByteArray)),i<=nd/\m=nd-i/\L=[(1,.pointer (some ⟨g1,0,none⟩)),(5,.int .i64 (k:Int)),(6,.pointer (some ⟨g7,0,none⟩)),(3,v),(9,.int .i64 (i:Int))]/\ax w W/\aQ W g1 32 #[.string f.name,.string f.parent,.slice pB nB cB,.bool sT,.slice pT nT cT,.bool tT,.slice yT mT dT,.bool sC,.slice pC nC cC,.bool tC,.slice yC mC dC,.int .i64 f.bk,.int .i64 f.fw,.bool sI,.slice pI nI cI,.bool tI,.slice yI mI dI,.bool sF,.slice pF nF cF,.bool tF,.slice yF mF dF,.int .i64 f.kp,.slice pc Nc cc,.slice pe Ne ce,.slice (some ⟨Bx,Bz,none⟩) Ny cy]/\aQ W g7 99 #[.int .i64 y.num,.slice ph nh ch,.slice pb nb cb,.slice pd nd cd,.slice ps ns cs,.slice pq nq cq]/\ay (ed) 1 9 w.heap.size W v es/\es=(E0++y.holds.flatMap rO++y.bn.flatMap rO)++((y.dE).take i).flatMap LW/\2<=es.length/\es.length<=(E0.length+160)+4*i)
  (λW=>aY Tryz.prog W 150) (λ_=>rfl) (λ_=>rfl) (λ_=>ax.refl _) nd (λw' β k' o en=>⟨[(1,.pointer (some ⟨g1,0,none⟩)),(5,.int .i64 (k:Int)),(6,.pointer (some ⟨g7,0,none⟩)),(3,v),(9,.int .i64 ((0:Nat):Int))],⟨⟨_,_,rfl,rfl,rfl⟩,⟨_,_,rfl,rfl,rfl⟩,⟨_,_,rfl,rfl,rfl⟩,⟨_,_,rfl,rfl,rfl⟩,⟨_,_,rfl,rfl,rfl⟩,aj⟩,0,v,es,ae,rfl,rfl,Ku.aG o,EF.aA o,vm.aA o,bD.aA ba o,by rw[iD,nc,eX];exact hes,gN,ae⟩) ?_
 rintro m L wD ⟨i,v,es,hi,rfl,rfl,Kv,EG,wU,bD,hes,gN,Dm⟩;refine ag ?_;refine VO.read aa [.slice pd nd cd] aa (aX (wU.cell (j:=3) aa)) (wV aa ?_);refine ag ?_;by_cases hlt:i<nd
 ·obtain⟨x,hx⟩:∃ x,(y.dE)[i]? =some x:=⟨_,aH (by rw[<-hnd];exact hlt)⟩;obtain⟨b,off,Bs,rfl,hc,ik⟩:=y3.at hx;obtain⟨s1,p1,n1,c1,t1,xU,m1,d1,rfl,-⟩:=ik
  obtain⟨b0,c0,vs,sp,rfl,kP,cZ,dS,eO,hle,fc,gR⟩:∃ b0 c0 vs sp,v=.slice (some ⟨b0,0,none⟩) es.length c0/\w.heap.size<=b0/\aQ wD b0 9 (vs.flatten++sp).toArray/\cw (ed) wD es vs/\sp.all aO=true/\es.length<=c0/\c0<=9223372036854775807/\(vs.flatten++sp).length=c0*1:=by
   rcases bD with ⟨_,dZ⟩|⟨b0,c0,vs,sp,h1,h2,h3,h4,h5,h6,h7,h8⟩
   ·rw[dZ] at gN;simp at gN
   ·exact⟨b0,c0,vs,sp,h1,h2,h3,h4,h5,h6,h7,h8⟩
  have fm:g1≠b0:=λh=>by rw[h] at EG;exact absurd (bL EG cZ) cW
  have eL:g7≠b0:=λh=>by rw[h] at wU;exact absurd (bL wU cZ) cW
  refine VS.bB aa (aU (aW.2 hlt)) ?_;refine VS.cK dp (λt=>Nat.beq t 23) table (λ_ _ _=>trivial) (λbI nA k1 ic qF=> ?_);have aB:ax wD bI:=ic;have qg:=Kv.size;have ig:=aB.size
  have eh:dv dp 150 [b0] [(9,vs.flatten.map .val++sp.map .val)] bI:=by
   refine⟨aa,cf,λj g' c' hj hc=> ?_,λc' hc=> ?_,λc' hc k hk=> ?_⟩
   ·match j,hj,hc with
    | 0,hj,hc=>cases hj;cases hc;rw[<-aF,az];exact cZ.aA aB
    | j+1,hj,_=>simp at hj
   ·cases ak.1 hc;exact⟨aa,by rw[<-aF];exact aL (by rw[dK,(dS.ok ba).1,eO];rfl)⟩
   ·cases ak.1 hc;rw[<-aF,ah] at hk;cases hk
  have sA:fO (ed) 1 bI es.length c0 vs (sp.map .val) es:=⟨aa,dS.kp ba (Kp.of (U:=UU) aB),aL eO,ah _,hle,fc,by rw[<-aF,aM];exact gR⟩;refine⟨[b0],[(9,vs.flatten.map .val++sp.map .val)],eh,[(1,.val (.pointer (some ⟨g1,0,none⟩))),(5,.val (.int .i64 (k:Int))),(6,.val (.pointer (some ⟨g7,0,none⟩))),(3,.row 300 0 es.length c0),(9,.val (.int .i64 (i:Int)))],⟨⟨_,aa,aa,λi hi=>(by cases hi)⟩,⟨_,aa,aa,λi hi=>(by cases hi)⟩,⟨_,aa,aa,λi hi=>(by cases hi)⟩,⟨_,aa,aa,λi hi=>by rw[(by simpa [AV.ids] using hi:i=300)];exact⟨(by show 300<=300;omega),(by show 300<2*150+1;omega)⟩⟩,⟨_,aa,aa,λi hi=>(by cases hi)⟩,aj⟩,?_⟩;have eI:ax w bI:=Kv.aG aB
  have gA:∀ {b off:Nat} {cs:List Value},(∀ (j:Nat) (u:Value),cs[j]? =some u->w.cell? ((⟨b,off,none⟩:Addr).add j)=some u)->∀ (j:Nat) (u:Value),cs[j]? =some u->Cx.At (jK Tryz.prog bI 150 [b0] eh.nodup eh.ad) ((⟨b,off,none⟩:Addr).add j) u:=λh j u hj=>cD (λhm=>by
   have:=gP w _ (h j u hj);omega) (eI.cell (h j u hj))
  refine aq ?_;refine VO.bJ aa [.slice (some ⟨b,off,none⟩) nd cd] aa (λj u hj=>cD (by rw[Addr.add_mid];exact eL) (aX ((wU.aA aB).cell (j:=3) aa) j u hj)) (wV aa ?_);refine aq ?_;refine VO.cond aa fb ?_;refine wV aa ?_;refine aq ?_;refine VO.bJ aa [.bool x.give,.string x.id,.int .u8 (x.kind:Int),.string x.rM,.string x.rN,.string x.cls,.bool s1,.slice p1 n1 c1,.bool t1,.slice xU m1 d1] aa (gA (bf hc 0 _ ⟨[],aa⟩)) (wV aa ?_);refine aq ?_;have hcs:cw (ed) bI [x.id,x.rM,x.rN,x.cls] [[.string x.id],[.string x.rM],[.string x.rN],[.string x.cls]]:=.cons aa (.cons aa (.cons aa (.cons aa .nil)));refine VO.wR (cM _ _) ba (t:=29) (e:=9) (s:=115) (i:=300) (n:=es.length) (c:=c0) (kn:=4) (css:=[[.string x.id],[.string x.rM],[.string x.rN],[.string x.cls]]) (zs:=[x.id,x.rM,x.rN,x.cls]) (vs:=vs) (sp:=sp.map .val) (es:=es) aa aa aa aa aa aa aa aa (cG aa) aa (.inl aa) aa (sA.kp ba (show aK dp bI _ from dA)) aa (hcs.kp ba (show aK dp bI _ from dA)) aa ae ae (λiA cap mQ ρ vC qE fo oc=>wV aa ?_);refine aq ?_;refine VS.eK aa (nd-(i+1)) ae (λw' bM k' o' kc=> ?_);have qC:ax w w':=dP.aA eI o'.1 (λx hx=>by rw[ak.1 hx];exact kP);have hst:fp (ed) 1 9 116 (.row 116 0 (es.length+4) cap) [(116,(9,_))] iA (es++[x.id,x.rM,x.rN,x.cls]):=.inr ⟨_,cap,_,mQ,aa,aa,oc⟩;have eW:=hst.told ba kc (λx hx=>by cases ak.1 hx;rfl) (show aK dp iA w' from k') w.heap.size (λh=>(cH (show fF 150 [b0] bI 116 (bM 116) from h)).elim (λq=>aV qg (aV ig q)) (λq=>by rw[ak.1 q];exact kP));refine⟨[(1,.pointer (some ⟨g1,0,none⟩)),(5,.int .i64 (k:Int)),(6,.pointer (some ⟨g7,0,none⟩)),(3,.slice (some ⟨bM 116,0,none⟩) (es.length+4) cap),(9,.int .i64 ((i+1:Nat):Int))],⟨⟨_,_,aa,aa,aa⟩,⟨_,_,aa,aa,aa⟩,⟨_,_,aa,aa,aa⟩,⟨_,_,aa,aa,aa⟩,⟨_,_,aa,au (λz=>Value.int .i64 z) (bl (i:=i) ae),aa⟩,aj⟩,i+1,_,es++[x.id,x.rM,x.rN,x.cls],ae,aa,aa,qC,(EG.aA aB).but o'.1 (by simp[fm]),(wU.aA aB).but o'.1 (by simp[eL]),eW,by rw[eU hx,hes,gQ];rfl,by rw[bg];omega,by rw[bg];show es.length+4<=_;omega⟩
 refine VS.bC aa (aR (λh=>hlt (aW.1 h))) ?_;obtain rfl:nd=i:=ae;rw[cO (by rw[<-hnd];exact aP _)] at hes;refine ag ?_
 refine VS.fL (J:=λm L W=>∃ (i:Nat) (v:Value) (es:List (ByteArray)),i<=ns/\m=ns-i/\L=[(1,.pointer (some ⟨g1,0,none⟩)),(5,.int .i64 (k:Int)),(6,.pointer (some ⟨g7,0,none⟩)),(3,v),(11,.int .i64 (i:Int))]/\ax w W/\aQ W g1 32 #[.string f.name,.string f.parent,.slice pB nB cB,.bool sT,.slice pT nT cT,.bool tT,.slice yT mT dT,.bool sC,.slice pC nC cC,.bool tC,.slice yC mC dC,.int .i64 f.bk,.int .i64 f.fw,.bool sI,.slice pI nI cI,.bool tI,.slice yI mI dI,.bool sF,.slice pF nF cF,.bool tF,.slice yF mF dF,.int .i64 f.kp,.slice pc Nc cc,.slice pe Ne ce,.slice (some ⟨Bx,Bz,none⟩) Ny cy]/\aQ W g7 99 #[.int .i64 y.num,.slice ph nh ch,.slice pb nb cb,.slice pd nd cd,.slice ps ns cs,.slice pq nq cq]/\ay (ed) 1 9 w.heap.size W v es/\es=(E0++y.holds.flatMap rO++y.bn.flatMap rO++y.dE.flatMap LW)++((y.di).take i).flatMap Rx/\2<=es.length/\es.length<=(E0.length+320)+1*i)
  (λW=>aY Tryz.prog W 150) (λ_=>rfl) (λ_=>rfl) (λ_=>ax.refl _) ns (λw' β k' o en=>⟨[(1,.pointer (some ⟨g1,0,none⟩)),(5,.int .i64 (k:Int)),(6,.pointer (some ⟨g7,0,none⟩)),(3,v),(11,.int .i64 ((0:Nat):Int))],⟨⟨_,_,rfl,rfl,rfl⟩,⟨_,_,rfl,rfl,rfl⟩,⟨_,_,rfl,rfl,rfl⟩,⟨_,_,rfl,rfl,rfl⟩,⟨_,_,rfl,rfl,rfl⟩,aj⟩,0,v,es,ae,rfl,rfl,Kv.aG o,EG.aA o,wU.aA o,bD.aA ba o,by rw[iD,nc,eX];exact hes,gN,ae⟩) ?_
 rintro m L wS ⟨i,v,es,hi,rfl,rfl,Kw,EH,vn,bD,hes,gN,Dm⟩;refine ag ?_;refine VO.read aa [.slice ps ns cs] aa (aX (vn.cell (j:=4) aa)) (wV aa ?_);refine ag ?_;by_cases hlt:i<ns
 ·obtain⟨x,hx⟩:∃ x,(y.di)[i]? =some x:=⟨_,aH (by rw[<-hns];exact hlt)⟩;obtain⟨b,off,Bs,rfl,hc,ik⟩:=y4.at hx;obtain⟨s1,p1,n1,c1,t1,xU,m1,d1,s2,p2,n2,c2,t2,y2',m2,d2,rfl,-⟩:=ik
  obtain⟨b0,c0,vs,sp,rfl,kP,cZ,dS,eO,hle,fc,gR⟩:∃ b0 c0 vs sp,v=.slice (some ⟨b0,0,none⟩) es.length c0/\w.heap.size<=b0/\aQ wS b0 9 (vs.flatten++sp).toArray/\cw (ed) wS es vs/\sp.all aO=true/\es.length<=c0/\c0<=9223372036854775807/\(vs.flatten++sp).length=c0*1:=by
   rcases bD with ⟨_,dZ⟩|⟨b0,c0,vs,sp,h1,h2,h3,h4,h5,h6,h7,h8⟩
   ·rw[dZ] at gN;simp at gN
   ·exact⟨b0,c0,vs,sp,h1,h2,h3,h4,h5,h6,h7,h8⟩
  have fm:g1≠b0:=λh=>by rw[h] at EH;exact absurd (bL EH cZ) cW
  have eL:g7≠b0:=λh=>by rw[h] at vn;exact absurd (bL vn cZ) cW
  refine VS.bB aa (aU (aW.2 hlt)) ?_;refine VS.cK dp (λt=>Nat.beq t 23) table (λ_ _ _=>trivial) (λbI nA k1 ic qF=> ?_);have aB:ax wS bI:=ic;have qg:=Kw.size;have ig:=aB.size
  have eh:dv dp 150 [b0] [(9,vs.flatten.map .val++sp.map .val)] bI:=by
   refine⟨aa,cf,λj g' c' hj hc=> ?_,λc' hc=> ?_,λc' hc k hk=> ?_⟩
   ·match j,hj,hc with
    | 0,hj,hc=>cases hj;cases hc;rw[<-aF,az];exact cZ.aA aB
    | j+1,hj,_=>simp at hj
   ·cases ak.1 hc;exact⟨aa,by rw[<-aF];exact aL (by rw[dK,(dS.ok ba).1,eO];rfl)⟩
   ·cases ak.1 hc;rw[<-aF,ah] at hk;cases hk
  have sA:fO (ed) 1 bI es.length c0 vs (sp.map .val) es:=⟨aa,dS.kp ba (Kp.of (U:=UU) aB),aL eO,ah _,hle,fc,by rw[<-aF,aM];exact gR⟩;refine⟨[b0],[(9,vs.flatten.map .val++sp.map .val)],eh,[(1,.val (.pointer (some ⟨g1,0,none⟩))),(5,.val (.int .i64 (k:Int))),(6,.val (.pointer (some ⟨g7,0,none⟩))),(3,.row 300 0 es.length c0),(11,.val (.int .i64 (i:Int)))],⟨⟨_,aa,aa,λi hi=>(by cases hi)⟩,⟨_,aa,aa,λi hi=>(by cases hi)⟩,⟨_,aa,aa,λi hi=>(by cases hi)⟩,⟨_,aa,aa,λi hi=>by rw[(by simpa [AV.ids] using hi:i=300)];exact⟨(by show 300<=300;omega),(by show 300<2*150+1;omega)⟩⟩,⟨_,aa,aa,λi hi=>(by cases hi)⟩,aj⟩,?_⟩;have eI:ax w bI:=Kw.aG aB
  have gA:∀ {b off:Nat} {cs:List Value},(∀ (j:Nat) (u:Value),cs[j]? =some u->w.cell? ((⟨b,off,none⟩:Addr).add j)=some u)->∀ (j:Nat) (u:Value),cs[j]? =some u->Cx.At (jK Tryz.prog bI 150 [b0] eh.nodup eh.ad) ((⟨b,off,none⟩:Addr).add j) u:=λh j u hj=>cD (λhm=>by
   have:=gP w _ (h j u hj);omega) (eI.cell (h j u hj))
  refine aq ?_;refine VO.bJ aa [.slice (some ⟨b,off,none⟩) ns cs] aa (λj u hj=>cD (by rw[Addr.add_mid];exact eL) (aX ((vn.aA aB).cell (j:=4) aa) j u hj)) (wV aa ?_);refine aq ?_;refine VO.cond aa fb ?_;refine wV aa ?_;refine aq ?_;refine VO.bJ aa [.string x.1] aa (gA (bf hc 0 _ ⟨_,aa⟩)) (wV aa ?_);refine aq ?_;have hcs:cw (ed) bI [x.1] [[.string x.1]]:=.cons aa .nil;refine VO.wR (cM _ _) ba (t:=29) (e:=9) (s:=131) (i:=300) (n:=es.length) (c:=c0) (kn:=1) (css:=[[.string x.1]]) (zs:=[x.1]) (vs:=vs) (sp:=sp.map .val) (es:=es) aa aa aa aa aa aa aa aa (cG aa) aa (.inl aa) aa (sA.kp ba (show aK dp bI _ from dA)) aa (hcs.kp ba (show aK dp bI _ from dA)) aa ae ae (λiA cap mQ ρ vC qE fo oc=>wV aa ?_);refine aq ?_;refine VS.eK aa (ns-(i+1)) ae (λw' bM k' o' kc=> ?_);have qC:ax w w':=dP.aA eI o'.1 (λx hx=>by rw[ak.1 hx];exact kP);have hst:fp (ed) 1 9 132 (.row 132 0 (es.length+1) cap) [(132,(9,_))] iA (es++[x.1]):=.inr ⟨_,cap,_,mQ,aa,aa,oc⟩;have eW:=hst.told ba kc (λx hx=>by cases ak.1 hx;rfl) (show aK dp iA w' from k') w.heap.size (λh=>(cH (show fF 150 [b0] bI 132 (bM 132) from h)).elim (λq=>aV qg (aV ig q)) (λq=>by rw[ak.1 q];exact kP));refine⟨[(1,.pointer (some ⟨g1,0,none⟩)),(5,.int .i64 (k:Int)),(6,.pointer (some ⟨g7,0,none⟩)),(3,.slice (some ⟨bM 132,0,none⟩) (es.length+1) cap),(11,.int .i64 ((i+1:Nat):Int))],⟨⟨_,_,aa,aa,aa⟩,⟨_,_,aa,aa,aa⟩,⟨_,_,aa,aa,aa⟩,⟨_,_,aa,aa,aa⟩,⟨_,_,aa,au (λz=>Value.int .i64 z) (bl (i:=i) ae),aa⟩,aj⟩,i+1,_,es++[x.1],ae,aa,aa,qC,(EH.aA aB).but o'.1 (by simp[fm]),(vn.aA aB).but o'.1 (by simp[eL]),eW,by rw[eU hx,hes,gQ];rfl,by rw[bg];omega,by rw[bg];show es.length+1<=_;omega⟩
 refine VS.bC aa (aR (λh=>hlt (aW.1 h))) ?_;obtain rfl:ns=i:=ae;rw[cO (by rw[<-hns];exact aP _)] at hes;refine ag ?_
 refine VS.fL (J:=λm L W=>∃ (i:Nat) (v:Value) (es:List (ByteArray)),i<=nq/\m=nq-i/\L=[(1,.pointer (some ⟨g1,0,none⟩)),(5,.int .i64 (k:Int)),(6,.pointer (some ⟨g7,0,none⟩)),(3,v),(12,.int .i64 (i:Int))]/\ax w W/\aQ W g1 32 #[.string f.name,.string f.parent,.slice pB nB cB,.bool sT,.slice pT nT cT,.bool tT,.slice yT mT dT,.bool sC,.slice pC nC cC,.bool tC,.slice yC mC dC,.int .i64 f.bk,.int .i64 f.fw,.bool sI,.slice pI nI cI,.bool tI,.slice yI mI dI,.bool sF,.slice pF nF cF,.bool tF,.slice yF mF dF,.int .i64 f.kp,.slice pc Nc cc,.slice pe Ne ce,.slice (some ⟨Bx,Bz,none⟩) Ny cy]/\aQ W g7 99 #[.int .i64 y.num,.slice ph nh ch,.slice pb nb cb,.slice pd nd cd,.slice ps ns cs,.slice pq nq cq]/\ay (ed) 1 9 w.heap.size W v es/\es=(E0++y.holds.flatMap rO++y.bn.flatMap rO++y.dE.flatMap LW++y.di.flatMap Rx)++((y.ft).take i).flatMap sdTxt/\2<=es.length/\es.length<=(E0.length+360)+1*i)
  (λW=>aY Tryz.prog W 150) (λ_=>rfl) (λ_=>rfl) (λ_=>ax.refl _) nq (λw' β k' o en=>⟨[(1,.pointer (some ⟨g1,0,none⟩)),(5,.int .i64 (k:Int)),(6,.pointer (some ⟨g7,0,none⟩)),(3,v),(12,.int .i64 ((0:Nat):Int))],⟨⟨_,_,rfl,rfl,rfl⟩,⟨_,_,rfl,rfl,rfl⟩,⟨_,_,rfl,rfl,rfl⟩,⟨_,_,rfl,rfl,rfl⟩,⟨_,_,rfl,rfl,rfl⟩,aj⟩,0,v,es,ae,rfl,rfl,Kw.aG o,EH.aA o,vn.aA o,bD.aA ba o,by rw[iD,nc,eX];exact hes,gN,ae⟩) ?_
 rintro m L wQ ⟨i,v,es,hi,rfl,rfl,Ky,EI,AE,bD,hes,gN,Dm⟩;refine ag ?_;refine VO.read aa [.slice pq nq cq] aa (aX (AE.cell (j:=5) aa)) (wV aa ?_);refine ag ?_;by_cases hlt:i<nq
 ·obtain⟨x,hx⟩:∃ x,(y.ft)[i]? =some x:=⟨_,aH (by rw[<-hnq];exact hlt)⟩;obtain⟨b,off,Bs,rfl,hc,ik⟩:=y5.at hx;obtain⟨s1,p1,n1,c1,t1,xU,m1,d1,rfl,-⟩:=ik
  obtain⟨b0,c0,vs,sp,rfl,kP,cZ,dS,eO,hle,fc,gR⟩:∃ b0 c0 vs sp,v=.slice (some ⟨b0,0,none⟩) es.length c0/\w.heap.size<=b0/\aQ wQ b0 9 (vs.flatten++sp).toArray/\cw (ed) wQ es vs/\sp.all aO=true/\es.length<=c0/\c0<=9223372036854775807/\(vs.flatten++sp).length=c0*1:=by
   rcases bD with ⟨_,dZ⟩|⟨b0,c0,vs,sp,h1,h2,h3,h4,h5,h6,h7,h8⟩
   ·rw[dZ] at gN;simp at gN
   ·exact⟨b0,c0,vs,sp,h1,h2,h3,h4,h5,h6,h7,h8⟩
  have fm:g1≠b0:=λh=>by rw[h] at EI;exact absurd (bL EI cZ) cW
  have eL:g7≠b0:=λh=>by rw[h] at AE;exact absurd (bL AE cZ) cW
  refine VS.bB aa (aU (aW.2 hlt)) ?_;refine VS.cK dp (λt=>Nat.beq t 23) table (λ_ _ _=>trivial) (λbI nA k1 ic qF=> ?_);have aB:ax wQ bI:=ic;have qg:=Ky.size;have ig:=aB.size
  have eh:dv dp 150 [b0] [(9,vs.flatten.map .val++sp.map .val)] bI:=by
   refine⟨aa,cf,λj g' c' hj hc=> ?_,λc' hc=> ?_,λc' hc k hk=> ?_⟩
   ·match j,hj,hc with
    | 0,hj,hc=>cases hj;cases hc;rw[<-aF,az];exact cZ.aA aB
    | j+1,hj,_=>simp at hj
   ·cases ak.1 hc;exact⟨aa,by rw[<-aF];exact aL (by rw[dK,(dS.ok ba).1,eO];rfl)⟩
   ·cases ak.1 hc;rw[<-aF,ah] at hk;cases hk
  have sA:fO (ed) 1 bI es.length c0 vs (sp.map .val) es:=⟨aa,dS.kp ba (Kp.of (U:=UU) aB),aL eO,ah _,hle,fc,by rw[<-aF,aM];exact gR⟩;refine⟨[b0],[(9,vs.flatten.map .val++sp.map .val)],eh,[(1,.val (.pointer (some ⟨g1,0,none⟩))),(5,.val (.int .i64 (k:Int))),(6,.val (.pointer (some ⟨g7,0,none⟩))),(3,.row 300 0 es.length c0),(12,.val (.int .i64 (i:Int)))],⟨⟨_,aa,aa,λi hi=>(by cases hi)⟩,⟨_,aa,aa,λi hi=>(by cases hi)⟩,⟨_,aa,aa,λi hi=>(by cases hi)⟩,⟨_,aa,aa,λi hi=>by rw[(by simpa [AV.ids] using hi:i=300)];exact⟨(by show 300<=300;omega),(by show 300<2*150+1;omega)⟩⟩,⟨_,aa,aa,λi hi=>(by cases hi)⟩,aj⟩,?_⟩;have eI:ax w bI:=Ky.aG aB
  have gA:∀ {b off:Nat} {cs:List Value},(∀ (j:Nat) (u:Value),cs[j]? =some u->w.cell? ((⟨b,off,none⟩:Addr).add j)=some u)->∀ (j:Nat) (u:Value),cs[j]? =some u->Cx.At (jK Tryz.prog bI 150 [b0] eh.nodup eh.ad) ((⟨b,off,none⟩:Addr).add j) u:=λh j u hj=>cD (λhm=>by
   have:=gP w _ (h j u hj);omega) (eI.cell (h j u hj))
  refine aq ?_;refine VO.bJ aa [.slice (some ⟨b,off,none⟩) nq cq] aa (λj u hj=>cD (by rw[Addr.add_mid];exact eL) (aX ((AE.aA aB).cell (j:=5) aa) j u hj)) (wV aa ?_);refine aq ?_;refine VO.cond aa fb ?_;refine wV aa ?_;refine aq ?_;refine VO.bJ aa [.string x.1] aa (gA (bf hc 0 _ ⟨_,aa⟩)) (wV aa ?_);refine aq ?_;have hcs:cw (ed) bI [x.1] [[.string x.1]]:=.cons aa .nil;refine VO.wR (cM _ _) ba (t:=29) (e:=9) (s:=147) (i:=300) (n:=es.length) (c:=c0) (kn:=1) (css:=[[.string x.1]]) (zs:=[x.1]) (vs:=vs) (sp:=sp.map .val) (es:=es) aa aa aa aa aa aa aa aa (cG aa) aa (.inl aa) aa (sA.kp ba (show aK dp bI _ from dA)) aa (hcs.kp ba (show aK dp bI _ from dA)) aa ae ae (λiA cap mQ ρ vC qE fo oc=>wV aa ?_);refine aq ?_;refine VS.eK aa (nq-(i+1)) ae (λw' bM k' o' kc=> ?_);have qC:ax w w':=dP.aA eI o'.1 (λx hx=>by rw[ak.1 hx];exact kP);have hst:fp (ed) 1 9 148 (.row 148 0 (es.length+1) cap) [(148,(9,_))] iA (es++[x.1]):=.inr ⟨_,cap,_,mQ,aa,aa,oc⟩;have eW:=hst.told ba kc (λx hx=>by cases ak.1 hx;rfl) (show aK dp iA w' from k') w.heap.size (λh=>(cH (show fF 150 [b0] bI 148 (bM 148) from h)).elim (λq=>aV qg (aV ig q)) (λq=>by rw[ak.1 q];exact kP));refine⟨[(1,.pointer (some ⟨g1,0,none⟩)),(5,.int .i64 (k:Int)),(6,.pointer (some ⟨g7,0,none⟩)),(3,.slice (some ⟨bM 148,0,none⟩) (es.length+1) cap),(12,.int .i64 ((i+1:Nat):Int))],⟨⟨_,_,aa,aa,aa⟩,⟨_,_,aa,aa,aa⟩,⟨_,_,aa,aa,aa⟩,⟨_,_,aa,aa,aa⟩,⟨_,_,aa,au (λz=>Value.int .i64 z) (bl (i:=i) ae),aa⟩,aj⟩,i+1,_,es++[x.1],ae,aa,aa,qC,(EI.aA aB).but o'.1 (by simp[fm]),(AE.aA aB).but o'.1 (by simp[eL]),eW,by rw[eU hx,hes,gQ];rfl,by rw[bg];omega,by rw[bg];show es.length+1<=_;omega⟩
 refine VS.bC aa (aR (λh=>hlt (aW.1 h))) ?_;obtain rfl:nq=i:=ae;rw[cO (by rw[<-hnq];exact aP _)] at hes;refine ag ?_;refine ag ?_;refine VS.eK aa (Ny-(k+1)) ae (λw' bM k' o' kc=> ?_);refine⟨[(1,.pointer (some ⟨g1,0,none⟩)),(3,v),(5,.int .i64 ((k+1:Nat):Int))],⟨⟨_,_,aa,aa,aa⟩,⟨_,_,aa,aa,aa⟩,⟨_,_,aa,au (λz=>Value.int .i64 z) (bl (i:=k) ae),aa⟩,aj⟩,k+1,v,es,ae,aa,aa,Ky.aG o',EI.aA o',bD.aA ba o',?_,gN,ae⟩;rw[eU hy,hes,hesE];unfold LX;simp only[List.append_assoc]
set_option maxRecDepth 4000
abbrev TFew:TypeId->Bool:=λt=>(Nat.beq t 27 || Nat.beq t 9)
abbrev NP (P:Program) (w:World) (N:Nat):Cx:={ P:=P,w0:=w,N:=N,K:=⟨UU,λ_=>True,λt=>(Nat.beq t 27 || Nat.beq t 9)⟩,SU:=λt=>Nat.beq t 23,ti:=table,keep:=λ_ _=>trivial }
theorem iZ (w:World) (N:Nat):(NP Tryz.prog w N).Ok:=gn
section
variable {F F':Fr} {H H':Hp} {w w1:World} {N:Nat} {l':List Oper} {Q:Exit->Act->World->Prop} {k:List It} {id:Nat} {ops:Array Oper}
theorem cxR4_r (e:kW (NP Tryz.prog w1 N) ops 80 ops.toList F H=(l',F',H')) (h:aE (NP Tryz.prog w1 N) none ops l' (VS (NP Tryz.prog w1 N) Q k) F' H' w):VS (NP Tryz.prog w1 N) Q (.code (.region id ops false)::k) F H w:=VS.region (iZ _ _) (VO.run 80 e h)
end
def FewP (f:kM):Prop:=Rs f/\(∀ x∈iY f,six x)/\∀ x∈Ry f,x.size<=70
theorem dU {P Q:Prop} (h:Q) (i:Q->P:=by intro h;(repeat first|refine wN ?_|refine wP rfl ?_|refine cxR4_r rfl ?_|refine cxR4_d rfl ?_|refine wO rfl rfl ?_);exact h):P:=i h
theorem EJ {P Q X:Prop} (hb:X) (h:Q) (i:X->Q->P:=by intro hb h;refine⟨_,rfl,hb,λa b c=>wV rfl ?_⟩;refine dU ?_;revert a b c;exact h):P:=i hb h
set_option maxRecDepth 8000 in
theorem Few_any (v:Value) (f:kM) (kk:Nat) (w:World) (hv:sB kk w v f):
  Calls Tryz.prog 55 #[v] w λo w'=>∃ b,o=.returned (.bool b)/\(b=true->FewP f)/\ax w w':=by
 have hv0:=hv;obtain⟨pB,nB,cB,sT,pT,nT,cT,tT,yT,mT,dT,sC,pC,nC,cC,tC,yC,mC,dC,sI,pI,nI,cI,tI,yI,mI,dI,sF,pF,nF,cF,tF,yF,mF,dF,pc,Nc,cc,pe,Ne,ce,py,Ny,cy,rfl,h1,h2,h3,h4,h5,h6,h7,h8⟩:=hv;have hnB:nB=f.Fa.length:=by obtain⟨_,_,e,_⟩:=h1.form;cases e;rfl
 have hNc:Nc=f.cls.length:=by obtain⟨_,_,e,_⟩:=h6.form;cases e;rfl
 have hNe:Ne=f.dD.length:=by obtain⟨_,_,e,_⟩:=h7.form;cases e;rfl
 have hNy:Ny=f.jn.length:=by obtain⟨_,_,e,_⟩:=h8.form;cases e;rfl
 refine ai (C:=NP Tryz.prog w _) (args:=[_]) Tryz.func55 aa Tryz.ntmps55 (cG aa) ?_;refine dU ?_;by_cases g1:(nB:Int)>20
 ·refine VO.fix 9 aa (au (λb=>AV.val (.bool b)) (aU g1)) ?_;refine dU ?_;refine VS.ret (iZ _ _) aa aa (λwz kz bz=> ?_);exact⟨_,aa,λh=>(by cases h),bz⟩
 refine VO.fix 9 aa (au (λb=>AV.val (.bool b)) (aR g1)) ?_;refine dU ?_;by_cases g2:(Nc:Int)>70
 ·refine VO.fix 15 aa (au (λb=>AV.val (.bool b)) (aU g2)) ?_;refine dU ?_;refine VS.ret (iZ _ _) aa aa (λwz kz bz=> ?_);exact⟨_,aa,λh=>(by cases h),bz⟩
 refine VO.fix 15 aa (au (λb=>AV.val (.bool b)) (aR g2)) ?_;refine dU ?_;by_cases g3:(Ne:Int)>260
 ·refine VO.fix 21 aa (au (λb=>AV.val (.bool b)) (aU g3)) ?_;refine dU ?_;refine VS.ret (iZ _ _) aa aa (λwz kz bz=> ?_);exact⟨_,aa,λh=>(by cases h),bz⟩
 refine VO.fix 21 aa (au (λb=>AV.val (.bool b)) (aR g3)) ?_;refine dU ?_;by_cases g4:(Ny:Int)>45
 ·refine VS.bB aa (aU g4) ?_;refine dU ?_;refine VS.ret (iZ _ _) aa aa (λwz kz bz=> ?_);exact⟨_,aa,λh=>(by cases h),bz⟩
 refine VS.bC aa (aR g4) ?_;refine dU ?_;refine VS.loop (J:=λm L M w'=>∃ z:Nat,z<=Ny/\m=Ny-z/\L=[(1,.box 1 0),(3,.val (.int .i64 (z:Int)))]/\M=[(1,(32,[.string f.name,.string f.parent,.slice pB nB cB,.bool sT,.slice pT nT cT,.bool tT,.slice yT mT dT,.bool sC,.slice pC nC cC,.bool tC,.slice yC mC dC,.int .i64 f.bk,.int .i64 f.fw,.bool sI,.slice pI nI cI,.bool tI,.slice yI mI dI,.bool sF,.slice pF nF cF,.bool tF,.slice yF mF dF,.int .i64 f.kp,.slice pc Nc cc,.slice pe Ne ce,.slice py Ny cy].map AV.val))]/\∀ (i:Nat) (y:ve),i<z->f.jn[i]? =some y->y.holds.length<=40/\y.bn.length<=40/\y.dE.length<=40/\y.di.length<=40/\y.ft.length<=40) Ny ⟨_,_,?_,?_,?_,?_,⟨0,ae,aa,aa,aa,λi x hi=>ae⟩⟩ ?_
 ·exact lD
 ·exact lD
 ·rfl
 ·exact AZ
 rintro m L M wJ ⟨z,hz,rfl,rfl,rfl,hup⟩;refine dU ?_;by_cases hlt:z<Ny
 rotate_left
 ·refine VS.bC aa (aR (λe=>hlt (aW.1 e))) ?_
  have hS:Rs f:=⟨ae,ae,ae,ae,λy hy=>by
   obtain⟨i,hi⟩:=sE hy;exact hup i y (by have:=(bd.1 hi).1;omega) hi⟩
  refine dU ?_;refine VO.call aa aa (fk Tryz.func127) (λcV eG db=>(Rt _ f kk cV (hv0.aA db) hS).mono ?_);rintro e w1 ⟨r1,rfl,q1,bF⟩;obtain⟨p1,c1,rfl⟩:=q1.form;refine EJ bF ?_;intro fM _ bb1;refine VO.call aa aa (fk Tryz.func126) (λeD gO fG=>(Rr _ _ kk eD ((q1.kp (cP.el kk) (T:=TFew) (show lT TFew w1 eD from dA) aa).sl (cP.el kk))).mono ?_);rintro e w2 ⟨b2,rfl,q2,cJ⟩
  skip
  refine EJ cJ ?_;intro jH _ bb2;cases b2
  ·refine dU ?_;refine VS.ret (iZ _ _) aa aa (λwz kz bz=> ?_);exact⟨_,aa,λh=>(by cases h),bz⟩
  refine dU ?_;refine VO.call aa aa (fk Tryz.func129) (λiG iK jm=>(NN _ f kk iG (hv0.aA jm) hS).mono ?_);rintro e w3 ⟨r3,rfl,q3,ee⟩;obtain⟨p3,c3,rfl⟩:=q3.form;refine EJ ee ?_;intro nH _ bb3;refine VO.call aa aa (fk Tryz.func128) (λmB pE pG=>(Km _ _ mB ((q3.kp ba (T:=TFew) (show lT TFew w3 mB from dA) aa).sl ba)).mono ?_);rintro e w4 ⟨b4,rfl,q4,jJ⟩
  skip
  refine EJ jJ ?_;intro sO _ Ej;refine VS.ret (iZ _ _) aa aa (λwz kz bz=> ?_);exact⟨_,aa,λh=>⟨hS,q2 aa,q4 h⟩,bz⟩
 obtain⟨y,hy⟩:∃ y,f.jn[z]? =some y:=⟨_,aH ae⟩;obtain⟨Bx,Bz,csy,rfl,vE,⟨yh,yb,yd,ys,yq,rfl,y1,y2,y3,y4,y5⟩⟩:=h8.at hy;obtain⟨ph,nh,ch,rfl,hnh⟩:∃ p n c,yh=.slice p n c/\n=y.holds.length:=by obtain⟨p,c,e⟩:=y1.sl;exact⟨_,_,_,e,aa⟩
 obtain⟨pb,nb,cb,rfl,Lb⟩:∃ p n c,yb=.slice p n c/\n=y.bn.length:=by obtain⟨p,c,e⟩:=y2.sl;exact⟨_,_,_,e,aa⟩
 obtain⟨pd,nd,cd,rfl,hnd⟩:∃ p n c,yd=.slice p n c/\n=y.dE.length:=by obtain⟨p,c,e⟩:=y3.sl;exact⟨_,_,_,e,aa⟩
 obtain⟨ps,ns,cs,rfl,hns⟩:∃ p n c,ys=.slice p n c/\n=y.di.length:=by obtain⟨p,c,e⟩:=y4.sl;exact⟨_,_,_,e,aa⟩
 obtain⟨pq,nq,cq,rfl,hnq⟩:∃ p n c,yq=.slice p n c/\n=y.ft.length:=by obtain⟨p,c,e⟩:=y5.sl;exact⟨_,_,_,e,aa⟩
 refine VS.bB aa (aU (aW.2 hlt)) ?_;refine dU ?_;refine VO.cond aa fb ?_;refine wV aa ?_;refine dU ?_;refine VO.read aa [.int .i64 y.num,.slice ph nh ch,.slice pb nb cb,.slice pd nd cd,.slice ps ns cs,.slice pq nq cq] aa (bf vE 0 _ ⟨[],aa⟩) (wV aa ?_);refine dU ?_;by_cases k1:(nh:Int)>40
 ·refine VO.fix 43 aa (au (λb=>AV.val (.bool b)) (aU k1)) ?_;refine dU ?_;refine VS.ret (iZ _ _) aa aa (λwz kz bz=> ?_);exact⟨_,aa,λh=>(by cases h),bz⟩
 refine VO.fix 43 aa (au (λb=>AV.val (.bool b)) (aR k1)) ?_;refine dU ?_;by_cases k2:(nb:Int)>40
 ·refine VO.fix 49 aa (au (λb=>AV.val (.bool b)) (aU k2)) ?_;refine dU ?_;refine VS.ret (iZ _ _) aa aa (λwz kz bz=> ?_);exact⟨_,aa,λh=>(by cases h),bz⟩
 refine VO.fix 49 aa (au (λb=>AV.val (.bool b)) (aR k2)) ?_;refine dU ?_;by_cases k3:(nd:Int)>40
 ·refine VO.fix 55 aa (au (λb=>AV.val (.bool b)) (aU k3)) ?_;refine dU ?_;refine VS.ret (iZ _ _) aa aa (λwz kz bz=> ?_);exact⟨_,aa,λh=>(by cases h),bz⟩
 refine VO.fix 55 aa (au (λb=>AV.val (.bool b)) (aR k3)) ?_;refine dU ?_;by_cases k4:(ns:Int)>40
 ·refine VO.fix 61 aa (au (λb=>AV.val (.bool b)) (aU k4)) ?_;refine dU ?_;refine VS.ret (iZ _ _) aa aa (λwz kz bz=> ?_);exact⟨_,aa,λh=>(by cases h),bz⟩
 refine VO.fix 61 aa (au (λb=>AV.val (.bool b)) (aR k4)) ?_;refine dU ?_;by_cases k5:(nq:Int)>40
 ·refine VS.bB aa (aU k5) ?_;refine dU ?_;refine VS.ret (iZ _ _) aa aa (λwz kz bz=> ?_);exact⟨_,aa,λh=>(by cases h),bz⟩
 refine VS.bC aa (aR k5) ?_;refine dU ?_;refine VS.back (Ny-(z+1)) ae ⟨_,_,?_,?_,?_,?_,⟨z+1,ae,aa,aa,aa,λi x hi hx=> ?_⟩⟩
 ·refine⟨aa,?_,aj⟩;rw[<-bl (i:=z) ae];rfl
 ·exact lD
 ·rfl
 ·exact AZ
 ·by_cases LP:i=z
  ·subst LP;rw[hy] at hx;cases hx;exact⟨ae,ae,ae,ae,ae⟩
  ·exact hup i x ae hx
set_option maxRecDepth 8000 in
theorem NQ (v:Value) (f:kM) (kk:Nat) (w:World) (hv:sB kk w v f):
  Calls Tryz.prog 9 #[v] w λo w'=>∃ b,o=.returned (.bool b)/\(b=true->FewP f/\f.dD.length<=20/\f.cls.length<=20/\f.jn.length<=6)/\ax w w':=by
 have hv0:=hv;obtain⟨pB,nB,cB,sT,pT,nT,cT,tT,yT,mT,dT,sC,pC,nC,cC,tC,yC,mC,dC,sI,pI,nI,cI,tI,yI,mI,dI,sF,pF,nF,cF,tF,yF,mF,dF,pc,Nc,cc,pe,Ne,ce,py,Ny,cy,rfl,h1,h2,h3,h4,h5,h6,h7,h8⟩:=hv;have hNc:Nc=f.cls.length:=by obtain⟨_,_,e,_⟩:=h6.form;cases e;rfl
 have hNe:Ne=f.dD.length:=by obtain⟨_,_,e,_⟩:=h7.form;cases e;rfl
 have hNy:Ny=f.jn.length:=by obtain⟨_,_,e,_⟩:=h8.form;cases e;rfl
 clear h1 h2 h3 h4 h5 h6 h7 h8;refine ai (C:=aY Tryz.prog w _) (args:=[_]) Tryz.func9 aa Tryz.ntmps9 (cG aa) ?_;refine ag ?_;refine VO.call aa aa (fk Tryz.func55) (λcV eG db=>(Few_any _ f kk cV (hv0.aA db)).mono ?_);rintro e w1 ⟨b1,rfl,q1,bF⟩
 skip
 refine dB bF ?_;intro fM _ bb1;cases b1
 ·refine ag ?_;refine ck ?_;intro wz kz bz;exact⟨_,aa,λh=>(by cases h),bz⟩
 refine ag ?_;by_cases g1:(Ne:Int)<=20
 rotate_left
 ·refine VO.fix 11 aa (au (λb=>AV.val (.bool b)) (aR g1)) ?_;refine ag ?_;refine ck ?_;intro wz kz bz;exact⟨_,aa,λh=>(by cases h),bz⟩
 refine VO.fix 11 aa (au (λb=>AV.val (.bool b)) (aU g1)) ?_;refine ag ?_;by_cases g2:(Nc:Int)<=20
 rotate_left
 ·refine VO.fix 17 aa (au (λb=>AV.val (.bool b)) (aR g2)) ?_;refine ag ?_;refine ck ?_;intro wz kz bz;exact⟨_,aa,λh=>(by cases h),bz⟩
 refine VO.fix 17 aa (au (λb=>AV.val (.bool b)) (aU g2)) ?_;refine ag ?_;refine ck ?_;intro wz kz bz;exact⟨_,aa,λh=>⟨q1 aa,ae,ae,by have:=mY h;omega⟩,bz⟩
end
section
open Go.RowKit
def vo (o:Oper):Bool:=match o.op,o.guard,o.dst with | .store _ _ _,none,none=>true|_,_,_=>false
section
variable {C:Cx} {full:Array Oper} {ml:List FuncId} {Q:Exit->Act->World->Prop} {F:Fr} {H:Hp} {w:World} {k:Fr->Hp->World->Prop} {p o q:Oper}
variable {k':Fr->Hp->World->Prop}
theorem NR (hC:C.Ok) (hL:Live C F H w) (h5:aI C.SU ml p≠5) (h:one C (some ml) full p k F H w) (hk:∀ x H' w',Live C (F.bO p.dst x) H' w'->k (F.bO p.dst x) H' w'->k' (F.bO p.dst x) H' w'):one C (some ml) full p k' F H w:=by
 rcases gX (C:=C) (stepOf C full F H p) with hp|⟨Ψp,up,hp⟩|⟨d,hp⟩
 ·unfold one at h;rw[hp] at h;exact h.elim
 ·obtain⟨x,hx,h⟩:=(cQ hp).1 h;exact (cQ hp).2 ⟨x,hx,hk _ _ _ (mz hC hL hp hx) h⟩
 ·have hb:stepOf C full F H p≠.bad:=λe=>by rw[e] at hp;cases hp
  have hd:=(gW hb).1
  have hl:lvl C.SU (some ml) p<=1:=by
   obtain⟨co,_⟩:=jh (ml:=ml) hp;show Gf _<=1;rcases co with e|e|e
   ·rw[e];decide
   ·rw[e];decide
   ·exact absurd e h5
  unfold one at h ⊢;rw[hp] at h ⊢;refine df.mono hL h λr F' H' w2 hL2 FP _ hF hv=> ?_;have e:=hF hl;subst e;refine hk _ _ _ ?_ hv;obtain⟨β,a,w1,hr,yv⟩:=hL2.rel;exact Live.of (hr.put hd FP) yv
theorem NS (hC:C.Ok) (hL:Live C F H w) (h5:aI C.SU ml p≠5) (h:one C (some ml) full p k F H w):∃ x H' w',k (F.bO p.dst x) H' w':=by
 rcases gX (C:=C) (stepOf C full F H p) with hp|⟨Ψp,up,hp⟩|⟨d,hp⟩
 ·unfold one at h;rw[hp] at h;exact h.elim
 ·obtain⟨x,hx,h⟩:=(cQ hp).1 h;exact⟨_,_,_,h⟩
 ·have hl:lvl C.SU (some ml) p<=1:=by
   obtain⟨co,_⟩:=jh (ml:=ml) hp;show Gf _<=1;rcases co with e|e|e
   ·rw[e];decide
   ·rw[e];decide
   ·exact absurd e h5
  unfold one at h;rw[hp] at h;obtain⟨r,F',H',w2,_,hF,hv⟩:=df.some hL h;have e:=hF hl;subst e;exact⟨_,_,_,hv⟩
theorem one_imp (h:one C (some ml) full o k F H w) (hk:∀ F' H' w',k F' H' w'->k' F' H' w'):one C (some ml) full o k' F H w:=by
 unfold one at h ⊢
 split
 ·rename_i e;rw[e] at h;exact hk _ _ _ h
 ·rename_i e;rw[e] at h;obtain⟨cs,h1,h2,h3⟩:=h;exact⟨cs,h1,h2,hk _ _ _ h3⟩
 ·rename_i e;rw[e] at h;obtain⟨vs,h1,h2,h3⟩:=h;exact⟨vs,h1,h2,hk _ _ _ h3⟩
 ·rename_i e;rw[e] at h;exact⟨h.1,hk _ _ _ h.2⟩
 ·rename_i e;rw[e] at h;intro w1 β h1 h2 h3;refine (h w1 β h1 h2 h3).mono ?_;rintro e w2 ⟨bM,r,del,ups,he,FP,yk,tj,hch,hv⟩;exact⟨bM,r,del,ups,he,FP,yk,tj,hch,λa b c ρ fo=>hk _ _ _ (hv a b c ρ fo)⟩
 ·rename_i e;rw[e] at h;exact h
end
section
variable {C:Cx} {ml:List FuncId} {full:Array Oper} {B S J:List Nat} {K:Fr->Hp->World->Prop} {F:Fr} {H:Hp} {w:World} {j:Nat} {r:List Nat} {o:Oper}
end
end
set_option maxRecDepth 4000
section
open Go.RowKit
attribute [local irreducible] aE VS
theorem EK {α:Type} {P:α->Bool}:∀ {l:List α},0<=qd P l->qd P l<l.length
 | [],h=>by unfold qd at h;omega
 | x::r,h=>by
   have ih:=EK (P:=P) (l:=r);unfold qd at h ⊢;rw[tX]
   split
   ·omega
   ·rename_i h1;rw[if_neg h1] at h
    split at h
    ·omega
    ·rename_i h2;rw[if_neg h2];have:=ih ae;omega
section
variable {F F':Fr} {H H':Hp} {w w1:World} {N:Nat} {l':List Oper} {Q:Exit->Act->World->Prop} {k:List It} {id:Nat} {ops:Array Oper}
end
set_option maxRecDepth 4000
variable {cs:List Value} {kk:Nat} {w:World}
theorem lH.rP {x:BrR} (h:lH kk w cs x) (g0:six x.1) (g1:six x.2):lH 6 w cs x:=by
 obtain⟨_,_,_,_,_,_,_,_,_,_,_,_,_,_,_,_,hv,h0,h1⟩:=h;exact⟨_,_,_,_,_,_,_,_,_,_,_,_,_,_,_,_,hv,h0.to g0.1 g0.2,h1.to g1.1 g1.2⟩
theorem lI.rP {x:Au} (h:lI kk w cs x) (g0:six x.2.2):lI 6 w cs x:=by
 obtain⟨_,_,_,_,_,_,_,_,hv,h0,hx⟩:=h;exact⟨_,_,_,_,_,_,_,_,hv,h0.to g0.1 g0.2,hx⟩
theorem dR.rP {x:lg} (h:dR kk w cs x) (g0:six x.2.2):dR 6 w cs x:=by
 obtain⟨_,_,_,_,_,_,_,_,hv,h0⟩:=h;exact⟨_,_,_,_,_,_,_,_,hv,h0.to g0.1 g0.2⟩
theorem mH.rP {x:QU} (h:mH kk w cs x) (g0:six x.Dk):mH 6 w cs x:=by
 obtain⟨_,_,_,_,_,_,_,_,hv,h0,hx⟩:=h;exact⟨_,_,_,_,_,_,_,_,hv,h0.to g0.1 g0.2,hx⟩
theorem mJ.rP {x:QS} (h:mJ kk w cs x) (g0:six x.2.1) (g1:six x.2.2):mJ 6 w cs x:=by
 obtain⟨_,_,_,_,_,_,_,_,_,_,_,_,_,_,_,_,hv,h0,h1⟩:=h;exact⟨_,_,_,_,_,_,_,_,_,_,_,_,_,_,_,_,hv,h0.to g0.1 g0.2,h1.to g1.1 g1.2⟩
theorem mK.rP {x:QT} (h:mK kk w cs x) (g0:six x.2):mK 6 w cs x:=by
 obtain⟨_,_,_,_,_,_,_,_,hv,h0⟩:=h;exact⟨_,_,_,_,_,_,_,_,hv,h0.to g0.1 g0.2⟩
theorem vD.rP {y:ve} (h:vD kk w cs y) (g:∀ x∈lh y,six x):vD 6 w cs y:=by
 obtain⟨a,b,c,d,e,hv,h1,h2,h3,h4,h5⟩:=h;have g1:∀ x∈y.holds,six x.2.2:=λx hx=>g _ (by unfold lh;simp only[List.mem_append,List.mem_flatMap];exact .inl (.inl (.inl (.inl ⟨x,hx,by simp[ke]⟩))));have g2:∀ x∈y.bn,six x.2.2:=λx hx=>g _ (by unfold lh;simp only[List.mem_append,List.mem_flatMap];exact .inl (.inl (.inl (.inr ⟨x,hx,by simp[ke]⟩))));have g3:∀ x∈y.dE,six x.Dk:=λx hx=>g _ (by unfold lh;simp only[List.mem_append,List.mem_flatMap];exact .inl (.inl (.inr ⟨x,hx,by simp[AB]⟩)));have g4:∀ x∈y.di,six x.2.1/\six x.2.2:=λx hx=>⟨g _ (by unfold lh;simp only[List.mem_append,List.mem_flatMap];exact .inl (.inr ⟨x,hx,by simp[AD]⟩)),g _ (by unfold lh;simp only[List.mem_append,List.mem_flatMap];exact .inl (.inr ⟨x,hx,by simp[AD]⟩))⟩;have g5:∀ x∈y.ft,six x.2:=λx hx=>g _ (by unfold lh;simp only[List.mem_append,List.mem_flatMap];exact .inr ⟨x,hx,by simp[Kn]⟩);exact⟨a,b,c,d,e,hv,h1.mono (λi x cs hx h=>h.rP (g1 x (dc hx))),h2.mono (λi x cs hx h=>h.rP (g2 x (dc hx))),h3.mono (λi x cs hx h=>h.rP (g3 x (dc hx))),h4.mono (λi x cs hx h=>h.rP (g4 x (dc hx)).1 (g4 x (dc hx)).2),h5.mono (λi x cs hx h=>h.rP (g5 x (dc hx)))⟩
theorem sB.rP {v:Value} {f:kM} (h:sB kk w v f) (g:∀ x∈iY f,six x):sB 6 w v f:=by
 obtain⟨pB,nB,cB,sT,pT,nT,cT,tT,yT,mT,dT,sC,pC,nC,cC,tC,yC,mC,dC,sI,pI,nI,cI,tI,yI,mI,dI,sF,pF,nF,cF,tF,yF,mF,dF,pc,Nc,cc,pe,Ne,ce,py,Ny,cy,hv,h1,h2,h3,h4,h5,h6,h7,h8⟩:=h;have e1:=g f.On (by unfold iY;simp);have e2:=g f.cap (by unfold iY;simp);have e3:=g f.Oo (by unfold iY;simp);have e4:=g f.Oq (by unfold iY;simp);have g1:∀ x∈f.Fa,six x.1/\six x.2:=λx hx=>⟨g _ (by unfold iY;simp only[List.mem_append,List.mem_flatMap];exact .inl (.inl (.inr ⟨x,hx,by simp[tM]⟩))),g _ (by unfold iY;simp only[List.mem_append,List.mem_flatMap];exact .inl (.inl (.inr ⟨x,hx,by simp[tM]⟩)))⟩;have g2:∀ x∈f.cls,six x.2.2:=λx hx=>g _ (by unfold iY;simp only[List.mem_append,List.mem_flatMap];exact .inl (.inr ⟨x,hx,by simp[AA]⟩));have g3:∀ y∈f.jn,∀ x∈lh y,six x:=λy hy x hx=>g _ (by unfold iY;simp only[List.mem_append,List.mem_flatMap];exact .inr ⟨y,hy,hx⟩);exact⟨pB,nB,cB,sT,pT,nT,cT,tT,yT,mT,dT,sC,pC,nC,cC,tC,yC,mC,dC,sI,pI,nI,cI,tI,yI,mI,dI,sF,pF,nF,cF,tF,yF,mF,dF,pc,Nc,cc,pe,Ne,ce,py,Ny,cy,hv,h1.mono (λi x cs hx h=>h.rP (g1 x (dc hx)).1 (g1 x (dc hx)).2),h2.to e1.1 e1.2,h3.to e2.1 e2.2,h4.to e3.1 e3.2,h5.to e4.1 e4.2,h6.mono (λi x cs hx h=>h.rP (g2 x (dc hx))),h7,h8.mono (λi y cs hy h=>h.rP (g3 y (dc hy)))⟩
section
variable {F F':Fr} {H H':Hp} {w w1:World} {N:Nat} {l':List Oper} {Q:Exit->Act->World->Prop} {k:List It} {id:Nat} {ops:Array Oper}
end
end
section
open Go.RowKit
section
variable {H:Type} {enc:TypeId×Value->H} {w:World} {held:Bool}
variable {x:DataW H×List MemPlace} {cs:List Value} {fuel:Nat}
set_option maxRecDepth 100000 in
theorem NT (h:DataW.trod enc Tryz.prog w 0 (λ_=>true) held fuel 9 cs=some x):∃ s:ByteArray,ed w cs s:=by
 obtain⟨s,e,_,_⟩:=mZ ln h;exact⟨s,e⟩
set_option maxRecDepth 100000 in
theorem Rz (h:DataW.trod enc Tryz.prog w 0 (λ_=>true) held fuel 127 cs=some x):∃ e:BrR,lH gK w cs e:=by
 obtain⟨zs,n,rfl,rfl,hl,iU,hf⟩:=qM Tryz.underlying127 h
 have tj:cs.length=8:=by
  have c:Tryz.prog.cellsOf 127=8:=by kernel_rfl
  rw[c] at hl;exact hl
 have uV:zs.length=2:=iU;obtain⟨z0,jI⟩:∃ z,zs[0]? =some z:=⟨_,aH ae⟩;obtain⟨z1,gu⟩:∃ z,zs[1]? =some z:=⟨_,aH ae⟩;have Ij:Tryz.prog.cellsOf 27=4:=by kernel_rfl
 have h0:=hf 0 _ aa;rw[jI] at h0;change DataW.trod enc Tryz.prog w 0 (λ_=>true) held n 27 ((cs.drop 0).take (Tryz.prog.cellsOf 27))=some z0 at h0;rw[Ij] at h0;have Ik:Tryz.prog.cellsOf 27=4:=by kernel_rfl
 have h1:=hf 1 _ aa;rw[gu] at h1;change DataW.trod enc Tryz.prog w 0 (λ_=>true) held n 27 ((cs.drop 4).take (Tryz.prog.cellsOf 27))=some z1 at h1;rw[Ik] at h1;obtain⟨x0,pA⟩:=gL h0;have Du:=pA;obtain⟨s0,p0,n0,c0,t0,y0,m0,d0,e0,hh0⟩:=pA;rw[e0] at Du;obtain⟨x1,Jz⟩:=gL h1;have hy1:=Jz;obtain⟨s1,p1,n1,c1,t1,y1,m1,d1,e1,hh1⟩:=Jz;rw[e1] at hy1;have a0:cs.drop 0=(cs.drop 0).take 4++cs.drop 4:=bc cs 0 4 4 aa;have a1:cs.drop 4=(cs.drop 4).take 4:=by rw[cO];rw[jN];omega
 have Il:cs=(cs.drop 0).take 4++((cs.drop 4).take 4):=by
  have a:cs=cs.drop 0:=aa;rw[a0] at a;rw[a1] at a;exact a
 rw[Il,e0,e1];exact⟨(x0,x1),_,_,_,_,_,_,_,_,_,_,_,_,_,_,_,_,aa,Du,hy1⟩
set_option maxRecDepth 100000 in
theorem RA (h:DataW.trod enc Tryz.prog w 0 (λ_=>true) held fuel 218 cs=some x):∃ e:lg,dR gK w cs e:=by
 obtain⟨zs,n,rfl,rfl,hl,iU,hf⟩:=qM Tryz.underlying218 h
 have tj:cs.length=6:=by
  have c:Tryz.prog.cellsOf 218=6:=by kernel_rfl
  rw[c] at hl;exact hl
 have uV:zs.length=3:=iU;obtain⟨z0,jI⟩:∃ z,zs[0]? =some z:=⟨_,aH ae⟩;obtain⟨z1,gu⟩:∃ z,zs[1]? =some z:=⟨_,aH ae⟩;obtain⟨z2,jP⟩:∃ z,zs[2]? =some z:=⟨_,aH ae⟩;have Ij:Tryz.prog.cellsOf 9=1:=by kernel_rfl
 have h0:=hf 0 _ aa;rw[jI] at h0;change DataW.trod enc Tryz.prog w 0 (λ_=>true) held n 9 ((cs.drop 0).take (Tryz.prog.cellsOf 9))=some z0 at h0;rw[Ij] at h0;have Ik:Tryz.prog.cellsOf 9=1:=by kernel_rfl
 have h1:=hf 1 _ aa;rw[gu] at h1;change DataW.trod enc Tryz.prog w 0 (λ_=>true) held n 9 ((cs.drop 1).take (Tryz.prog.cellsOf 9))=some z1 at h1;rw[Ik] at h1;have NJ:Tryz.prog.cellsOf 27=4:=by kernel_rfl
 have h2:=hf 2 _ aa;rw[jP] at h2;change DataW.trod enc Tryz.prog w 0 (λ_=>true) held n 27 ((cs.drop 2).take (Tryz.prog.cellsOf 27))=some z2 at h2;rw[NJ] at h2;obtain⟨x0,e0,_,_⟩:=mZ ln h0;obtain⟨x1,e1,_,_⟩:=mZ ln h1;obtain⟨x2,CX⟩:=gL h2;have uV:=CX;obtain⟨s2,p2,n2,c2,t2,y2,m2,d2,e2,hh2⟩:=CX;rw[e2] at uV;have a0:cs.drop 0=(cs.drop 0).take 1++cs.drop 1:=bc cs 0 1 1 aa;have a1:cs.drop 1=(cs.drop 1).take 1++cs.drop 2:=bc cs 1 1 2 aa;have a2:cs.drop 2=(cs.drop 2).take 4:=by rw[cO];rw[jN];omega
 have Il:cs=(cs.drop 0).take 1++((cs.drop 1).take 1++((cs.drop 2).take 4)):=by
  have a:cs=cs.drop 0:=aa;rw[a0] at a;rw[a1] at a;rw[a2] at a;exact a
 rw[Il,e0,e1,e2];exact⟨(x0,x1,x2),_,_,_,_,_,_,_,_,aa,uV⟩
set_option maxRecDepth 100000 in
theorem RB (h:DataW.trod enc Tryz.prog w 0 (λ_=>true) held fuel 103 cs=some x):∃ e:lg,dR gK w cs e:=by
 obtain⟨zs,n,rfl,rfl,hl,iU,hf⟩:=qM Tryz.underlying103 h
 have tj:cs.length=6:=by
  have c:Tryz.prog.cellsOf 103=6:=by kernel_rfl
  rw[c] at hl;exact hl
 have uV:zs.length=3:=iU;obtain⟨z0,jI⟩:∃ z,zs[0]? =some z:=⟨_,aH ae⟩;obtain⟨z1,gu⟩:∃ z,zs[1]? =some z:=⟨_,aH ae⟩;obtain⟨z2,jP⟩:∃ z,zs[2]? =some z:=⟨_,aH ae⟩;have Ij:Tryz.prog.cellsOf 9=1:=by kernel_rfl
 have h0:=hf 0 _ aa;rw[jI] at h0;change DataW.trod enc Tryz.prog w 0 (λ_=>true) held n 9 ((cs.drop 0).take (Tryz.prog.cellsOf 9))=some z0 at h0;rw[Ij] at h0;have Ik:Tryz.prog.cellsOf 9=1:=by kernel_rfl
 have h1:=hf 1 _ aa;rw[gu] at h1;change DataW.trod enc Tryz.prog w 0 (λ_=>true) held n 9 ((cs.drop 1).take (Tryz.prog.cellsOf 9))=some z1 at h1;rw[Ik] at h1;have NJ:Tryz.prog.cellsOf 27=4:=by kernel_rfl
 have h2:=hf 2 _ aa;rw[jP] at h2;change DataW.trod enc Tryz.prog w 0 (λ_=>true) held n 27 ((cs.drop 2).take (Tryz.prog.cellsOf 27))=some z2 at h2;rw[NJ] at h2;obtain⟨x0,e0,_,_⟩:=mZ ln h0;obtain⟨x1,e1,_,_⟩:=mZ ln h1;obtain⟨x2,CX⟩:=gL h2;have uV:=CX;obtain⟨s2,p2,n2,c2,t2,y2,m2,d2,e2,hh2⟩:=CX;rw[e2] at uV;have a0:cs.drop 0=(cs.drop 0).take 1++cs.drop 1:=bc cs 0 1 1 aa;have a1:cs.drop 1=(cs.drop 1).take 1++cs.drop 2:=bc cs 1 1 2 aa;have a2:cs.drop 2=(cs.drop 2).take 4:=by rw[cO];rw[jN];omega
 have Il:cs=(cs.drop 0).take 1++((cs.drop 1).take 1++((cs.drop 2).take 4)):=by
  have a:cs=cs.drop 0:=aa;rw[a0] at a;rw[a1] at a;rw[a2] at a;exact a
 rw[Il,e0,e1,e2];exact⟨(x0,x1,x2),_,_,_,_,_,_,_,_,aa,uV⟩
set_option maxRecDepth 100000 in
theorem RD (h:DataW.trod enc Tryz.prog w 0 (λ_=>true) held fuel 222 cs=some x):∃ e:QU,mH gK w cs e:=by
 obtain⟨zs,n,rfl,rfl,hl,iU,hf⟩:=qM Tryz.underlying222 h
 have tj:cs.length=10:=by
  have c:Tryz.prog.cellsOf 222=10:=by kernel_rfl
  rw[c] at hl;exact hl
 have uV:zs.length=7:=iU;obtain⟨z0,jI⟩:∃ z,zs[0]? =some z:=⟨_,aH ae⟩;obtain⟨z1,gu⟩:∃ z,zs[1]? =some z:=⟨_,aH ae⟩;obtain⟨z2,jP⟩:∃ z,zs[2]? =some z:=⟨_,aH ae⟩;obtain⟨z3,hz3⟩:∃ z,zs[3]? =some z:=⟨_,aH ae⟩;obtain⟨z4,hz4⟩:∃ z,zs[4]? =some z:=⟨_,aH ae⟩;obtain⟨z5,hz5⟩:∃ z,zs[5]? =some z:=⟨_,aH ae⟩;obtain⟨z6,hz6⟩:∃ z,zs[6]? =some z:=⟨_,aH ae⟩;have Ij:Tryz.prog.cellsOf 4=1:=by kernel_rfl
 have h0:=hf 0 _ aa;rw[jI] at h0;change DataW.trod enc Tryz.prog w 0 (λ_=>true) held n 4 ((cs.drop 0).take (Tryz.prog.cellsOf 4))=some z0 at h0;rw[Ij] at h0;have Ik:Tryz.prog.cellsOf 9=1:=by kernel_rfl
 have h1:=hf 1 _ aa;rw[gu] at h1;change DataW.trod enc Tryz.prog w 0 (λ_=>true) held n 9 ((cs.drop 1).take (Tryz.prog.cellsOf 9))=some z1 at h1;rw[Ik] at h1;have NJ:Tryz.prog.cellsOf 5=1:=by kernel_rfl
 have h2:=hf 2 _ aa;rw[jP] at h2;change DataW.trod enc Tryz.prog w 0 (λ_=>true) held n 5 ((cs.drop 2).take (Tryz.prog.cellsOf 5))=some z2 at h2;rw[NJ] at h2;have cc3:Tryz.prog.cellsOf 9=1:=by kernel_rfl
 have h3:=hf 3 _ aa;rw[hz3] at h3;change DataW.trod enc Tryz.prog w 0 (λ_=>true) held n 9 ((cs.drop 3).take (Tryz.prog.cellsOf 9))=some z3 at h3;rw[cc3] at h3;have cc4:Tryz.prog.cellsOf 9=1:=by kernel_rfl
 have h4:=hf 4 _ aa;rw[hz4] at h4;change DataW.trod enc Tryz.prog w 0 (λ_=>true) held n 9 ((cs.drop 4).take (Tryz.prog.cellsOf 9))=some z4 at h4;rw[cc4] at h4;have cc5:Tryz.prog.cellsOf 9=1:=by kernel_rfl
 have h5:=hf 5 _ aa;rw[hz5] at h5;change DataW.trod enc Tryz.prog w 0 (λ_=>true) held n 9 ((cs.drop 5).take (Tryz.prog.cellsOf 9))=some z5 at h5;rw[cc5] at h5;have cc6:Tryz.prog.cellsOf 27=4:=by kernel_rfl
 have h6:=hf 6 _ aa;rw[hz6] at h6;change DataW.trod enc Tryz.prog w 0 (λ_=>true) held n 27 ((cs.drop 6).take (Tryz.prog.cellsOf 27))=some z6 at h6;rw[cc6] at h6;obtain⟨x0,e0,_⟩:=DataW.trod_bool Tryz.underlying4 h0;obtain⟨x1,e1,_,_⟩:=mZ ln h1;obtain⟨k2,e2,_,hk2⟩:=Cc Tryz.underlying5 h2;have hk'2:=u8_wf hk2;obtain⟨x2,rfl⟩:=qG hk'2.1;obtain⟨x3,e3,_,_⟩:=mZ ln h3;obtain⟨x4,e4,_,_⟩:=mZ ln h4;obtain⟨x5,e5,_,_⟩:=mZ ln h5;obtain⟨x6,hx6⟩:=gL h6;have hy6:=hx6;obtain⟨s6,p6,n6,c6,t6,y6,m6,d6,e6,hh6⟩:=hx6;rw[e6] at hy6;have a0:cs.drop 0=(cs.drop 0).take 1++cs.drop 1:=bc cs 0 1 1 aa;have a1:cs.drop 1=(cs.drop 1).take 1++cs.drop 2:=bc cs 1 1 2 aa;have a2:cs.drop 2=(cs.drop 2).take 1++cs.drop 3:=bc cs 2 1 3 aa;have a3:cs.drop 3=(cs.drop 3).take 1++cs.drop 4:=bc cs 3 1 4 aa;have a4:cs.drop 4=(cs.drop 4).take 1++cs.drop 5:=bc cs 4 1 5 aa;have a5:cs.drop 5=(cs.drop 5).take 1++cs.drop 6:=bc cs 5 1 6 aa;have a6:cs.drop 6=(cs.drop 6).take 4:=by rw[cO];rw[jN];omega
 have Il:cs=(cs.drop 0).take 1++((cs.drop 1).take 1++((cs.drop 2).take 1++((cs.drop 3).take 1++((cs.drop 4).take 1++((cs.drop 5).take 1++((cs.drop 6).take 4)))))):=by
  have a:cs=cs.drop 0:=aa;rw[a0] at a;rw[a1] at a;rw[a2] at a;rw[a3] at a;rw[a4] at a;rw[a5] at a;rw[a6] at a;exact a
 rw[Il,e0,e1,e2,e3,e4,e5,e6];exact⟨⟨x0,x1,x2,x3,x4,x5,x6⟩,_,_,_,_,_,_,_,_,aa,hy6,(show x2<256 by omega)⟩
set_option maxRecDepth 100000 in
theorem RE (h:DataW.trod enc Tryz.prog w 0 (λ_=>true) held fuel 226 cs=some x):∃ e:QS,mJ gK w cs e:=by
 obtain⟨zs,n,rfl,rfl,hl,iU,hf⟩:=qM Tryz.underlying226 h
 have tj:cs.length=9:=by
  have c:Tryz.prog.cellsOf 226=9:=by kernel_rfl
  rw[c] at hl;exact hl
 have uV:zs.length=3:=iU;obtain⟨z0,jI⟩:∃ z,zs[0]? =some z:=⟨_,aH ae⟩;obtain⟨z1,gu⟩:∃ z,zs[1]? =some z:=⟨_,aH ae⟩;obtain⟨z2,jP⟩:∃ z,zs[2]? =some z:=⟨_,aH ae⟩;have Ij:Tryz.prog.cellsOf 9=1:=by kernel_rfl
 have h0:=hf 0 _ aa;rw[jI] at h0;change DataW.trod enc Tryz.prog w 0 (λ_=>true) held n 9 ((cs.drop 0).take (Tryz.prog.cellsOf 9))=some z0 at h0;rw[Ij] at h0;have Ik:Tryz.prog.cellsOf 27=4:=by kernel_rfl
 have h1:=hf 1 _ aa;rw[gu] at h1;change DataW.trod enc Tryz.prog w 0 (λ_=>true) held n 27 ((cs.drop 1).take (Tryz.prog.cellsOf 27))=some z1 at h1;rw[Ik] at h1;have NJ:Tryz.prog.cellsOf 27=4:=by kernel_rfl
 have h2:=hf 2 _ aa;rw[jP] at h2;change DataW.trod enc Tryz.prog w 0 (λ_=>true) held n 27 ((cs.drop 5).take (Tryz.prog.cellsOf 27))=some z2 at h2;rw[NJ] at h2;obtain⟨x0,e0,_,_⟩:=mZ ln h0;obtain⟨x1,Jz⟩:=gL h1;have hy1:=Jz;obtain⟨s1,p1,n1,c1,t1,y1,m1,d1,e1,hh1⟩:=Jz;rw[e1] at hy1;obtain⟨x2,CX⟩:=gL h2;have uV:=CX;obtain⟨s2,p2,n2,c2,t2,y2,m2,d2,e2,hh2⟩:=CX;rw[e2] at uV;have a0:cs.drop 0=(cs.drop 0).take 1++cs.drop 1:=bc cs 0 1 1 aa;have a1:cs.drop 1=(cs.drop 1).take 4++cs.drop 5:=bc cs 1 4 5 aa;have a2:cs.drop 5=(cs.drop 5).take 4:=by rw[cO];rw[jN];omega
 have Il:cs=(cs.drop 0).take 1++((cs.drop 1).take 4++((cs.drop 5).take 4)):=by
  have a:cs=cs.drop 0:=aa;rw[a0] at a;rw[a1] at a;rw[a2] at a;exact a
 rw[Il,e0,e1,e2];exact⟨(x0,x1,x2),_,_,_,_,_,_,_,_,_,_,_,_,_,_,_,_,aa,hy1,uV⟩
set_option maxRecDepth 100000 in
theorem RF (h:DataW.trod enc Tryz.prog w 0 (λ_=>true) held fuel 230 cs=some x):∃ e:QT,mK gK w cs e:=by
 obtain⟨zs,n,rfl,rfl,hl,iU,hf⟩:=qM Tryz.underlying230 h
 have tj:cs.length=5:=by
  have c:Tryz.prog.cellsOf 230=5:=by kernel_rfl
  rw[c] at hl;exact hl
 have uV:zs.length=2:=iU;obtain⟨z0,jI⟩:∃ z,zs[0]? =some z:=⟨_,aH ae⟩;obtain⟨z1,gu⟩:∃ z,zs[1]? =some z:=⟨_,aH ae⟩;have Ij:Tryz.prog.cellsOf 9=1:=by kernel_rfl
 have h0:=hf 0 _ aa;rw[jI] at h0;change DataW.trod enc Tryz.prog w 0 (λ_=>true) held n 9 ((cs.drop 0).take (Tryz.prog.cellsOf 9))=some z0 at h0;rw[Ij] at h0;have Ik:Tryz.prog.cellsOf 27=4:=by kernel_rfl
 have h1:=hf 1 _ aa;rw[gu] at h1;change DataW.trod enc Tryz.prog w 0 (λ_=>true) held n 27 ((cs.drop 1).take (Tryz.prog.cellsOf 27))=some z1 at h1;rw[Ik] at h1;obtain⟨x0,e0,_,_⟩:=mZ ln h0;obtain⟨x1,Jz⟩:=gL h1;have hy1:=Jz;obtain⟨s1,p1,n1,c1,t1,y1,m1,d1,e1,hh1⟩:=Jz;rw[e1] at hy1;have a0:cs.drop 0=(cs.drop 0).take 1++cs.drop 1:=bc cs 0 1 1 aa;have a1:cs.drop 1=(cs.drop 1).take 4:=by rw[cO];rw[jN];omega
 have Il:cs=(cs.drop 0).take 1++((cs.drop 1).take 4):=by
  have a:cs=cs.drop 0:=aa;rw[a0] at a;rw[a1] at a;exact a
 rw[Il,e0,e1];exact⟨(x0,x1),_,_,_,_,_,_,_,_,aa,hy1⟩
set_option maxRecDepth 100000 in
theorem RG (h:DataW.trod enc Tryz.prog w 0 (λ_=>true) held fuel 99 cs=some x):∃ e:ve,vD gK w cs e:=by
 obtain⟨zs,n,rfl,rfl,hl,iU,hf⟩:=qM Tryz.underlying99 h
 have tj:cs.length=6:=by
  have c:Tryz.prog.cellsOf 99=6:=by kernel_rfl
  rw[c] at hl;exact hl
 have uV:zs.length=6:=iU;obtain⟨z0,jI⟩:∃ z,zs[0]? =some z:=⟨_,aH ae⟩;obtain⟨z1,gu⟩:∃ z,zs[1]? =some z:=⟨_,aH ae⟩;obtain⟨z2,jP⟩:∃ z,zs[2]? =some z:=⟨_,aH ae⟩;obtain⟨z3,hz3⟩:∃ z,zs[3]? =some z:=⟨_,aH ae⟩;obtain⟨z4,hz4⟩:∃ z,zs[4]? =some z:=⟨_,aH ae⟩;obtain⟨z5,hz5⟩:∃ z,zs[5]? =some z:=⟨_,aH ae⟩;have Ij:Tryz.prog.cellsOf 3=1:=by kernel_rfl
 have h0:=hf 0 _ aa;rw[jI] at h0;change DataW.trod enc Tryz.prog w 0 (λ_=>true) held n 3 ((cs.drop 0).take (Tryz.prog.cellsOf 3))=some z0 at h0;rw[Ij] at h0;have Ik:Tryz.prog.cellsOf 93=1:=by kernel_rfl
 have h1:=hf 1 _ aa;rw[gu] at h1;change DataW.trod enc Tryz.prog w 0 (λ_=>true) held n 93 ((cs.drop 1).take (Tryz.prog.cellsOf 93))=some z1 at h1;rw[Ik] at h1;have NJ:Tryz.prog.cellsOf 94=1:=by kernel_rfl
 have h2:=hf 2 _ aa;rw[jP] at h2;change DataW.trod enc Tryz.prog w 0 (λ_=>true) held n 94 ((cs.drop 2).take (Tryz.prog.cellsOf 94))=some z2 at h2;rw[NJ] at h2;have cc3:Tryz.prog.cellsOf 95=1:=by kernel_rfl
 have h3:=hf 3 _ aa;rw[hz3] at h3;change DataW.trod enc Tryz.prog w 0 (λ_=>true) held n 95 ((cs.drop 3).take (Tryz.prog.cellsOf 95))=some z3 at h3;rw[cc3] at h3;have cc4:Tryz.prog.cellsOf 96=1:=by kernel_rfl
 have h4:=hf 4 _ aa;rw[hz4] at h4;change DataW.trod enc Tryz.prog w 0 (λ_=>true) held n 96 ((cs.drop 4).take (Tryz.prog.cellsOf 96))=some z4 at h4;rw[cc4] at h4;have cc5:Tryz.prog.cellsOf 97=1:=by kernel_rfl
 have h5:=hf 5 _ aa;rw[hz5] at h5;change DataW.trod enc Tryz.prog w 0 (λ_=>true) held n 97 ((cs.drop 5).take (Tryz.prog.cellsOf 97))=some z5 at h5;rw[cc5] at h5;obtain⟨x0,e0,_,Cq⟩:=Cc yL h0;obtain⟨p1,n1,d1,x1,e1,g1⟩:=jF (E:=dR gK) (sz:=6) Tryz.underlying93 (by kernel_rfl) ae (λh=>RA h) h1;obtain⟨p2,n2,d2,x2,e2,g2⟩:=jF (E:=dR gK) (sz:=6) Tryz.underlying94 (by kernel_rfl) ae (λh=>RB h) h2;obtain⟨p3,n3,d3,x3,e3,g3⟩:=jF (E:=mH gK) (sz:=10) Tryz.underlying95 (by kernel_rfl) ae (λh=>RD h) h3;obtain⟨p4,n4,d4,x4,e4,g4⟩:=jF (E:=mJ gK) (sz:=9) Tryz.underlying96 (by kernel_rfl) ae (λh=>RE h) h4;obtain⟨p5,n5,d5,x5,e5,g5⟩:=jF (E:=mK gK) (sz:=5) Tryz.underlying97 (by kernel_rfl) ae (λh=>RF h) h5;have a0:cs.drop 0=(cs.drop 0).take 1++cs.drop 1:=bc cs 0 1 1 aa;have a1:cs.drop 1=(cs.drop 1).take 1++cs.drop 2:=bc cs 1 1 2 aa;have a2:cs.drop 2=(cs.drop 2).take 1++cs.drop 3:=bc cs 2 1 3 aa;have a3:cs.drop 3=(cs.drop 3).take 1++cs.drop 4:=bc cs 3 1 4 aa;have a4:cs.drop 4=(cs.drop 4).take 1++cs.drop 5:=bc cs 4 1 5 aa;have a5:cs.drop 5=(cs.drop 5).take 1:=by rw[cO];rw[jN];omega
 have Il:cs=(cs.drop 0).take 1++((cs.drop 1).take 1++((cs.drop 2).take 1++((cs.drop 3).take 1++((cs.drop 4).take 1++((cs.drop 5).take 1))))):=by
  have a:cs=cs.drop 0:=aa;rw[a0] at a;rw[a1] at a;rw[a2] at a;rw[a3] at a;rw[a4] at a;rw[a5] at a;exact a
 rw[Il,e0,e1,e2,e3,e4,e5];exact⟨⟨x0,x1,x2,x3,x4,x5⟩,_,_,_,_,_,aa,g1,g2,g3,g4,g5⟩
set_option maxRecDepth 100000 in
theorem RH (h:DataW.trod enc Tryz.prog w 0 (λ_=>true) held fuel 32 cs=some x):∃ e:kM,sB gK w (.agg cs.toArray) e:=by
 obtain⟨zs,n,rfl,rfl,hl,iU,hf⟩:=qM Tryz.underlying32 h
 have tj:cs.length=25:=by
  have c:Tryz.prog.cellsOf 32=25:=by kernel_rfl
  rw[c] at hl;exact hl
 have uV:zs.length=13:=iU;obtain⟨z0,jI⟩:∃ z,zs[0]? =some z:=⟨_,aH ae⟩;obtain⟨z1,gu⟩:∃ z,zs[1]? =some z:=⟨_,aH ae⟩;obtain⟨z2,jP⟩:∃ z,zs[2]? =some z:=⟨_,aH ae⟩;obtain⟨z3,hz3⟩:∃ z,zs[3]? =some z:=⟨_,aH ae⟩;obtain⟨z4,hz4⟩:∃ z,zs[4]? =some z:=⟨_,aH ae⟩;obtain⟨z5,hz5⟩:∃ z,zs[5]? =some z:=⟨_,aH ae⟩;obtain⟨z6,hz6⟩:∃ z,zs[6]? =some z:=⟨_,aH ae⟩;obtain⟨z7,hz7⟩:∃ z,zs[7]? =some z:=⟨_,aH ae⟩;obtain⟨z8,hz8⟩:∃ z,zs[8]? =some z:=⟨_,aH ae⟩;obtain⟨z9,hz9⟩:∃ z,zs[9]? =some z:=⟨_,aH ae⟩;obtain⟨z10,hz10⟩:∃ z,zs[10]? =some z:=⟨_,aH ae⟩;obtain⟨z11,hz11⟩:∃ z,zs[11]? =some z:=⟨_,aH ae⟩;obtain⟨z12,hz12⟩:∃ z,zs[12]? =some z:=⟨_,aH ae⟩;have Ij:Tryz.prog.cellsOf 9=1:=by kernel_rfl
 have h0:=hf 0 _ aa;rw[jI] at h0;change DataW.trod enc Tryz.prog w 0 (λ_=>true) held n 9 ((cs.drop 0).take (Tryz.prog.cellsOf 9))=some z0 at h0;rw[Ij] at h0;have Ik:Tryz.prog.cellsOf 9=1:=by kernel_rfl
 have h1:=hf 1 _ aa;rw[gu] at h1;change DataW.trod enc Tryz.prog w 0 (λ_=>true) held n 9 ((cs.drop 1).take (Tryz.prog.cellsOf 9))=some z1 at h1;rw[Ik] at h1;have NJ:Tryz.prog.cellsOf 22=1:=by kernel_rfl
 have h2:=hf 2 _ aa;rw[jP] at h2;change DataW.trod enc Tryz.prog w 0 (λ_=>true) held n 22 ((cs.drop 2).take (Tryz.prog.cellsOf 22))=some z2 at h2;rw[NJ] at h2;have cc3:Tryz.prog.cellsOf 27=4:=by kernel_rfl
 have h3:=hf 3 _ aa;rw[hz3] at h3;change DataW.trod enc Tryz.prog w 0 (λ_=>true) held n 27 ((cs.drop 3).take (Tryz.prog.cellsOf 27))=some z3 at h3;rw[cc3] at h3;have cc4:Tryz.prog.cellsOf 27=4:=by kernel_rfl
 have h4:=hf 4 _ aa;rw[hz4] at h4;change DataW.trod enc Tryz.prog w 0 (λ_=>true) held n 27 ((cs.drop 7).take (Tryz.prog.cellsOf 27))=some z4 at h4;rw[cc4] at h4;have cc5:Tryz.prog.cellsOf 3=1:=by kernel_rfl
 have h5:=hf 5 _ aa;rw[hz5] at h5;change DataW.trod enc Tryz.prog w 0 (λ_=>true) held n 3 ((cs.drop 11).take (Tryz.prog.cellsOf 3))=some z5 at h5;rw[cc5] at h5;have cc6:Tryz.prog.cellsOf 3=1:=by kernel_rfl
 have h6:=hf 6 _ aa;rw[hz6] at h6;change DataW.trod enc Tryz.prog w 0 (λ_=>true) held n 3 ((cs.drop 12).take (Tryz.prog.cellsOf 3))=some z6 at h6;rw[cc6] at h6;have cc7:Tryz.prog.cellsOf 27=4:=by kernel_rfl
 have h7:=hf 7 _ aa;rw[hz7] at h7;change DataW.trod enc Tryz.prog w 0 (λ_=>true) held n 27 ((cs.drop 13).take (Tryz.prog.cellsOf 27))=some z7 at h7;rw[cc7] at h7;have cc8:Tryz.prog.cellsOf 27=4:=by kernel_rfl
 have h8:=hf 8 _ aa;rw[hz8] at h8;change DataW.trod enc Tryz.prog w 0 (λ_=>true) held n 27 ((cs.drop 17).take (Tryz.prog.cellsOf 27))=some z8 at h8;rw[cc8] at h8;have cc9:Tryz.prog.cellsOf 3=1:=by kernel_rfl
 have h9:=hf 9 _ aa;rw[hz9] at h9;change DataW.trod enc Tryz.prog w 0 (λ_=>true) held n 3 ((cs.drop 21).take (Tryz.prog.cellsOf 3))=some z9 at h9;rw[cc9] at h9;have cc10:Tryz.prog.cellsOf 28=1:=by kernel_rfl
 have h10:=hf 10 _ aa;rw[hz10] at h10;change DataW.trod enc Tryz.prog w 0 (λ_=>true) held n 28 ((cs.drop 22).take (Tryz.prog.cellsOf 28))=some z10 at h10;rw[cc10] at h10;have cc11:Tryz.prog.cellsOf 29=1:=by kernel_rfl
 have h11:=hf 11 _ aa;rw[hz11] at h11;change DataW.trod enc Tryz.prog w 0 (λ_=>true) held n 29 ((cs.drop 23).take (Tryz.prog.cellsOf 29))=some z11 at h11;rw[cc11] at h11;have cc12:Tryz.prog.cellsOf 30=1:=by kernel_rfl
 have Nd:=hf 12 _ aa;rw[hz12] at Nd;change DataW.trod enc Tryz.prog w 0 (λ_=>true) held n 30 ((cs.drop 24).take (Tryz.prog.cellsOf 30))=some z12 at Nd;rw[cc12] at Nd;obtain⟨x0,e0,_,_⟩:=mZ ln h0;obtain⟨x1,e1,_,_⟩:=mZ ln h1;obtain⟨p2,n2,d2,x2,e2,g2⟩:=jF (E:=lH gK) (sz:=8) Tryz.underlying22 (by kernel_rfl) ae (λh=>Rz h) h2;obtain⟨x3,hx3⟩:=gL h3;have hy3:=hx3;obtain⟨s3,p3,n3,c3,t3,y3,m3,d3,e3,hh3⟩:=hx3;rw[e3] at hy3;obtain⟨x4,lE⟩:=gL h4;have yf:=lE;obtain⟨s4,p4,n4,c4,t4,y4,m4,d4,e4,hh4⟩:=lE;rw[e4] at yf;obtain⟨x5,e5,_,hk5⟩:=Cc yL h5;obtain⟨x6,e6,_,hk6⟩:=Cc yL h6;obtain⟨x7,hx7⟩:=gL h7;have hy7:=hx7;obtain⟨s7,p7,n7,c7,t7,y7,m7,d7,e7,hh7⟩:=hx7;rw[e7] at hy7;obtain⟨x8,hx8⟩:=gL h8;have hy8:=hx8;obtain⟨s8,p8,n8,c8,t8,y8,m8,d8,e8,hh8⟩:=hx8;rw[e8] at hy8;obtain⟨x9,e9,_,hk9⟩:=Cc yL h9;obtain⟨p10,n10,d10,x10,e10,g10⟩:=jF (E:=lI gK) (sz:=6) Tryz.underlying28 (by kernel_rfl) ae (λh=>Rl h) h10;obtain⟨p11,n11,d11,x11,e11,g11⟩:=jF (E:=ed) (sz:=1) Tryz.underlying29 (by kernel_rfl) ae (λh=>NT h) h11;obtain⟨p12,n12,d12,x12,e12,g12⟩:=jF (E:=vD gK) (sz:=6) Tryz.underlying30 (by kernel_rfl) ae (λh=>RG h) Nd;have a0:cs.drop 0=(cs.drop 0).take 1++cs.drop 1:=bc cs 0 1 1 aa;have a1:cs.drop 1=(cs.drop 1).take 1++cs.drop 2:=bc cs 1 1 2 aa;have a2:cs.drop 2=(cs.drop 2).take 1++cs.drop 3:=bc cs 2 1 3 aa;have a3:cs.drop 3=(cs.drop 3).take 4++cs.drop 7:=bc cs 3 4 7 aa;have a4:cs.drop 7=(cs.drop 7).take 4++cs.drop 11:=bc cs 7 4 11 aa;have a5:cs.drop 11=(cs.drop 11).take 1++cs.drop 12:=bc cs 11 1 12 aa;have a6:cs.drop 12=(cs.drop 12).take 1++cs.drop 13:=bc cs 12 1 13 aa;have a7:cs.drop 13=(cs.drop 13).take 4++cs.drop 17:=bc cs 13 4 17 aa;have a8:cs.drop 17=(cs.drop 17).take 4++cs.drop 21:=bc cs 17 4 21 aa;have a9:cs.drop 21=(cs.drop 21).take 1++cs.drop 22:=bc cs 21 1 22 aa;have a10:cs.drop 22=(cs.drop 22).take 1++cs.drop 23:=bc cs 22 1 23 aa;have a11:cs.drop 23=(cs.drop 23).take 1++cs.drop 24:=bc cs 23 1 24 aa;have a12:cs.drop 24=(cs.drop 24).take 1:=by rw[cO];rw[jN];omega
 have Il:cs=(cs.drop 0).take 1++((cs.drop 1).take 1++((cs.drop 2).take 1++((cs.drop 3).take 4++((cs.drop 7).take 4++((cs.drop 11).take 1++((cs.drop 12).take 1++((cs.drop 13).take 4++((cs.drop 17).take 4++((cs.drop 21).take 1++((cs.drop 22).take 1++((cs.drop 23).take 1++((cs.drop 24).take 1)))))))))))):=by
  have a:cs=cs.drop 0:=aa;rw[a0] at a;rw[a1] at a;rw[a2] at a;rw[a3] at a;rw[a4] at a;rw[a5] at a;rw[a6] at a;rw[a7] at a;rw[a8] at a;rw[a9] at a;rw[a10] at a;rw[a11] at a;rw[a12] at a;exact a
 rw[Il,e0,e1,e2,e3,e4,e5,e6,e7,e8,e9,e10,e11,e12];exact⟨⟨x0,x1,x2,x3,x4,x5,x6,x7,x8,x9,x10,x11,x12⟩,_,_,_,_,_,_,_,_,_,_,_,_,_,_,_,_,_,_,_,_,_,_,_,_,_,_,_,_,_,_,_,_,_,_,_,_,_,_,_,_,_,_,_,_,aa,g2,hy3,yf,hy7,hy8,g10,g11,g12⟩
set_option maxRecDepth 100000 in
theorem EL {v:Value} {d:DataW H} {ps:List MemPlace} {r:_root_.Go.Reach} {b0:Nat} (hv:Value.okWide Tryz.prog w r b0 32 v) (h:DataW.Trod enc Tryz.prog w 0 (λ_=>true) held 32 v d ps):∃ f:kM,sB gK w v f:=by
 obtain⟨cs,rfl,_⟩:=WideShapes.okWide_struct Tryz.underlying32 hv;obtain⟨fuel,hf⟩:=h;obtain⟨e,he⟩:=RH hf;exact⟨e,by simpa [Value.cells] using he⟩
end
section
variable {C:Cx} {full:Array Oper} {ml:List FuncId} {Q:Exit->Act->World->Prop} {F:Fr} {H:Hp} {w:World} {k:Fr->Hp->World->Prop} {p o q:Oper}
def LdR (C:Cx) (J:List (Nat×Nat×Nat×Nat)) (n:Nat) (F:Fr) (o:Oper):Prop:=∃ t x j a i,o.op=.load t x/\(ev F x=some (.box j a)\/ev F x=some (.nV j a))/\C.ti t=some i/\∀ e∈J,e.1=n->e.2.1=j->a+i.size<=e.2.2.1\/e.2.2.1+e.2.2.2<=a
def StR (C:Cx) (J:List (Nat×Nat×Nat×Nat)) (n:Nat) (F:Fr) (o:Oper):Prop:=∃ t x y j b i,o.op=.store t x y/\(ev F x=some (.box j b)\/ev F x=some (.nV j b))/\C.ti t=some i/\(n,j,b,i.size)∈J
variable {cs v:List AV} {a m:Nat}
theorem Iq {n b:Nat} (hv:v.length=m) (hb:b+m<=cs.length) (hd:a+n<=b\/b+m<=a) (k:Nat) (hk:k<n):(cs.take b++(v++cs.drop (b+m)))[a+k]? =cs[a+k]? :=by
 rcases hd with h|h
 ·rw[jo (by rw[cE];omega),qK,if_pos ae]
 ·rw[mS (by rw[cE];omega),cE,mS ae,oo]
  congr 1
  omega
theorem mid_len {b:Nat} (hv:v.length=m) (hb:b+m<=cs.length):(cs.take b++(v++cs.drop (b+m))).length=cs.length:=by
 rw[bg,bg,cE,jN];omega
variable {i:TI}
theorem RI {b:Nat} (hv:v.length=m) (hb:b+m<=cs.length) (hd:a+i.size<=b\/b+m<=a):qY i (cs.take b++(v++cs.drop (b+m))) a=qY i cs a:=by
 have h:((cs.take b++(v++cs.drop (b+m))).drop a).take i.size=(cs.drop a).take i.size:=by
  apply qk;intro k;rw[qK,qK]
  split
  ·rename_i hk;rw[oo,oo];exact Iq hv hb hd k hk
  ·rfl
 unfold qY;rw[h,mid_len hv hb]
variable {j:Nat} {x:Operand} {t:TypeId}
theorem act_st {y:Operand} {b:Nat} (hop:o.op=.store t x y) (hx:ev F x=some (.box j b)\/ev F x=some (.nV j b)) (ht:C.ti t=some i):
  act C F H o=.bad\/∃ tb cs v Ψ,H j=some (tb,cs)/\(cellsOf v).length=i.size/\(act C F H o).still C=some (Ψ,some (j,(tb,cs.take b++(cellsOf v++cs.drop (b+i.size)))))/\∀ y,Ψ y->b+i.size<=cs.length:=by
 unfold act;rw[hop]
 dsimp only
 rcases hx with hx|hx
 ·rw[hx,ht];cases hy:ev F y with
  | none=>exact .inl aa
  | some v=>
    dsimp only
    cases hh:H j with
    | none=>exact .inl aa
    | some u=>
      obtain⟨tb,cs⟩:=u
      dsimp only
      rcases Plain.pS i j tb cs b v with e|⟨v',u',e⟩
      ·exact .inl e
      ·obtain⟨h1,h2,_,rfl,rfl⟩:=zy e;exact .inr ⟨tb,cs,v,_,aa,h2,by rw[e];rfl,λ_ _=>h1⟩
 ·rw[hx,ht];cases hy:ev F y with
  | none=>exact .inl aa
  | some v=>
    dsimp only
    cases hh:H j with
    | none=>exact .inl aa
    | some u=>
      obtain⟨tb,cs⟩:=u
      dsimp only
      unfold CA;cases hb:Nat.beq (cellsOf v).length i.size && (cellsOf v).all bm with
      | false=>exact .inl aa
      | true=>
        rw[gF] at hb;exact .inr ⟨tb,cs,v,_,aa,lW hb.1,aa,λ_ h=>h.1⟩
theorem act_ld {j' b:Nat} {tb:TypeId} {Ψ:AV->Prop} (hop:q.op=.load t x) (hx:ev F x=some (.box j a)\/ev F x=some (.nV j a)) (ht:C.ti t=some i) (hH:H j'=some (tb,cs)) (hv:v.length=m) (hb:b+m<=cs.length) (hd:j'=j->a+i.size<=b\/b+m<=a) (hs:(act C F H q).still C=some (Ψ,none)):
  True/\∃ Ψ2,(act C F (H.put j' (tb,cs.take b++(v++cs.drop (b+m)))) q).still C=some (Ψ2,none)/\∀ x,Ψ x->Ψ2 x:=by
 obtain⟨H',hH'⟩:∃ H',H'=H.put j' (tb,cs.take b++(v++cs.drop (b+m))):=⟨_,aa⟩;rw[<-hH'];unfold act at hs ⊢;rw[hop] at hs ⊢
 dsimp only at hs ⊢
 by_cases hj:j'=j
 ·subst hj;have h2:H' j'=some (tb,cs.take b++(v++cs.drop (b+m))):=by rw[hH',Hp.du,if_pos rfl]
  have Og:=hd aa;rcases hx with hx|hx
  ·rw[hx,ht] at hs ⊢
   dsimp only at hs ⊢
   rw[hH] at hs;rw[h2]
   dsimp only at hs ⊢
   rw[RI hv hb Og];exact⟨aj,_,hs,λ_ h=>h⟩
  ·rw[hx,ht] at hs ⊢
   dsimp only at hs ⊢
   rw[hH] at hs;rw[h2]
   dsimp only at hs ⊢
   cases hs;refine⟨aj,_,aa,?_⟩;rintro x ⟨vs,h1,h3,h4⟩;refine⟨vs,h1,λk w hk=> ?_,h4⟩;rw[Iq hv hb Og k (by rw[<-h1];exact (bd.1 hk).1)];exact h3 k w hk
 ·have h2:H' j=H j:=by rw[hH',Hp.du,if_neg (λe=>hj e.symm)]
  rcases hx with hx|hx
  ·rw[hx,ht] at hs ⊢
   dsimp only at hs ⊢
   rw[h2];cases hh:H j with
   | none=>rw[hh] at hs;cases hs
   | some c=>
     obtain⟨tc,cc⟩:=c;rw[hh] at hs
     dsimp only at hs ⊢
     exact⟨aj,_,hs,λ_ h=>h⟩
  ·rw[hx,ht] at hs ⊢
   dsimp only at hs ⊢
   rw[h2];cases hh:H j with
   | none=>rw[hh] at hs;cases hs
   | some c=>
     obtain⟨tc,cc⟩:=c;rw[hh] at hs
     dsimp only at hs ⊢
     cases hs;exact⟨aj,_,aa,λ_ h=>h⟩
variable {J:List (Nat×Nat×Nat×Nat)}
theorem swapR {n:Nat} (hL:Live C F H w) (ha:q.apart full o=true) (hq:LdR C J n F q) (ho:StR C J n F o) (hs:vo o=true) (h:one C (some ml) full q (one C (some ml) full o k) F H w):one C (some ml) full o (one C (some ml) full q k) F H w:=by
 obtain⟨a1,a2,a3⟩:=Oper.apart_spec ha;obtain⟨t,x,y,j,b,i,hop,hx,ht,hJ⟩:=ho;obtain⟨t',x',j',a,i',hop',yu,ht',hdis⟩:=hq
 have hg:o.guard=none/\o.dst=none:=by
  unfold vo at hs;rw[hop] at hs
  revert hs
  cases o.guard <;> cases o.dst <;> simp
 have eO:stepOf C full F H o=act C F H o:=by
  unfold stepOf wants lC;rw[hg.1,hg.2];rfl
 have hqb:stepOf C full F H q≠.bad:=λe=>by unfold one at h;rw[e] at h;exact h
 obtain⟨hdq,hw⟩:=gW hqb
 have RJ:∀ H',(stepOf C full F H q=.eZ (.val undef) none/\stepOf C full F H' q=.eZ (.val undef) none)\/(stepOf C full F H q=act C F H q/\stepOf C full F H' q=act C F H' q):=λH'=>by
  rcases hw with ⟨w1,e⟩|⟨w1,e⟩
  ·refine .inl ⟨e,?_⟩;unfold stepOf;rw[hdq,w1];rfl
  ·refine .inr ⟨e,?_⟩;unfold stepOf;rw[hdq,w1];rfl
 have hstill:∃ Ψ u,(stepOf C full F H q).still C=some (Ψ,u):=by
  rcases gX (C:=C) (stepOf C full F H q) with e|e|⟨d,e⟩
  ·exact absurd e hqb
  ·exact e
  ·exfalso;rcases RJ H with ⟨e1,_⟩|⟨e1,_⟩
   ·rw[e1] at e;cases e
   ·rw[e1] at e;unfold act at e;rw[hop'] at e
    dsimp only at e
    rcases yu with yu |yu
    ·rw[yu,ht'] at e
     dsimp only at e
     cases hh:H j' with
     | none=>rw[hh] at e;cases e
     | some c=>
       rw[hh] at e
       dsimp only at e
       rcases Plain.qY i' c.2 a with e2|⟨v',_,e2⟩
       ·rw[e2] at e;cases e
       ·rw[e2] at e;cases e
    ·rw[yu,ht'] at e
     dsimp only at e
     cases hh:H j' with
     | none=>rw[hh] at e;cases e
     | some c=>rw[hh] at e;cases e
 obtain⟨Ψ,u,La⟩:=hstill
 have hun:u=none:=by
  rcases RJ H with ⟨e1,_⟩|⟨e1,_⟩
  ·rw[e1] at La;cases La;rfl
  ·rcases fX (ml:=ml) La with e|e|⟨e,_⟩
   ·exact e
   ·unfold aI at e;rw[hop'] at e;cases e
   ·unfold aI at e;rw[hop'] at e;cases e
 subst hun;obtain⟨z,hz,h2⟩:=(cQ La).1 h;have hsp:stepOf C full (F.bO q.dst z) H o=act C F H o:=(ea a1).trans eO;rcases act_st (C:=C) (F:=F) (H:=H) hop hx ht with hb|⟨tb,cs,v,Ψo,hH,hvl,hos,hle⟩
 ·exfalso;unfold one at h2;rw[show stepOf C full (F.bO q.dst z) (H.upd none) o=.bad from hsp.trans hb] at h2;exact h2
 ·have h2':one C (some ml) full o k (F.bO q.dst z) H w:=h2;obtain⟨y0,Du,h3⟩:=(cQ (by rw[hsp];exact hos)).1 h2';refine (cQ (by rw[eO];exact hos)).2 ⟨y0,Du,?_⟩;rw[hg.2] at h3 ⊢;have hb:=hle y0 Du;have hd:j=j'->a+i'.size<=b\/b+i.size<=a:=λe=>hdis _ hJ aa e;rcases RJ (H.put j (tb,cs.take b++(cellsOf v++cs.drop (b+i.size)))) with ⟨e1,e2⟩|⟨e1,e2⟩
  ·rw[e1] at La;cases La;have h4:(stepOf C full F (H.put j (tb,cs.take b++(cellsOf v++cs.drop (b+i.size)))) q).still C=some (λx=>x=.val undef,none):=by rw[e2];rfl
   exact (cQ h4).2 ⟨z,hz,h3⟩
  ·rw[e1] at La;obtain⟨-,Ψ2,h4,h5⟩:=act_ld (C:=C) hop' yu ht' hH hvl hb hd La;have h6:(stepOf C full F (H.put j (tb,cs.take b++(cellsOf v++cs.drop (b+i.size)))) q).still C=some (Ψ2,none):=by rw[e2];exact h4
   exact (cQ h6).2 ⟨z,h5 z hz,h3⟩
variable {d:Option Nat}
theorem LdR.agree {n:Nat} {x:AV} (h:∀ n,d=some n->n∉o.looksAt full) (ha:LdR C J n (F.bO d x) o\/LdR C J n F o):LdR C J n F o/\LdR C J n (F.bO d x) o:=by
 have key:∀ y∈o.op.operands.toList,ev (F.bO d x) y=ev F y:=λy hy=>zF λt ht=>mw λn hn e=>h n hn (e▸ko hy ht);rcases ha with ⟨t,x',j,a,i,hop,hx,ht,hd⟩|⟨t,x',j,a,i,hop,hx,ht,hd⟩
 ·have e:=key x' (by rw[hop];simp[Op.operands]);exact⟨⟨t,x',j,a,i,hop,by rw[<-e];exact hx,ht,hd⟩,⟨t,x',j,a,i,hop,hx,ht,hd⟩⟩
 ·have e:=key x' (by rw[hop];simp[Op.operands]);exact⟨⟨t,x',j,a,i,hop,hx,ht,hd⟩,⟨t,x',j,a,i,hop,by rw[e];exact hx,ht,hd⟩⟩
theorem StR.agree {n:Nat} {x:AV} (h:∀ n,d=some n->n∉o.looksAt full) (ha:StR C J n (F.bO d x) o\/StR C J n F o):StR C J n F o/\StR C J n (F.bO d x) o:=by
 have key:∀ y∈o.op.operands.toList,ev (F.bO d x) y=ev F y:=λy hy=>zF λt ht=>mw λn hn e=>h n hn (e▸ko hy ht);rcases ha with ⟨t,x',y,j,b,i,hop,hx,ht,hJ⟩|⟨t,x',y,j,b,i,hop,hx,ht,hJ⟩
 ·have e:=key x' (by rw[hop];simp[Op.operands]);exact⟨⟨t,x',y,j,b,i,hop,by rw[<-e];exact hx,ht,hJ⟩,⟨t,x',y,j,b,i,hop,hx,ht,hJ⟩⟩
 ·have e:=key x' (by rw[hop];simp[Op.operands]);exact⟨⟨t,x',y,j,b,i,hop,hx,ht,hJ⟩,⟨t,x',y,j,b,i,hop,by rw[e];exact hx,ht,hJ⟩⟩
def sk (su:TypeId->Bool) (ml:List FuncId) (full:Array Oper) (A:List (Nat×Nat)) (i j:Nat):Bool:=
 oQ su ml full i j || (A.contains (i,j) && (match full[i]?,full[j]? with|some p,some o=>p.apart full o|_,_=>true))
def EM (su:TypeId->Bool) (ml:List FuncId) (full:Array Oper) (A:List (Nat×Nat)):Bool:=
 ((List.range full.size).all λj=>(ez full j).all (λd=>Nat.blt d j) && (List.range j).all λi=>sk su ml full A i j) &&
   ((full.toList.all λo=> !Nat.beq (aI su ml o) 5) && (A.all λe=>match full[e.2]? with|some o=>vo o|none=>true))
structure FitsC (su:TypeId->Bool) (ml:List FuncId) (full:Array Oper) (A:List (Nat×Nat)) (i j:Nat) (p o:Oper):Prop where
 ap:p.apart full o=true
 ok:indep su ml full p o=true\/A.contains (i,j)=true
 p5:aI su ml p≠5
 o5:aI su ml o≠5
 oS:A.contains (i,j)=true->vo o=true
def sR (C:Cx) (ml:List FuncId) (A:List (Nat×Nat)) (J:List (Nat×Nat×Nat×Nat)) (j:Nat) (o:Oper) (F:Fr):Prop:=∀ n,(A.contains (j,n)=true->LdR C J n F o)/\(A.contains (n,j)=true->StR C J j F o)
variable {A:List (Nat×Nat)}
theorem sR.agree {x:AV} (h:∀ n,d=some n->n∉o.looksAt full):sR C ml A J j o (F.bO d x)↔sR C ml A J j o F:=
 ⟨λg n=>⟨λe=>(LdR.agree h (.inl ((g n).1 e))).1,λe=>(StR.agree h (.inl ((g n).2 e))).1⟩,λg n=>⟨λe=>(LdR.agree h (.inr ((g n).1 e))).2,λe=>(StR.agree h (.inr ((g n).2 e))).2⟩⟩
def gg (C:Cx) (ml:List FuncId) (full:Array Oper) (A:List (Nat×Nat)) (J:List (Nat×Nat×Nat×Nat)):List Nat->(Fr->Hp->World->Prop)->Fr->Hp->World->Prop
 | [],K,F,H,w=>K F H w
 | j::r,K,F,H,w=>match full[j]? with
   | some o=>sR C ml A J j o F/\one C (some ml) full o (gg C ml full A J r K) F H w
   | none=>False
variable {K:Fr->Hp->World->Prop} {r:List Nat}
theorem mL (ho:full[j]? =some o):gg C ml full A J (j::r) K F H w↔sR C ml A J j o F/\one C (some ml) full o (gg C ml full A J r K) F H w:=by
 conv=>lhs;unfold gg
 rw[ho]
theorem LY (hC:C.Ok) {A:List (Nat×Nat)} {J:List (Nat×Nat×Nat×Nat)} {K:Fr->Hp->World->Prop} {i:Nat} {post:List Nat} (ho:full[i]? =some o):∀ (pre:List Nat) (F:Fr) (H:Hp) (w:World),(∀ j∈pre,∃ q,full[j]? =some q/\FitsC C.SU ml full A j i q o)->Live C F H w->gg C ml full A J (pre++i::post) K F H w->gg C ml full A J (i::(pre++post)) K F H w
 | [],F,H,w,_,_,h=>h
 | j::r,F,H,w,hi,hL,h=>by
   obtain⟨q,hq,hf⟩:=hi j cf;obtain⟨a1,a2,a3⟩:=Oper.apart_spec hf.ap;obtain⟨hs,h⟩:=(mL (r:=r++i::post) hq).1 h
   have h1:one C (some ml) full q (λF' H' w'=>sR C ml A J i o F'/\one C (some ml) full o (gg C ml full A J (r++post) K) F' H' w') F H w:=
    zH hC hL h λF' H' w' hL' hv=>(mL ho).1 (LY hC ho r F' H' w' (λq' hq'=>hi q' (by simp[hq'])) hL' hv)
   obtain⟨x,H',w',hx,_⟩:=NS hC hL hf.p5 h1;have ho':sR C ml A J i o F:=(sR.agree a1).1 hx;have h2:one C (some ml) full q (one C (some ml) full o (gg C ml full A J (r++post) K)) F H w:=zH hC hL h1 λF' H' w' _ hv=>hv.2;refine (mL ho).2 ⟨ho',?_⟩
   have h3:one C (some ml) full o (one C (some ml) full q (gg C ml full A J (r++post) K)) F H w:=by
    rcases hf.ok with e|e1
    ·exact swap hC hL e h2
    ·exact swapR hL hf.ap ((hs i).1 e1) ((ho' j).2 e1) (hf.oS e1) h2
   exact NR hC hL hf.o5 h3 λx H' w' _ hv=>(mL (r:=r++post) hq).2 ⟨(sR.agree a3).2 hs,hv⟩
theorem Ir (hC:C.Ok) (kH:EM C.SU ml full A=true) (hQ:∀ β F H w a w',K F H w->Rel C β F H a w'->aK C.K w w'->Q .normal a w'):
  ∀ (fuel:Nat) (listed:Array Bool) (rem:List Nat) (β:Nat->Nat) (F:Fr) (H:Hp) (w:World) (a:Act) (w':World),listed.size=full.size->rem.Pairwise (·< ·)->(∀ x,x∈rem↔x<full.size/\listed.getD x true=false)->rem.length<=fuel->
    (∀ j,j<full.size->listed.getD j true=true->∀ d∈ez full j,listed.getD d false=true)->
    gg C ml full A J rem K F H w->Rel C β F H a w'->aK C.K w w'->wpAny C.P .any full Q fuel listed a w':=by
 unfold EM at kH;simp only[Bool.and_eq_true] at kH;obtain⟨hp0,h5,hS⟩:=kH
 have uK:∀ j,j<full.size->∀ d∈ez full j,d<j:=λj hj d hd=>by
  have:=bP.1 hp0 j (me.2 hj);rw[gF] at this;exact cG (bP.1 this.1 d hd)
 have Lr:∀ i j,i<j->j<full.size->sk C.SU ml full A i j=true:=λi j hij hj=>by
  have:=bP.1 hp0 j (me.2 hj);rw[gF] at this;exact bP.1 this.2 i (me.2 hij)
 have hne5:∀ {i:Nat} {o:Oper},full[i]? =some o->aI C.SU ml o≠5:=λ{i o} ho e=>by
  have:=bP.1 h5 o (dc (by simpa using ho));rw[e] at this;exact absurd this cW
 have hSm:∀ {i j:Nat} {o:Oper},full[j]? =some o->A.contains (i,j)=true->vo o=true:=λ{i j o} ho hb=>by
  have:=bP.1 hS (i,j) (by simpa using hb)
  dsimp only at this
  rw[ho] at this;exact this
 intro fuel
 induction fuel with
 | zero=>
   intro listed rem β F H w a w' hsz hpw tk hlen rp h hr hk;have h0:rem=[]:=mR ae;subst h0;refine⟨?_,hQ β F H w a w' h hr hk⟩;rw[Fb];intro i hi;have:=mem_ready.1 hi;exact absurd ((tk i).2 ⟨this.1,this.2.1⟩) cf
 | succ fuel ih=>
   intro listed rem β F H w a w' hsz hpw tk hlen rp h hr hk;constructor
   ·intro GD;cases rem with
    | nil=>exact hQ β F H w a w' h hr hk
    | cons i r=>
      exfalso;have hi:=(tk i).1 cf
      have:i∈Region.ready .any full listed:=mem_ready.2 ⟨hi.1,hi.2,λd hd=>by
       have hdi:=uK i hi.1 d hd;cases hl:listed.getD d true with
       | true=>
         rw[fy] at hl ⊢;have:d<listed.size:=ae;rw[lV this] at hl ⊢;exact hl
       | false=>
         have hm:=(tk d).2 ⟨ae,hl⟩;rcases dG.1 hm with e|e
         ·omega
         ·have:=(BU.1 hpw).1 d e;omega⟩
      rw[GD] at this;cases this
   ·intro i hi;obtain⟨tU,hi2,hi3⟩:=mem_ready.1 hi;obtain⟨pre,post,rfl⟩:=List.append_of_mem ((tk i).2 ⟨tU,hi2⟩);have ho:=lV tU;generalize full[i]=o at ho;have Iz:=KN.1 hpw;have hlt:∀ p∈pre,p<i:=λp hp=>Iz.2.2 p hp i cf;have hgt:∀ p∈post,i<p:=(BU.1 Iz.2.1).1
    have hb:gg C ml full A J (i::(pre++post)) K F H w:=by
     refine LY hC ho _ F H w (λp hp=> ?_) (Live.of hr hk) h;have Oa:=(tk p).1 (by simp[hp]);have hpi:=hlt p hp;have hpq:=lV Oa.1;generalize full[p]=q at hpq
     have hno:listed.getD p false=false:=by
      have h1:=Oa.2;have:p<listed.size:=ae;rw[fy] at h1 ⊢;rw[lV this] at h1 ⊢;exact h1
     refine⟨q,hpq,?_,?_,hne5 hpq,hne5 ho,hSm ho⟩
     ·have:=Lr p i hpi tU;unfold sk oQ at this;rw[hpq,ho] at this;simp only[Bool.or_eq_true,Bool.and_eq_true] at this;rcases this with (e|e)|e
      ·unfold indep at e;rw[gF] at e;exact e.1
      ·have:=lF uK rp hsz full.size i tU hi3 e;rw[hno] at this;cases this
      ·exact e.2
     ·have:=Lr p i hpi tU;unfold sk oQ at this;rw[hpq,ho] at this;simp only[Bool.or_eq_true,Bool.and_eq_true] at this;rcases this with (e|e)|e
      ·exact .inl e
      ·have:=lF uK rp hsz full.size i tU hi3 e;rw[hno] at this;cases this
      ·exact .inr e.1
    have DY:one C (some ml) full o (gg C ml full A J (pre++post) K) F H w:=((mL ho).1 hb).2
    have:=oP (Q:=Q) (next:=wpAny C.P .any full Q fuel (listed.setIfInBounds i true)) hC DY hr hk λbM F' H' w1 a' bI h1 h2 h3=>by
     refine ih (listed.setIfInBounds i true) (pre++post) bM F' H' w1 a' bI (by simp[hsz]) ?_ ?_ ?_ ?_ h1 h2 h3
     ·exact KN.2 ⟨Iz.1,(BU.1 Iz.2.1).2,λx hx y hy=>Iz.2.2 x hx y (by simp[hy])⟩
     ·intro x;by_cases hx:x=i
      ·subst hx;constructor
       ·intro hm;rcases lp.1 hm with e|e
        ·exact absurd (hlt _ e) ae
        ·exact absurd (hgt _ e) ae
       ·rintro⟨_,e⟩;simp[Array.getD_eq_getD_getElem?,Array.getElem?_setIfInBounds,hsz,tU] at e
      ·have e1:(listed.setIfInBounds i true).getD x true=listed.getD x true:=by
        rw[fy,xc,if_neg (λe=>hx e.symm),<-fy]
       rw[e1,<-tk x];simp[hx]
     ·have:(pre++i::post).length=(pre++post).length+1:=by simp;omega
      omega
     ·intro j hj hl d hd
      have vx:listed.getD d false=true->(listed.setIfInBounds i true).getD d false=true:=λe=>by
       by_cases hx:d=i
       ·subst hx;simp[Array.getD_eq_getD_getElem?,Array.getElem?_setIfInBounds,hsz,tU]
       ·rw[fy,xc,if_neg (λe=>hx e.symm),<-fy];exact e
      by_cases hx:j=i
      ·subst hx;exact vx (hi3 d hd)
      ·refine vx (rp j hj ?_ d hd)
       rwa [fy,xc,if_neg (λe=>hx e.symm),<-fy] at hl
    unfold wpOp;rw[ho];simp only
    split
    ·rename_i hw;rw[if_pos hw] at this;exact .inl this
    ·rename_i hw;rw[if_neg hw] at this;exact this
theorem gg.chunk {A:List (Nat×Nat)} {J:List (Nat×Nat×Nat×Nat)} {K:Fr->Hp->World->Prop} {l2:List Nat}:∀ (l1:List Nat) {F:Fr} {H:Hp} {w:World},(l1.all λj=>(A.all λe=> !Nat.beq e.1 j && !Nat.beq e.2 j) && (full[j]?).isSome)=true->aE C (some ml) full (l1.filterMap (full[·]?)) (gg C ml full A J l2 K) F H w->gg C ml full A J (l1++l2) K F H w
 | [],F,H,w,_,h=>h
 | j::r,F,H,w,h0,h=>by
   rw[List.all_cons,gF,gF] at h0;cases ho:full[j]? with
   | none=>rw[ho] at h0;exact absurd h0.1.2 cf
   | some o=>
     rw[Oz ho] at h;refine (mL (r:=r++l2) ho).2 ⟨λn=>⟨λe=> ?_,λe=> ?_⟩,one_imp h λF' H' w' hv=>gg.chunk r h0.2 hv⟩
     ·have:=bP.1 h0.1.1 (j,n) (by simpa using e);simp at this
     ·have:=bP.1 h0.1.1 (n,j) (by simpa using e);simp at this
theorem gg.one (ho:full[j]? =some o) (hs:sR C ml A J j o F) (h:aE C (some ml) full [o] (gg C ml full A J r K) F H w):gg C ml full A J (j::r) K F H w:=(mL ho).2 ⟨hs,h⟩
theorem VS.LZ {k:List It} (hC:C.Ok) (hm:C.P.follows .mixedOrders=true) {id:Nat} {ops:Array Oper} (ml:List FuncId) (A:List (Nat×Nat)) (J:List (Nat×Nat×Nat×Nat)) (kH:EM C.SU ml ops A=true) (h:gg C ml ops A J (List.range ops.size) (VS C Q k) F H w):VS C Q (.code (.region id ops true)::k) F H w:=λβ a w' hr hk=>by
 refine wp_region_any hm ?_;refine Ir (K:=VS C Q k) hC kH (λβ F H w a w' h hr hk=>h β a w' hr hk) ops.size (Array.replicate ops.size false) (List.range ops.size) β F H w a w'.drew cf List.pairwise_lt_range ?_ cf ?_ h hr.drew hk.drew
 ·intro x;rw[me];constructor
  ·intro hx;refine⟨hx,?_⟩;simp[Array.getD_eq_getD_getElem?,Array.getElem?_replicate,hx]
  ·exact λh=>h.1
 ·intro j hj hl;simp[Array.getD_eq_getD_getElem?,Array.getElem?_replicate,hj] at hl
theorem gg.b (ho:full[j]? =some o) (h1:∀ n,A.contains (j,n)=true->LdR C J n F o) (h3:(A.all λe=> !Nat.beq e.2 j)=true) (h:aE C (some ml) full [o] (gg C ml full A J r K) F H w):gg C ml full A J (j::r) K F H w:=
 gg.one ho (λn=>⟨h1 n,λe=>by have:=bP.1 h3 (n,j) (by simpa using e);simp at this⟩) h
theorem gg.s (ho:full[j]? =some o) (h1:StR C J j F o) (h3:(A.all λe=> !Nat.beq e.1 j)=true) (h:aE C (some ml) full [o] (gg C ml full A J r K) F H w):gg C ml full A J (j::r) K F H w:=
 gg.one ho (λn=>⟨λe=>by have:=bP.1 h3 (j,n) (by simpa using e);simp at this,λ_=>h1⟩) h
end
end
end Go.Proofs.YtlifeokjcgngjaaGreat
