/-BQ of the proof,laid behind one another. -/
import Derived.Test.YtlifeokjcgngjaaGreatKChartItems3
import Derived.OpenShut
import Derived.WideShapes
import Derived.ChangeArms
import Derived.ChangeSlices
import Derived.Lib.VarintBits
import Derived.RangeFuncNested
import Derived.RangeFuncLeaves
import Derived.OrdersIn
import Derived.TacticsIn
set_option linter.all false
set_option maxHeartbeats 64000000
set_option maxRecDepth 4000
namespace Go.Proofs.YtlifeokjcgngjaaGreat
section
open Go.RowKit
attribute [local irreducible] aq VS
theorem mV (w:World):Calls Tryz.prog 87 #[] w λe w'=>∃ r,e=.returned r/\ar w' w.heap.size r 1/\ax w w':=by
 refine ah (C:=bC Tryz.prog w _) (args:=[]) Tryz.func87 rfl Tryz.ntmps87 (bR rfl) ?_
 refine ae ?_
 refine VO.cI rfl rfl (fk Tryz.func88) (λbM dp cq=>Cv 1 bM aa aa) (λbM dp cq w1 s1 p1 n1 c1 h1 aQ eF _ bb1=>wV rfl ?_)
 refine ae ?_
 refine bg ?_;intro wz kz bz
 exact⟨_,rfl,(h1.kp kz).mono cq.size,bz⟩
def wR (s:Bool) (xs:List Nat) (t:Bool) (ys:List Nat):Bool:=bU s xs && (bU t ys && (decide (0<numOf t ys) && decide (Int.gcd (numOf s xs) (numOf t ys)=1)))
theorem zw {s t:Bool} {xs ys:List Nat} (h:wR s xs t ys=false):rq s xs t ys=0:=by
 unfold rq Bh
 split
 ·rename_i hc
  cases h1:bU s xs with
  | false=>unfold numOf;rw[if_neg (by simp[h1])];simp
  | true=>
    cases h2:bU t ys with
    | false=>
      have:numOf t ys=0:=by unfold numOf;rw[if_neg (by simp[h2])]
      omega
    | true=>
      unfold wR at h
      rw[h1,h2,decide_eq_true hc.1,decide_eq_true hc.2] at h
      cases h
 ·rfl
theorem rtB_inv {s t:Bool} {xs ys:List Nat} (h:wR s xs t ys=true):bU s xs=true/\bU t ys=true/\0<numOf t ys/\Int.gcd (numOf s xs) (numOf t ys)=1:=by
 unfold wR at h
 simp only[Bool.and_eq_true,decide_eq_true_eq] at h
 exact h
theorem dz.lim {w:World} {v:Value} {s:Bool} {xs:List Nat} (h:dz w v s xs):bA xs:=by
 obtain⟨_,_,_,_,l⟩:=h
 exact l
theorem zx {w:World} {v:Value} {s t:Bool} {xs ys:List Nat} (hv:cN w v s xs t ys) (h:wR s xs t ys=true):cM w v (rq s xs t ys):=by
 obtain⟨h1,h2,h3,h4⟩:=rtB_inv h
 obtain⟨p,c,r,d,rfl,a1,a2⟩:=hv
 obtain⟨e1,e2⟩:=mS ⟨h3,h4⟩
 refine⟨s,p,_,c,t,r,_,d,rfl,?_,?_⟩
 ·unfold rq;rw[e1]
  have l:=a1.lim
  unfold numOf
  rw[if_pos h1]
  obtain⟨c1,c2⟩:=canon l h1
  show dz _ _ _ _
  rw[<-c1,<-c2]
  assumption
 ·unfold rq;rw[e2]
  have l:=a2.lim
  unfold numOf
  rw[if_pos h2]
  obtain⟨c1,c2⟩:=canon l h2
  show dz _ _ _ _
  rw[<-c1,<-c2]
  assumption
theorem dz.in {w:World} {v:Value} {s:Bool} {xs:List Nat} {k:Nat} (h:dz w v s xs) (hk:xs.length<=k):bm w v (numOf s xs) k:=⟨s,xs,h,rfl,hk⟩
theorem wT (s t:Bool) (xs ys:List Nat) (v:Value) (w:World) (h:cN w v s xs t ys) (hx:xs.length<=536870912) (hy:ys.length<=536870912):
  Calls Tryz.prog 36 #[v] w λe w'=>e=.returned (.bool (wR s xs t ys))/\ax w w':=by
 obtain⟨p,c,r,d,rfl,h1,h2⟩:=h
 refine ah (C:=bC Tryz.prog w _) (args:=[_]) Tryz.func36 rfl Tryz.ntmps36 (bR rfl) ?_
 refine ae ?_
 refine VO.call rfl rfl (fk Tryz.func83) (λbM dp cq=>(mO s xs _ bM (h1.aG cq)).mono ?_)
 rintro e w1 ⟨rfl,aQ⟩
 cases q1:bU s xs
 ·refine bo aQ ?_
  intro eF _ bb1
  refine bg ?_;intro wz kz bz
  exact⟨by simp[wR,q1,gW],bz⟩
 refine bo aQ ?_
 intro eF _ bb1
 refine VO.call rfl rfl (fk Tryz.func83) (λcE ed da=>(mO t ys _ cE (h2.aG da)).mono ?_)
 rintro e w2 ⟨rfl,ba⟩
 cases q2:bU t ys
 ·refine bo ba ?_
  intro fG _ bb2
  refine bg ?_;intro wz kz bz
  exact⟨by simp[wR,q1,q2,gW],bz⟩
 refine bo ba ?_
 intro fG _ bb2
 refine VO.call rfl rfl (fk Tryz.func84) (λfc fC gf=>(lO _ (numOf t ys) _ fc ((h2.in (Nat.le_refl _)).aG gf)).mono ?_)
 rintro e w3 ⟨rfl,cH⟩
 by_cases q3:0<numOf t ys
 ·rw[de q3]
  refine bo cH ?_
  intro kB _ bb3
  refine VO.cI rfl rfl (fk Tryz.func86) (λjZ lQ ll=>yZ _ _ (numOf s xs) (numOf t ys) _ _ jZ ((h1.in (Nat.le_refl _)).aG ll) ((h2.in (Nat.le_refl _)).aG ll) hx hy) (λjZ lQ ll w4 s4 p4 n4 c4 h4 iq qy _ CC=>wV rfl ?_)
  refine ae ?_
  refine VO.cI rfl rfl (fk Tryz.func87) (λja kc ke=>mV ja) (λja kc ke w5 s5 p5 n5 c5 h5 iW nW _ Af=>wV rfl ?_)
  refine ae ?_
  have hg:Sz (Int.gcd (numOf s xs) (numOf t ys):Int) ys.length:=by
   obtain⟨_,_,_,_,l2⟩:=h2
   refine Sz.le (Y:=numOf t ys) (nU l2 (Nat.le_refl _)) ?_
   rw[Int.natAbs_natCast,<-Int.natAbs_natCast (Int.gcd (numOf s xs) (numOf t ys))]
   have:=Int.gcd_dvd_right (numOf s xs) (numOf t ys)
   have:=Int.natAbs_dvd_natAbs.2 this
   exact Nat.le_of_dvd aa this
  refine VO.call rfl rfl (fk Tryz.func85) (λsX qQ wG=>(sK _ _ (Int.gcd (numOf s xs) (numOf t ys):Int) 1 _ 1 sX ((h4.kp (kc.ay ((Kp.of iW).ay qQ))).in hg) ((h5.kp qQ).in (Sz.small ck)) aa aa).mono ?_)
  rintro e w6 ⟨rfl,ud⟩
  by_cases q4:Int.gcd (numOf s xs) (numOf t ys)=1
  ·rw[show ((Int.gcd (numOf s xs) (numOf t ys):Int)-1).sign=0 by rw[q4];rfl]
   refine bo ud ?_
   intro vu _ GU
   refine bg ?_;intro wz kz bz
   exact⟨by simp[wR,q1,q2,q3,q4,gW],bz⟩
  ·have hne:(((Int.gcd (numOf s xs) (numOf t ys):Int)-1).sign == 0)=false:=by
    rw[beq_eq_false_iff_ne]
    intro e
    have:=Int.sign_eq_zero_iff_zero.1 e
    omega
   refine bo ud ?_
   intro vu _ GU
   refine bg ?_;intro wz kz bz
   exact⟨by simp only[wR,q1,q2,q3,q4,gW,Bool.true_and,decide_true,decide_false,hne],bz⟩
 ·have q4:(numOf t ys).sign=0\/(numOf t ys).sign= -1:=by
   rcases Int.lt_trichotomy (numOf t ys) 0 with e|e|e
   ·exact .inr (sign_neg e)
   ·rw[e];exact .inl rfl
   ·exact absurd e q3
  rcases q4 with q4|q4
  all_goals
   rw[q4]
   refine bo cH ?_
   intro kB _ bb3
   refine bg ?_;intro wz kz bz
   exact⟨by simp[wR,q1,q2,q3,gW],bz⟩
theorem cM.zero {w:World} {p:Option Addr} {n c:Nat} {s:Bool} (h:bd w (.agg #[.bool s,.slice p n c]) 1):cM w (.agg #[.bool false,.slice none 0 0,.bool s,.slice p n c]) 0:=⟨_,_,_,_,_,_,_,_,rfl,bd.zero _,h⟩
theorem ee (v:Value) (q:Rat) (k:Nat) (w:World) (h:bS w v q k) (hk:k<=536870912):
  Calls Tryz.prog 90 #[v] w λe w'=>∃ r,e=.returned r/\cM w' r q/\ax w w':=by
 obtain⟨s,xs,t,ys,mJ,rfl,hx,hy⟩:=h
 have zy:=mJ
 obtain⟨p,c,r,d,rfl,_,_⟩:=mJ
 refine ah (C:=bC Tryz.prog w _) (args:=[_]) Tryz.func90 rfl Tryz.ntmps90 (bR rfl) ?_
 refine ae ?_
 refine VO.call rfl rfl (fk Tryz.func36) (λbM dp cq=>(wT s t xs ys _ bM (zy.kp dp) aa aa).mono ?_)
 rintro e w1 ⟨rfl,aQ⟩
 cases hq:wR s xs t ys
 ·refine bo aQ ?_
  intro eF _ bb1
  refine VO.cI rfl rfl (fk Tryz.func87) (λcE ed da=>mV cE) (λcE ed da w2 s2 p2 n2 c2 h2 ba fG _ bb2=>wV rfl ?_)
  refine ae ?_
  refine bg ?_;intro wz kz bz
  exact⟨_,rfl,by rw[zw hq];exact cM.zero (h2.kp kz).rd,bz⟩
 ·refine bo aQ ?_
  intro eF _ bb1
  refine bg ?_;intro wz kz bz
  exact⟨_,rfl,(zx zy hq).kp (eF.ay kz),bz⟩
theorem wU {X Y:Int} {k:Nat} (hY:Sz Y k) (h:Y≠0):Sz (Int.gcd X Y:Int) k:=by
 refine Sz.le (Y:=Y) hY ?_
 rw[Int.natAbs_natCast,<-Int.natAbs_natCast (Int.gcd X Y)]
 exact Nat.le_of_dvd aa (Int.natAbs_dvd_natAbs.2 (Int.gcd_dvd_right X Y))
theorem du {w w':World} {X Y:Int} {e:Ending} (h:sL w w' X Y e) (hY:Y≠0):∃ v u,e=.returned (.tuple #[v,u,.int .i64 0])/\ar w' w.heap.size v (X.fdiv Y)/\ar w' w.heap.size u (X.fmod Y):=by
 rcases h with ⟨h0,_⟩|⟨_,h⟩
 ·exact absurd h0 hY
 ·exact h
theorem qB (v u:Value) (X Y:Int) (j k:Nat) (w:World) (hv:bm w v X j) (hu:bm w u Y k) (hj:j<=268435456) (hk:k<=268435456) (hY:Y≠0):
  Calls Tryz.prog 149 #[v,u] w λe w'=>∃ r,e=.returned r/\aM w' w.heap.size r (Rat.divInt X Y)/\ax w w':=by
 obtain⟨s,p,n,c,rfl⟩:=hv.form
 obtain⟨t,r,m,d,rfl⟩:=hu.form
 refine ah (C:=bC Tryz.prog w _) (args:=[_,_]) Tryz.func149 rfl Tryz.ntmps149 (bR rfl) ?_
 refine ae ?_
 refine VO.cI rfl rfl (fk Tryz.func86) (λbM dp cq=>yZ _ _ X Y j k bM (hv.kp dp) (hu.kp dp) aa aa) (λbM dp cq w1 s1 p1 n1 c1 h1 aQ eF _ bb1=>wV rfl ?_)
 refine ae ?_
 refine VO.call rfl rfl (fk Tryz.func84) (λcE ed da=>(lO _ Y k cE (hu.aG da)).mono ?_)
 rintro e w2 ⟨rfl,ba⟩
 have GY:Sz (Int.gcd X Y:Int) k:=wU hu.len hY
 have GA:(Int.gcd X Y:Int)≠0:=by
  intro e
  have:=(Int.gcd_eq_zero_iff.1 (show Int.gcd X Y=0 by omega)).2
  exact hY this
 rcases Int.lt_or_lt_of_ne hY with q|q
 ·rw[sign_neg q]
  obtain⟨l1,l2⟩:=low_neg (X:=X) q
  refine bo ba ?_
  intro fG _ bb2
  refine VO.cI rfl rfl (fk Tryz.func165) (λfc fC gf=>Gx _ (Int.gcd X Y:Int) k fc ((h1.kp (fG.ay fC)).in GY) aa) (λfc fC gf w3 s3 p3 n3 c3 h3 cH kB _ bb3=>wV rfl ?_)
  refine ae ?_
  refine VO.call rfl rfl (fk Tryz.func208) (λjZ lQ ll=>(iH _ _ X (-(Int.gcd X Y:Int)) j k jZ (hv.aG ll) ((h3.kp lQ).in GY.neg) aa aa).mono ?_)
  rintro e w4 ⟨hd4,iq⟩
  obtain⟨v4,u4,rfl,h4,h4'⟩:=du hd4 aa
  obtain⟨s4,p4,n4,c4,rfl⟩:=h4.form
  obtain⟨t4,r4,m4,d4,rfl⟩:=h4'.form
  refine bo iq ?_
  intro qy _ CC
  refine VO.call rfl rfl (fk Tryz.func208) (λja kc ke=>(iH _ _ Y (-(Int.gcd X Y:Int)) k k ja (hu.aG ke) ((h3.kp (qy.ay kc)).in GY.neg) aa aa).mono ?_)
  rintro e w5 ⟨hd5,iW⟩
  obtain⟨v5,u5,rfl,h5,h5'⟩:=du hd5 aa
  obtain⟨s5,p5,n5,c5,rfl⟩:=h5.form
  obtain⟨t5,r5,m5,d5,rfl⟩:=h5'.form
  refine bo iW ?_
  intro nW _ Af
  refine bg ?_;intro wz kz bz
  exact⟨_,rfl,⟨_,_,_,_,_,_,_,_,rfl,ar.cast ((h4.kp (nW.ay kz)).mono ll.size) l1,ar.cast ((h5.kp kz).mono ke.size) l2⟩,bz⟩
 ·rw[de q]
  obtain⟨l1,l2⟩:=ry (X:=X) q
  refine bo ba ?_
  intro fG _ bb2
  refine VO.call rfl rfl (fk Tryz.func208) (λjZ lQ ll=>(iH _ _ X (Int.gcd X Y:Int) j k jZ (hv.aG ll) ((h1.kp (fG.ay lQ)).in GY) aa aa).mono ?_)
  rintro e w4 ⟨hd4,iq⟩
  obtain⟨v4,u4,rfl,h4,h4'⟩:=du hd4 aa
  obtain⟨s4,p4,n4,c4,rfl⟩:=h4.form
  obtain⟨t4,r4,m4,d4,rfl⟩:=h4'.form
  refine bo iq ?_
  intro qy _ CC
  refine VO.call rfl rfl (fk Tryz.func208) (λja kc ke=>(iH _ _ Y (Int.gcd X Y:Int) k k ja (hu.aG ke) ((h1.kp (fG.ay (qy.ay kc))).in GY) aa aa).mono ?_)
  rintro e w5 ⟨hd5,iW⟩
  obtain⟨v5,u5,rfl,h5,h5'⟩:=du hd5 aa
  obtain⟨s5,p5,n5,c5,rfl⟩:=h5.form
  obtain⟨t5,r5,m5,d5,rfl⟩:=h5'.form
  refine bo iW ?_
  intro nW _ Af
  refine bg ?_;intro wz kz bz
  exact⟨_,rfl,⟨_,_,_,_,_,_,_,_,rfl,ar.cast ((h4.kp (nW.ay kz)).mono ll.size) l1,ar.cast ((h5.kp kz).mono ke.size) l2⟩,bz⟩
end
section
open Go.RowKit
attribute [local irreducible] aq VS
theorem wW (q r:Rat):q+r=Rat.divInt (q.num*r.den+r.num*q.den) ((q.den:Int)*r.den):=by
 rw[Rat.add_def',<-Rat.divInt_ofNat];simp
theorem add_same {q r:Rat} (h:(q.den:Int)=r.den):q+r=Rat.divInt (q.num+r.num) q.den:=by
 rw[wW,<-h]
 have hd:(q.den:Int)≠0:=by have:=q.den_nz;omega
 rw[<-Int.add_mul,Rat.divInt_mul_right hd]
theorem pM {X Y:Int} {k l:Nat} (hX:Sz X k) (hY:Sz Y l) (h:Y≠0):Sz (Rat.divInt X Y).num k/\Sz ((Rat.divInt X Y).den:Int) l:=by
 constructor
 ·refine Sz.le hX ?_
  rw[Rat.num_divInt]
  have h1:(Y.sign*X/(Y.gcd X:Int)).natAbs<=(Y.sign*X).natAbs:=Int.natAbs_ediv_le_natAbs _ _
  rw[Int.natAbs_mul] at h1
  have h2:Y.sign.natAbs=1:=by
   rcases Int.lt_or_lt_of_ne h with e|e
   ·rw[sign_neg e];rfl
   ·rw[de e];rfl
  rw[h2,Nat.one_mul] at h1
  exact h1
 ·refine Sz.le hY ?_
  rw[Rat.den_divInt,if_neg h,Int.natAbs_natCast]
  exact Nat.div_le_self _ _
theorem kt.add {q r:Rat} {k l:Nat} (hq:kt q k) (hr:kt r l):kt (q+r) (k+l+1):=by
 rw[wW]
 have hd:(q.den:Int)*r.den≠0:=Int.mul_ne_zero (by have:=q.den_nz;omega) (by have:=r.den_nz;omega)
 obtain⟨h1,h2⟩:=pM (Sz.add (hq.1.mul hr.2) (hr.1.mul hq.2) (m:=k+l) aa aa) (hq.2.mul hr.2) hd
 exact⟨h1,h2.mono aa⟩
def Bp (q r:Rat):Int:=if q<r then-1 else if q=r then 0 else 1
theorem zz (q r:Rat):(q.num*r.den-r.num*q.den).sign=Bp q r:=by
 unfold Bp
 by_cases h1:q<r
 ·rw[if_pos h1];exact sign_neg (by have:=(Rat.lt_iff q r).1 h1;omega)
 ·rw[if_neg h1]
  by_cases h2:q=r
  ·subst h2;rw[if_pos rfl,Int.sub_self];rfl
  ·rw[if_neg h2]
   refine de ?_
   have a:=mt (Rat.lt_iff q r).2 h1
   have b:=mt Rat.eq_iff_mul_eq_mul.2 h2
   omega
theorem Ek (q:Rat):q.num.sign=Bp q 0:=by
 have:=zz q 0
 simpa using this
def zA (Y:Int):Int:=if Y=0 then 20 else 0
theorem jN (n:Int) (w:World) (h0: -9223372036854775808<=n) (h1:n<=9223372036854775807):
  Calls Tryz.prog 37 #[.int .i64 n] w λe w'=>∃ r,e=.returned r/\aM w' w.heap.size r (n:Rat)/\ax w w':=by
 refine ah (C:=bC Tryz.prog w _) (args:=[_]) Tryz.func37 rfl Tryz.ntmps37 (bR rfl) ?_
 refine ae ?_
 refine VO.cI rfl rfl (fk Tryz.func88) (λbM dp cq=>Cv n bM h0 h1) (λbM dp cq w1 s1 p1 n1 c1 q1 aQ eF _ bb1=>wV rfl ?_)
 refine ae ?_
 refine VO.cI rfl rfl (fk Tryz.func87) (λcE ed da=>mV cE) (λcE ed da w2 s2 p2 n2 c2 q2 ba fG _ bb2=>wV rfl ?_)
 refine ae ?_
 refine bg ?_;intro wz kz bz
 exact⟨_,rfl,⟨_,_,_,_,_,_,_,_,rfl,(q1.kp (fG.ay kz)).mono cq.size,(q2.kp kz).mono da.size⟩,bz⟩
theorem vx (v u:Value) (q r:Rat) (k l:Nat) (w:World) (hv:cM w v q) (hu:cM w u r) (hq:kt q k) (hr:kt r l) (hk:k<=67108864) (hl:l<=67108864):
  Calls Tryz.prog 89 #[v,u] w λe w'=>∃ x,e=.returned x/\aM w' w.heap.size x (q+r)/\ax w w':=by
 obtain⟨s,p,n,c,t,y,m,d,rfl⟩:=hv.form
 obtain⟨s',p',n',c',t',y',m',d',rfl⟩:=hu.form
 obtain⟨v1,v2⟩:=hv.parts
 obtain⟨u1,u2⟩:=hu.parts
 have dq:(q.den:Int)≠0:=by have:=q.den_nz;omega
 have dr:(r.den:Int)≠0:=by have:=r.den_nz;omega
 refine ah (C:=bC Tryz.prog w _) (args:=[_,_]) Tryz.func89 rfl Tryz.ntmps89 (bR rfl) ?_
 refine ae ?_
 refine VO.call rfl rfl (fk Tryz.func85) (λbM dp cq=>(sK _ _ (q.den:Int) r.den k l bM ((v2.aG cq).to hq.2) ((u2.aG cq).to hr.2) aa aa).mono ?_)
 rintro e w1 ⟨rfl,aQ⟩
 by_cases hd:(q.den:Int)=r.den
 ·rw[show ((q.den:Int)-r.den).sign=0 by rw[hd,Int.sub_self];rfl]
  refine bo aQ ?_
  intro eF _ bb1
  refine VO.cI rfl rfl (fk Tryz.func150) (λcE ed da=>yU _ _ q.num r.num k l cE ((v1.aG da).to hq.1) ((u1.aG da).to hr.1) aa aa) (λcE ed da w2 s2 p2 n2 c2 q2 ba fG _ bb2=>wV rfl ?_)
  refine ae ?_
  refine VO.cR rfl rfl (fk Tryz.func149) (λfc fC gf=>qB _ _ (q.num+r.num) q.den (k+l+1) k fc ((q2.kp fC).in (Sz.add hq.1 hr.1 aa aa)) ((v2.aG gf).to hq.2) aa aa dq) (λfc fC gf w3 s3 p3 n3 c3 t3 y3 m3 d3 q3 cH kB _ bb3=>wV rfl ?_)
  refine ae ?_
  refine bg ?_;intro wz kz bz
  exact⟨_,rfl,aM.cast ((q3.kp kz).mono gf.size) (add_same hd).symm,bz⟩
 ·have hs:((((q.den:Int)-r.den).sign == 0))=false:=by
   rw[beq_eq_false_iff_ne]
   intro e
   have:=Int.sign_eq_zero_iff_zero.1 e
   omega
  rcases Int.lt_or_lt_of_ne (show (q.den:Int)-r.den≠0 by omega) with e|e
  all_goals
   first|rw[sign_neg e]|rw[de e]
   refine bo aQ ?_
   intro eF _ bb1
   refine VO.cI rfl rfl (fk Tryz.func100) (λcE ed da=>lh _ _ q.num r.den k l cE ((v1.aG da).to hq.1) ((u2.aG da).to hr.2) aa aa) (λcE ed da w2 s2 p2 n2 c2 q2 ba fG _ bb2=>wV rfl ?_)
   refine ae ?_
   refine VO.cI rfl rfl (fk Tryz.func100) (λfc fC gf=>lh _ _ r.num q.den l k fc ((u1.aG gf).to hr.1) ((v2.aG gf).to hq.2) aa aa) (λfc fC gf w3 s3 p3 n3 c3 q3 cH kB _ bb3=>wV rfl ?_)
   refine ae ?_
   refine VO.cI rfl rfl (fk Tryz.func150) (λjZ lQ ll=>yU _ _ (q.num*r.den) (r.num*q.den) (k+l) (l+k) jZ ((q2.kp (kB.ay lQ)).in (hq.1.mul hr.2)) ((q3.kp lQ).in (hr.1.mul hq.2)) aa aa) (λjZ lQ ll w4 s4 p4 n4 c4 q4 iq qy _ CC=>wV rfl ?_)
   refine ae ?_
   refine VO.cI rfl rfl (fk Tryz.func100) (λja kc ke=>lh _ _ q.den r.den k l ja ((v2.aG ke).to hq.2) ((u2.aG ke).to hr.2) aa aa) (λja kc ke w5 s5 p5 n5 c5 q5 iW nW _ Af=>wV rfl ?_)
   refine ae ?_
   refine VO.cR rfl rfl (fk Tryz.func149) (λsX qQ wG=>qB _ _ (q.num*r.den+r.num*q.den) ((q.den:Int)*r.den) (k+l+1) (k+l) sX ((q4.kp (nW.ay qQ)).in (Sz.add (hq.1.mul hr.2) (hr.1.mul hq.2) aa aa)) ((q5.kp qQ).in (hq.2.mul hr.2)) aa aa (Int.mul_ne_zero dq dr)) (λsX qQ wG w6 s6 p6 n6 c6 t6 y6 m6 d6 q6 ud vu _ GU=>wV rfl ?_)
   refine ae ?_
   refine bg ?_;intro wz kz bz
   exact⟨_,rfl,aM.cast ((q6.kp kz).mono wG.size) (wW q r).symm,bz⟩
end
section
open Go.RowKit
attribute [local irreducible] aq VS
def sZ (k:Nat):Nat:=max k 1
theorem bS.sz1 {w:World} {v:Value} {q:Rat} {k:Nat} (h:bS w v q k):kt q (sZ k):=by
 obtain⟨s,xs,t,ys,h1,h2,h3,h4⟩:=h
 exact bS.sz (k:=sZ k) ⟨s,xs,t,ys,h1,h2,by unfold sZ;omega,by unfold sZ;omega⟩ (by unfold sZ;omega)
theorem Bq (v u:Value) (q r:Rat) (k l:Nat) (w:World) (hv:bS w v q k) (hu:bS w u r l) (hk:k<=67108864) (hl:l<=67108864):
  Calls Tryz.prog 38 #[v,u] w λe w'=>∃ x,e=.returned x/\aM w' w.heap.size x (q+r)/\ax w w':=by
 obtain⟨s,p,n,c,t,y,m,d,rfl⟩:=hv.form
 obtain⟨s',p',n',c',t',y',m',d',rfl⟩:=hu.form
 refine ah (C:=bC Tryz.prog w _) (args:=[_,_]) Tryz.func38 rfl Tryz.ntmps38 (bR rfl) ?_
 refine ae ?_
 refine VO.cR rfl rfl (fk Tryz.func90) (λbM dp cq=>ee _ q k bM (hv.kp dp) aa) (λbM dp cq w1 s1 p1 n1 c1 t1 y1 m1 d1 q1 aQ eF _ bb1=>wV rfl ?_)
 refine ae ?_
 refine VO.cR rfl rfl (fk Tryz.func90) (λcE ed da=>ee _ r l cE (hu.kp (eF.ay ed)) aa) (λcE ed da w2 s2 p2 n2 c2 t2 y2 m2 d2 q2 ba fG _ bb2=>wV rfl ?_)
 refine ae ?_
 refine VO.cR rfl rfl (fk Tryz.func89) (λfc fC gf=>vx _ _ q r _ _ fc (q1.kp (fG.ay fC)) (q2.kp fC) hv.sz1 hu.sz1 (by unfold sZ;omega) (by unfold sZ;omega)) (λfc fC gf w3 s3 p3 n3 c3 t3 y3 m3 d3 q3 cH kB _ bb3=>wV rfl ?_)
 refine ae ?_
 refine bg ?_;intro wz kz bz
 exact⟨_,rfl,(q3.kp kz).mono gf.size,bz⟩
theorem zB (v:Value) (q:Rat) (k:Nat) (w:World) (hv:bS w v q k) (hk:k<=536870912):
  Calls Tryz.prog 57 #[v] w λe w'=>e=.returned (.int .i64 (Bp q 0))/\ax w w':=by
 obtain⟨s,p,n,c,t,y,m,d,rfl⟩:=hv.form
 refine ah (C:=bC Tryz.prog w _) (args:=[_]) Tryz.func57 rfl Tryz.ntmps57 (bR rfl) ?_
 refine ae ?_
 refine VO.cR rfl rfl (fk Tryz.func90) (λbM dp cq=>ee _ q k bM (hv.kp dp) hk) (λbM dp cq w1 s1 p1 n1 c1 t1 y1 m1 d1 q1 aQ eF _ bb1=>wV rfl ?_)
 refine ae ?_
 refine VO.call rfl rfl (fk Tryz.func84) (λcE ed da=>(lO _ q.num _ cE ((q1.parts.1.kp ed).to hv.sz1.1)).mono ?_)
 rintro e w2 ⟨rfl,ba⟩
 rw[Ek]
 refine bo ba ?_
 intro fG _ bb2
 refine bg ?_;intro wz kz bz
 exact⟨rfl,bz⟩
theorem Br (v u:Value) (q r:Rat) (k l:Nat) (w:World) (hv:bS w v q k) (hu:bS w u r l) (hk:k<=67108864) (hl:l<=67108864):
  Calls Tryz.prog 43 #[v,u] w λe w'=>e=.returned (.int .i64 (Bp q r))/\ax w w':=by
 obtain⟨s,p,n,c,t,y,m,d,rfl⟩:=hv.form
 obtain⟨s',p',n',c',t',y',m',d',rfl⟩:=hu.form
 have zq:=hv.sz1
 have zr:=hu.sz1
 have uk:sZ k<=67108864:=by unfold sZ;omega
 have ul:sZ l<=67108864:=by unfold sZ;omega
 refine ah (C:=bC Tryz.prog w _) (args:=[_,_]) Tryz.func43 rfl Tryz.ntmps43 (bR rfl) ?_
 refine ae ?_
 refine VO.cR rfl rfl (fk Tryz.func90) (λbM dp cq=>ee _ q k bM (hv.kp dp) aa) (λbM dp cq w1 s1 p1 n1 c1 t1 y1 m1 d1 q1 aQ eF _ bb1=>wV rfl ?_)
 refine ae ?_
 refine VO.cR rfl rfl (fk Tryz.func90) (λcE ed da=>ee _ r l cE (hu.kp (eF.ay ed)) aa) (λcE ed da w2 s2 p2 n2 c2 t2 y2 m2 d2 q2 ba fG _ bb2=>wV rfl ?_)
 refine ae ?_
 obtain⟨a1,a2⟩:=q1.parts
 obtain⟨b1,b2⟩:=q2.parts
 refine VO.cI rfl rfl (fk Tryz.func100) (λfc fC gf=>lh _ _ q.num r.den _ _ fc ((a1.kp (fG.ay fC)).to zq.1) ((b2.kp fC).to zr.2) aa aa) (λfc fC gf w3 s3 p3 n3 c3 q3 cH kB _ bb3=>wV rfl ?_)
 refine ae ?_
 refine VO.cI rfl rfl (fk Tryz.func100) (λjZ lQ ll=>lh _ _ r.num q.den _ _ jZ ((b1.kp (kB.ay lQ)).to zr.1) ((a2.kp (fG.ay (kB.ay lQ))).to zq.2) aa aa) (λjZ lQ ll w4 s4 p4 n4 c4 q4 iq qy _ CC=>wV rfl ?_)
 refine ae ?_
 refine VO.call rfl rfl (fk Tryz.func85) (λja kc ke=>(sK _ _ (q.num*r.den) (r.num*q.den) _ _ ja ((q3.kp (qy.ay kc)).in (zq.1.mul zr.2)) ((q4.kp kc).in (zr.1.mul zq.2)) aa aa).mono ?_)
 rintro e w5 ⟨rfl,iW⟩
 rw[zz]
 refine bo iW ?_
 intro nW _ Af
 refine bg ?_;intro wz kz bz
 exact⟨rfl,bz⟩
end
section
open Go.RowKit
attribute [local irreducible] aq VS
def pN (w:World) (v:Value) (qs:List Rat) (k:Nat):Prop:=
 ∃ p c,v=.slice p qs.length c/\qs.length<=c/\c<=maxLen/\∀ i q,qs[i]? =some q->∃ b off s p' n c' t r m d,p=some ⟨b,off,none⟩/\
   (∀ j u,[Value.bool s,.slice p' n c',.bool t,.slice r m d][j]? =some u->w.cell? ⟨b,off+i*4+j,none⟩=some u)/\bS w (.agg #[.bool s,.slice p' n c',.bool t,.slice r m d]) q k
theorem pN.form {w:World} {v:Value} {qs:List Rat} {k:Nat} (h:pN w v qs k):∃ p c,v=.slice p qs.length c/\qs.length<=c/\c<=maxLen:=by
 obtain⟨p,c,hv,h1,h2,_⟩:=h
 exact⟨p,c,hv,h1,h2⟩
theorem pN.at {w:World} {p:Option Addr} {n c:Nat} {qs:List Rat} {k i:Nat} {q:Rat} (h:pN w (.slice p n c) qs k) (hq:qs[i]? =some q):∃ b off s p' n' c' t r m d,p=some ⟨b,off,none⟩/\
  (∀ j u,[Value.bool s,.slice p' n' c',.bool t,.slice r m d][j]? =some u->w.cell? ⟨b,off+i*4+j,none⟩=some u)/\bS w (.agg #[.bool s,.slice p' n' c',.bool t,.slice r m d]) q k:=by
 obtain⟨p',c',hv,h1,h2,h3⟩:=h
 cases hv
 exact h3 i q hq
theorem aZ {i:Nat} (h:i<9223372036854775807):IntKind.i64.wrap ((i:Int)+1)=((i+1:Nat):Int):=by
 rw[IntWalk.i64_in _ aa];omega
def ta (qs:List Rat):Rat:=qs.foldl (·+ ·) 0
theorem bI {α:Type} {l:List α} {i:Nat} {x:α} (h:l[i]? =some x):l.take (i+1)=l.take i++[x]:=by
 obtain⟨hi,rfl⟩:=List.getElem?_eq_some_iff.1 h
 exact List.take_succ_eq_append_getElem hi
theorem vz {qs:List Rat} {i:Nat} {q:Rat} (h:qs[i]? =some q):ta (qs.take (i+1))=ta (qs.take i)+q:=by
 rw[bI h];simp[ta,List.foldl_append]
def dV (k i:Nat):Nat:=1+i*(sZ k+1)
theorem zC (k i:Nat):dV k (i+1)=dV k i+sZ k+1:=by unfold dV;rw[Nat.add_mul,Nat.one_mul];omega
theorem El {k i n:Nat} (h:i<=n):dV k i<=dV k n:=by unfold dV;have:=Nat.mul_le_mul_right (sZ k+1) h;omega
theorem jO (v:Value) (qs:List Rat) (k:Nat) (w:World) (hv:pN w v qs k) (hk:dV k qs.length<=67108864):
  Calls Tryz.prog 39 #[v] w λe w'=>∃ x,e=.returned x/\aM w' w.heap.size x (ta qs)/\kt (ta qs) (dV k qs.length)/\ax w w':=by
 obtain⟨p,c,rfl,eD,eZ⟩:=hv.form
 obtain⟨N,hN⟩:∃ N,N=qs.length:=⟨_,rfl⟩
 rw[<-hN] at hv hk eD ⊢
 have hNm:N<9223372036854775807:=by unfold dV at hk;have:=Nat.le_mul_of_pos_right N (show 0<sZ k+1 by omega);omega
 have huk:sZ k<=67108864\/N=0:=by
  rcases Nat.eq_zero_or_pos N with e|e
  ·exact .inr e
  ·left;unfold dV at hk;have:=Nat.le_mul_of_pos_left (sZ k+1) e;omega
 refine ah (C:=bC Tryz.prog w _) (args:=[_]) Tryz.func39 rfl Tryz.ntmps39 (bR rfl) ?_
 refine ae ?_
 refine VO.cR rfl rfl (fk Tryz.func37) (λbM dp cq=>jN 0 bM aa aa) (λbM dp cq w1 s1 p1 n1 c1 t1 y1 m1 d1 q1 aQ eF _ bb1=>wV rfl ?_)
 refine ae ?_
 refine VS.loop (J:=λn L M w'=>∃ i s p' n' c' t r m d,i<=N/\n=N-i/\L=[(7,.val (.slice p N c)),(8,.val (.int .i64 (N:Int))),(9,.val (.int .i64 (i:Int))),(3,.box 3 0),(2,.box 2 0)]/\
  M=[(2,(27,([.bool false,.slice none 0 0,.bool false,.slice none 0 0]:List Value).map .val)),(3,(27,([.bool s,.slice p' n' c',.bool t,.slice r m d]:List Value).map .val))]/\aM w' w.heap.size (.agg #[.bool s,.slice p' n' c',.bool t,.slice r m d]) (ta (qs.take i))/\kt (ta (qs.take i)) (dV k i)) N ⟨_,_,?_,?_,?_,?_,⟨0,s1,p1,n1,c1,t1,y1,m1,d1,by omega,by omega,rfl,rfl,(q1.mono cq.size).cast (by simp[ta]),by simp only[List.take_zero,ta,List.foldl_nil,dV,Nat.zero_mul,Nat.add_zero];exact kt.zero⟩⟩ ?_
 ·exact fx
 ·exact fx
 ·rfl
 ·exact qR
 rintro n L M w' ⟨i,s,p',n',c',t,r,m,d,hi,rfl,rfl,rfl,ho,hz⟩
 refine ae ?_
 by_cases hlt:i<N
 ·obtain⟨q,hq⟩:∃ q,qs[i]? =some q:=⟨_,List.getElem?_eq_getElem aa⟩
  obtain⟨b,off,s2,p2,n2,c2,t2,r2,m2,d2,rfl,hc,ra⟩:=hv.at hq
  refine VS.bu rfl (decide_eq_true (Int.ofNat_lt.2 hlt)) ?_
  refine ae ?_
  refine VO.cond rfl dU (wV rfl ?_)
  refine VO.read rfl [.bool s2,.slice p2 n2 c2,.bool t2,.slice r2 m2 d2] rfl (λj u hj=>by rw[Addr.add_mid,Int.toNat_natCast];exact hc j u hj) (wV rfl ?_)
  refine ae ?_
  refine VO.call rfl rfl (fk Tryz.func90) (λcE ed da=>(ee _ q k cE ((ra.kp (Kp.of (U:=UU) da))) (by have:=hk;unfold sZ at*;omega)).mono ?_)
  rintro e w2 ⟨r2',rfl,q2,ba⟩
  obtain⟨s3,p3,n3,c3,t3,y3,m3,d3,rfl⟩:=q2.form
  refine bo ba ?_
  intro fG _ bb2
  refine VO.call rfl rfl (fk Tryz.func89) (λfc fC gf=>(vx _ _ (ta (qs.take i)) q (dV k i) (sZ k) fc ((ho.kp (fG.ay fC)).rd) (q2.kp fC) hz ra.sz1 (by have:=El (k:=k) hi;omega) aa).mono ?_)
  rintro e w3 ⟨r3',rfl,q3,cH⟩
  obtain⟨s4,p4,n4,c4,t4,y4,m4,d4,rfl⟩:=q3.form
  refine bo cH ?_
  intro kB _ bb3
  refine VS.back (N-(i+1)) aa ⟨_,_,?_,?_,?_,?_,⟨i+1,s4,p4,n4,c4,t4,y4,m4,d4,by omega,rfl,rfl,rfl,(q3.mono gf.size).cast (vz hq).symm,by rw[vz hq,zC];exact hz.add ra.sz1⟩⟩
  ·refine⟨rfl,rfl,?_,rfl,rfl,trivial⟩
   rw[<-aZ aa];rfl
  ·exact fx
  ·rfl
  ·exact qR
 ·refine VS.bt rfl (decide_eq_false (λe=>hlt (Int.ofNat_lt.1 e))) ?_
  refine ae ?_
  refine bg ?_;intro wz kz bz
  obtain rfl:i=N:=by omega
  rw[List.take_of_length_le aa] at ho hz
  exact⟨_,rfl,ho.kp kz,hz,bz⟩
end
set_option maxRecDepth 4000
section
open Go.RowKit
attribute [local irreducible] aq VS
theorem zD (v u:Value) (X Y:Int) (j k:Nat) (w:World) (hv:bm w v X j) (hu:bm w u Y k) (hj:j<=1073741824) (hk:k<=1073741824):
  Calls Tryz.prog 192 #[v,u] w λe w'=>e=.returned (.bool (decide (X=Y)))/\ax w w':=by
 obtain⟨s,p,n,c,rfl⟩:=hv.form
 obtain⟨t,q,m,d,rfl⟩:=hu.form
 refine ah (C:=bC Tryz.prog w _) (args:=[_,_]) Tryz.func192 rfl Tryz.ntmps192 (bR rfl) ?_
 refine ae ?_
 refine VO.cB rfl rfl (fk Tryz.func259) (λbM dp cq=>zf _ _ X Y j k bM (hv.kp dp) (hu.kp dp) hj hk) (λbM dp cq w1 aQ eF _ bb1=>wV rfl ?_)
 refine ae ?_
 refine bg ?_;intro wz kz bz
 refine⟨?_,bz⟩
 show Ending.returned (.bool (sP X Y == 0))=_
 unfold sP
 by_cases h:X=Y
 ·rw[h,decide_eq_true rfl,Int.sub_self];rfl
 ·rw[decide_eq_false h]
  have:((X-Y).sign == 0)=false:=by
   rw[beq_eq_false_iff_ne]
   intro e
   have:=Int.sign_eq_zero_iff_zero.1 e
   omega
  rw[this]
theorem wY (s t:Bool) (xs ys:List Nat) (v:Value) (w:World) (h:cN w v s xs t ys) (hx:xs.length<=134217728) (hy:ys.length<=134217728):
  Calls Tryz.prog 133 #[v] w λe w'=>e=.returned (.bool (wR s xs t ys))/\ax w w':=by
 obtain⟨p,c,r,d,rfl,h1,h2⟩:=h
 refine ah (C:=bC Tryz.prog w _) (args:=[_]) Tryz.func133 rfl Tryz.ntmps133 (bR rfl) ?_
 refine ae ?_
 refine VO.call rfl rfl (fk Tryz.func190) (λbM dp cq=>(mQ s xs _ bM (h1.aG cq)).mono ?_)
 rintro e w1 ⟨rfl,aQ⟩
 cases q1:bU s xs
 ·refine bo aQ ?_
  intro eF _ bb1
  refine bg ?_;intro wz kz bz
  exact⟨by simp[wR,q1,gW],bz⟩
 refine bo aQ ?_
 intro eF _ bb1
 refine VO.call rfl rfl (fk Tryz.func190) (λcE ed da=>(mQ t ys _ cE (h2.aG da)).mono ?_)
 rintro e w2 ⟨rfl,ba⟩
 cases q2:bU t ys
 ·refine bo ba ?_
  intro fG _ bb2
  refine bg ?_;intro wz kz bz
  exact⟨by simp[wR,q1,q2,gW],bz⟩
 refine bo ba ?_
 intro fG _ bb2
 refine VO.call rfl rfl (fk Tryz.func191) (λfc fC gf=>(bK _ (numOf t ys) _ fc ((h2.in (Nat.le_refl _)).aG gf) aa).mono ?_)
 rintro e w3 ⟨rfl,cH⟩
 by_cases q3:0<numOf t ys
 ·rw[de q3]
  refine bo cH ?_
  intro kB _ bb3
  refine VO.cI rfl rfl (fk Tryz.func193) (λjZ lQ ll=>sY _ _ (numOf s xs) (numOf t ys) _ _ jZ ((h1.in (Nat.le_refl _)).aG ll) ((h2.in (Nat.le_refl _)).aG ll) aa aa) (λjZ lQ ll w4 s4 p4 n4 c4 h4 iq qy _ CC=>wV rfl ?_)
  refine ae ?_
  refine VO.cI rfl rfl (fk Tryz.func142) (λja kc ke=>jL 1 ja aa aa) (λja kc ke w5 s5 p5 n5 c5 h5 iW nW _ Af=>wV rfl ?_)
  refine ae ?_
  have hg:Sz (Int.gcd (numOf s xs) (numOf t ys):Int) ys.length:=wU (nU h2.lim (Nat.le_refl _)) aa
  refine VO.call rfl rfl (fk Tryz.func192) (λsX qQ wG=>(zD _ _ (Int.gcd (numOf s xs) (numOf t ys):Int) 1 _ 1 sX ((h4.kp (nW.ay qQ)).in hg) ((h5.kp qQ).in (Sz.small ck)) aa aa).mono ?_)
  rintro e w6 ⟨rfl,ud⟩
  by_cases q4:Int.gcd (numOf s xs) (numOf t ys)=1
  ·rw[show decide ((Int.gcd (numOf s xs) (numOf t ys):Int)=1)=true from decide_eq_true aa]
   refine bo ud ?_
   intro vu _ GU
   refine bg ?_;intro wz kz bz
   exact⟨by simp[wR,q1,q2,q3,q4,gW],bz⟩
  ·rw[show decide ((Int.gcd (numOf s xs) (numOf t ys):Int)=1)=false from decide_eq_false aa]
   refine bo ud ?_
   intro vu _ GU
   refine bg ?_;intro wz kz bz
   exact⟨by simp[wR,q1,q2,q3,q4,gW],bz⟩
 ·have q4:(numOf t ys).sign=0\/(numOf t ys).sign= -1:=by
   rcases Int.lt_trichotomy (numOf t ys) 0 with e|e|e
   ·exact .inr (sign_neg e)
   ·rw[e];exact .inl rfl
   ·exact absurd e q3
  rcases q4 with q4|q4
  all_goals
   rw[q4]
   refine bo cH ?_
   intro kB _ bb3
   refine bg ?_;intro wz kz bz
   exact⟨by simp[wR,q1,q2,q3,gW],bz⟩
theorem qC (w:World):Calls Tryz.prog 80 #[] w λe w'=>∃ r,e=.returned r/\aM w' w.heap.size r 0/\ax w w':=by
 refine ah (C:=bC Tryz.prog w _) (args:=[]) Tryz.func80 rfl Tryz.ntmps80 (bR rfl) ?_
 refine ae ?_
 refine VO.cI rfl rfl (fk Tryz.func142) (λbM dp cq=>jL 0 bM aa aa) (λbM dp cq w1 s1 p1 n1 c1 q1 aQ eF _ bb1=>wV rfl ?_)
 refine ae ?_
 refine VO.cI rfl rfl (fk Tryz.func142) (λcE ed da=>jL 1 cE aa aa) (λcE ed da w2 s2 p2 n2 c2 q2 ba fG _ bb2=>wV rfl ?_)
 refine ae ?_
 refine bg ?_;intro wz kz bz
 exact⟨_,rfl,⟨_,_,_,_,_,_,_,_,rfl,(q1.kp (fG.ay kz)).mono cq.size,(q2.kp kz).mono da.size⟩,bz⟩
theorem od (v:Value) (q:Rat) (k:Nat) (w:World) (h:bS w v q k) (hk:k<=134217728):
  Calls Tryz.prog 70 #[v] w λe w'=>∃ r,e=.returned r/\cM w' r q/\ax w w':=by
 obtain⟨s,xs,t,ys,mJ,rfl,hx,hy⟩:=h
 have zy:=mJ
 obtain⟨p,c,r,d,rfl,_,_⟩:=mJ
 refine ah (C:=bC Tryz.prog w _) (args:=[_]) Tryz.func70 rfl Tryz.ntmps70 (bR rfl) ?_
 refine ae ?_
 refine VO.call rfl rfl (fk Tryz.func133) (λbM dp cq=>(wY s t xs ys _ bM (zy.kp dp) aa aa).mono ?_)
 rintro e w1 ⟨rfl,aQ⟩
 cases hq:wR s xs t ys
 ·refine bo aQ ?_
  intro eF _ bb1
  refine VO.cR rfl rfl (fk Tryz.func80) (λcE ed da=>qC cE) (λcE ed da w2 s2 p2 n2 c2 t2 y2 m2 d2 h2 ba fG _ bb2=>wV rfl ?_)
  refine ae ?_
  refine bg ?_;intro wz kz bz
  exact⟨_,rfl,by rw[zw hq];exact (h2.kp kz).rd,bz⟩
 ·refine bo aQ ?_
  intro eF _ bb1
  refine bg ?_;intro wz kz bz
  exact⟨_,rfl,(zx zy hq).kp (eF.ay kz),bz⟩
theorem GZ {X Y:Int}:Rat.divInt X Y=Rat.divInt (-X) (-Y):=(Rat.neg_divInt_neg X Y).symm
theorem Bs (v u:Value) (X Y:Int) (j k:Nat) (w:World) (hv:bm w v X j) (hu:bm w u Y k) (hj:j<=134217728) (hk:k<=134217728):
  Calls Tryz.prog 139 #[v,u] w λe w'=>∃ r,e=.returned (.tuple #[r,.int .i64 (zA Y)])/\aM w' w.heap.size r (Rat.divInt X Y)/\ax w w':=by
 obtain⟨s,p,n,c,rfl⟩:=hv.form
 obtain⟨t,r,m,d,rfl⟩:=hu.form
 refine ah (C:=bC Tryz.prog w _) (args:=[_,_]) Tryz.func139 rfl Tryz.ntmps139 (bR rfl) ?_
 refine ae ?_
 refine VO.call rfl rfl (fk Tryz.func191) (λbM dp cq=>(bK _ Y k bM (hu.aG cq) aa).mono ?_)
 rintro e w1 ⟨rfl,aQ⟩
 by_cases hY:Y=0
 ·rw[show Y.sign=0 by rw[hY];rfl]
  refine bo aQ ?_
  intro eF _ bb1
  refine VO.cR rfl rfl (fk Tryz.func80) (λcE ed da=>qC cE) (λcE ed da w2 s2 p2 n2 c2 t2 y2 m2 d2 h2 ba fG _ bb2=>wV rfl ?_)
  refine ae ?_
  refine bg ?_;intro wz kz bz
  refine⟨_,by rw[zA,if_pos hY];rfl,?_,bz⟩
  rw[hY,Rat.divInt_zero]
  exact (h2.kp kz).mono da.size
 ·rcases Int.lt_or_lt_of_ne hY with q|q
  ·rw[sign_neg q]
   refine bo aQ ?_
   intro eF _ bb1
   refine VO.call rfl rfl (fk Tryz.func191) (λcE ed da=>(bK _ Y k cE (hu.aG da) aa).mono ?_)
   rintro e w2 ⟨rfl,ba⟩
   rw[sign_neg q]
   refine bo ba ?_
   intro fG _ bb2
   refine VO.cI rfl rfl (fk Tryz.func194) (λfc fC gf=>sQ _ X j fc (hv.aG gf) aa) (λfc fC gf w3 s3 p3 n3 c3 h3 cH kB _ bb3=>wV rfl ?_)
   refine ae ?_
   refine VO.cI rfl rfl (fk Tryz.func194) (λjZ lQ ll=>sQ _ Y k jZ (hu.aG ll) aa) (λjZ lQ ll w4 s4 p4 n4 c4 h4 iq qy _ CC=>wV rfl ?_)
   refine ae ?_
   have z3:Sz (-X) j:=Sz.neg hv.len
   have z4:Sz (-Y) k:=Sz.neg hu.len
   obtain⟨l1,l2⟩:=ry (X:= -X) (Y:= -Y) aa
   have GY:Sz (Int.gcd (-X) (-Y):Int) k:=wU z4 aa
   have GA:(Int.gcd (-X) (-Y):Int)≠0:=by
    intro e
    have:=(Int.gcd_eq_zero_iff.1 (show Int.gcd (-X) (-Y)=0 by omega)).2
    omega
   refine VO.cI rfl rfl (fk Tryz.func193) (λja kc ke=>sY _ _ (-X) (-Y) j k ja ((h3.kp (qy.ay kc)).in z3) ((h4.kp kc).in z4) aa aa) (λja kc ke w5 s5 p5 n5 c5 h5 iW nW _ Af=>wV rfl ?_)
   refine ae ?_
   refine VO.call rfl rfl (fk Tryz.func195) (λsX qQ wG=>(iP _ _ (-X) (Int.gcd (-X) (-Y):Int) j k sX ((h3.kp (qy.ay (nW.ay qQ))).in z3) ((h5.kp qQ).in GY) aa aa).mono ?_)
   rintro e w6 ⟨hd6,ud⟩
   obtain⟨v6,u6,rfl,h6,h6'⟩:=du hd6 GA
   obtain⟨s6,p6,n6,c6,rfl⟩:=h6.form
   obtain⟨t6,r6,m6,d6,rfl⟩:=h6'.form
   refine bo ud ?_
   intro vu _ GU
   refine VO.call rfl rfl (fk Tryz.func195) (λBm CI vw=>(iP _ _ (-Y) (Int.gcd (-X) (-Y):Int) k k Bm ((h4.kp (nW.ay (vu.ay CI))).in z4) ((h5.kp (vu.ay CI)).in GY) aa aa).mono ?_)
   rintro e w7 ⟨hd7,ES⟩
   obtain⟨v7,u7,rfl,h7,h7'⟩:=du hd7 GA
   obtain⟨s7,p7,n7,c7,rfl⟩:=h7.form
   obtain⟨t7,r7,m7,d7,rfl⟩:=h7'.form
   refine bo ES ?_
   intro CJ _ bb7
   refine bg ?_;intro wz kz bz
   rw[GZ]
   exact⟨_,by rw[zA,if_neg hY];rfl,⟨_,_,_,_,_,_,_,_,rfl,ar.cast ((h6.kp (CJ.ay kz)).mono wG.size) l1,ar.cast ((h7.kp kz).mono vw.size) l2⟩,bz⟩
  ·rw[de q]
   refine bo aQ ?_
   intro eF _ bb1
   refine VO.call rfl rfl (fk Tryz.func191) (λcE ed da=>(bK _ Y k cE (hu.aG da) aa).mono ?_)
   rintro e w2 ⟨rfl,ba⟩
   rw[de q]
   refine bo ba ?_
   intro fG _ bb2
   obtain⟨l1,l2⟩:=ry (X:=X) (Y:=Y) q
   have GY:Sz (Int.gcd X Y:Int) k:=wU hu.len hY
   have GA:(Int.gcd X Y:Int)≠0:=by
    intro e
    have:=(Int.gcd_eq_zero_iff.1 (show Int.gcd X Y=0 by omega)).2
    omega
   refine VO.cI rfl rfl (fk Tryz.func193) (λja kc ke=>sY _ _ X Y j k ja (hv.aG ke) (hu.aG ke) aa aa) (λja kc ke w5 s5 p5 n5 c5 h5 iW nW _ Af=>wV rfl ?_)
   refine ae ?_
   refine VO.call rfl rfl (fk Tryz.func195) (λsX qQ wG=>(iP _ _ X (Int.gcd X Y:Int) j k sX (hv.aG wG) ((h5.kp qQ).in GY) aa aa).mono ?_)
   rintro e w6 ⟨hd6,ud⟩
   obtain⟨v6,u6,rfl,h6,h6'⟩:=du hd6 GA
   obtain⟨s6,p6,n6,c6,rfl⟩:=h6.form
   obtain⟨t6,r6,m6,d6,rfl⟩:=h6'.form
   refine bo ud ?_
   intro vu _ GU
   refine VO.call rfl rfl (fk Tryz.func195) (λBm CI vw=>(iP _ _ Y (Int.gcd X Y:Int) k k Bm (hu.aG vw) ((h5.kp (vu.ay CI)).in GY) aa aa).mono ?_)
   rintro e w7 ⟨hd7,ES⟩
   obtain⟨v7,u7,rfl,h7,h7'⟩:=du hd7 GA
   obtain⟨s7,p7,n7,c7,rfl⟩:=h7.form
   obtain⟨t7,r7,m7,d7,rfl⟩:=h7'.form
   refine bo ES ?_
   intro CJ _ bb7
   refine bg ?_;intro wz kz bz
   exact⟨_,by rw[zA,if_neg hY];rfl,⟨_,_,_,_,_,_,_,_,rfl,ar.cast ((h6.kp (CJ.ay kz)).mono wG.size) l1,ar.cast ((h7.kp kz).mono vw.size) l2⟩,bz⟩
theorem Em (n d:Int) (w:World) (h0: -9223372036854775808<=n) (h1:n<=9223372036854775807) (g0: -9223372036854775808<=d) (g1:d<=9223372036854775807):
  Calls Tryz.prog 104 #[.int .i64 n,.int .i64 d] w λe w'=>∃ r,e=.returned (.tuple #[r,.int .i64 (zA d)])/\aM w' w.heap.size r (Rat.divInt n d)/\ax w w':=by
 refine ah (C:=bC Tryz.prog w _) (args:=[_,_]) Tryz.func104 rfl Tryz.ntmps104 (bR rfl) ?_
 refine ae ?_
 refine VO.cI rfl rfl (fk Tryz.func142) (λbM dp cq=>jL n bM h0 h1) (λbM dp cq w1 s1 p1 n1 c1 q1 aQ eF _ bb1=>wV rfl ?_)
 refine ae ?_
 refine VO.cI rfl rfl (fk Tryz.func142) (λcE ed da=>jL d cE g0 g1) (λcE ed da w2 s2 p2 n2 c2 q2 ba fG _ bb2=>wV rfl ?_)
 refine ae ?_
 refine VO.call rfl rfl (fk Tryz.func139) (λfc fC gf=>(Bs _ _ n d 2 2 fc ((q1.kp (fG.ay fC)).in (Sz.of_lt aa)) ((q2.kp fC).in (Sz.of_lt aa)) aa aa).mono ?_)
 rintro e w3 ⟨r3,rfl,q3,cH⟩
 obtain⟨s3,p3,n3,c3,t3,x3,m3,d3,rfl⟩:=q3.form
 refine bo cH ?_
 intro kB _ bb3
 refine bg ?_;intro wz kz bz
 exact⟨_,rfl,(q3.kp kz).mono gf.size,bz⟩
theorem pO (v u:Value) (q r:Rat) (k l:Nat) (w:World) (hv:bS w v q k) (hu:bS w u r l) (hk:k<=67108864) (hl:l<=67108864) (c:Int) (hc:Bp q r=c):
 Calls Tryz.prog 43 #[v,u] w λe w'=>e=.returned (.int .i64 c)/\ax w w':=hc▸Br v u q r k l w hv hu hk hl
inductive ew (w:World) (k:Nat):List Rat->List (List Value)->Prop
 | nil:ew w k [] []
 | cons {s:Bool} {p:Option Addr} {n c:Nat} {t:Bool} {r:Option Addr} {m d:Nat} {q:Rat} {qs:List Rat} {vs:List (List Value)}:bS w (.agg #[.bool s,.slice p n c,.bool t,.slice r m d]) q k->ew w k qs vs->ew w k (q::qs) ([.bool s,.slice p n c,.bool t,.slice r m d]::vs)
theorem ew.four {w:World} {k:Nat} {qs:List Rat} {vs:List (List Value)} (h:ew w k qs vs):∀ v∈vs,v.length=4:=by
 induction h with
 | nil=>intro v hv;cases hv
 | cons _ _ ih=>
   intro v hv
   rcases List.mem_cons.1 hv with rfl|e
   ·rfl
   ·exact ih v e
theorem ew.at {w:World} {k:Nat} {qs:List Rat} {vs:List (List Value)} (h:ew w k qs vs):∀ (j:Nat) (q:Rat),qs[j]? =some q->∃ s p' n' c' t r m d,vs[j]? =some [Value.bool s,.slice p' n' c',.bool t,.slice r m d]/\bS w (.agg #[.bool s,.slice p' n' c',.bool t,.slice r m d]) q k:=by
 induction h with
 | nil=>intro j q hq;simp at hq
 | cons h1 _ ih=>
   intro j q hq
   cases j with
   | zero=>cases hq;exact⟨_,_,_,_,_,_,_,_,rfl,h1⟩
   | succ j=>exact ih j q (by simpa using hq)
theorem flat_at:∀ (vs:List (List Value)) (j:Nat) (v:List Value),(∀ v∈vs,v.length=4)->vs[j]? =some v->∀ (o:Nat) (u:Value),v[o]? =some u->vs.flatten[j*4+o]? =some u:=by
 intro vs
 induction vs with
 | nil=>intro j v _ h;simp at h
 | cons x r ih=>
   intro j v hl h o u hu
   have hx:x.length=4:=hl x cX
   cases j with
   | zero=>
     simp at h
     subst h
     have ho:o<4:=by have:=(List.getElem?_eq_some_iff.1 hu).1;omega
     rw[List.flatten_cons,List.getElem?_append_left aa]
     simpa using hu
   | succ j=>
     have h':r[j]? =some v:=by simpa using h
     rw[List.flatten_cons,List.getElem?_append_right aa,hx,show (j+1)*4+o-4=j*4+o by omega]
     exact ih j v (λv hv=>hl v (by simp[hv])) h' o u hu
theorem lS {C:Cx} {β:Nat->Nat} {w:World} {i:Nat} {t:TypeId} {cs:List AV} {qs:List Rat} {k:Nat} {vs:List (List Value)} {n c:Nat} (h:jG C β w i t cs) (spare:List AV) (hcs:cs=vs.flatten.map .val++spare) (hn:n=qs.length) (hq:ew w k qs vs) (hc:n<=c) (eZ:c<=maxLen):
  pN w (.slice (some ⟨β i,0,none⟩) n c) qs k:=by
 subst hn
 refine⟨_,_,rfl,hc,eZ,λj q hj=> ?_⟩
 obtain⟨s,p',n',c',t',r,m,d,hvj,ra⟩:=hq.at j q hj
 refine⟨β i,0,s,p',n',c',t',r,m,d,rfl,λo u hu=> ?_,ra⟩
 refine h.cls.cell ?_
 have:=flat_at vs j _ hq.four hvj o u hu
 rw[hcs,List.map_append,aU,List.getElem?_toArray,Nat.zero_add,List.getElem?_append_left (List.getElem?_eq_some_iff.1 this).1]
 exact this
theorem tc (v:Value) (q:Rat) (k:Nat) (w:World) (hv:bS w v q k) (hk:k<=536870912) (c:Int) (hc:Bp q 0=c):
 Calls Tryz.prog 57 #[v] w λe w'=>e=.returned (.int .i64 c)/\ax w w':=hc▸zB v q k w hv hk
theorem cN.in {w:World} {v:Value} {s t:Bool} {xs ys:List Nat} {k:Nat} (h:cN w v s xs t ys) (hx:xs.length<=k) (hy:ys.length<=k):bS w v (rq s xs t ys) k:=⟨s,xs,t,ys,h,rfl,hx,hy⟩
theorem cN.CK {w:World} {v:Value} {s t:Bool} {xs ys:List Nat} (h:cN w v s xs t ys):∃ p c r d,v=.agg #[.bool s,.slice p xs.length c,.bool t,.slice r ys.length d]/\True:=by
 obtain⟨p,c,r,d,rfl,_⟩:=h
 exact⟨_,_,_,_,rfl,trivial⟩
end
section
open Go.RowKit
abbrev xu (T:TypeId->Bool) (w w':World):Prop:=aH ⟨UU,λ_=>True,T⟩ w w'
structure eg {α:Type} (E:World->List Value->α->Prop) (sz:Nat):Prop where
 kp:∀ {w w':World} {cs:List Value} {a:α},E w cs a->Kp UU w w'->E w' cs a
 len:∀ {w:World} {cs:List Value} {a:α},E w cs a->cs.length=sz
 ok:∀ {w:World} {cs:List Value} {a:α},E w cs a->cs.all aY=true
theorem xu.plain {T:TypeId->Bool} {w w':World} (h:xu T w w'):Kp UU w w':=h.gw
inductive dy {α:Type} (E:World->List Value->α->Prop) (w:World):List α->List (List Value)->Prop
 | nil:dy E w [] []
 | cons {a:α} {es:List α} {cs:List Value} {vs:List (List Value)}:E w cs a->dy E w es vs->dy E w (a::es) (cs::vs)
section
variable {α:Type} {E:World->List Value->α->Prop} {sz:Nat} {w w':World} {es:List α} {vs:List (List Value)}
theorem dy.len (h:dy E w es vs):vs.length=es.length:=by
 induction h with
 | nil=>rfl
 | cons _ _ ih=>simp[ih]
theorem dy.kp (hE:eg E sz) (h:dy E w es vs) (k:Kp UU w w'):dy E w' es vs:=by
 induction h with
 | nil=>exact .nil
 | cons h1 _ ih=>exact .cons (hE.kp h1 k) ih
theorem dy.at (h:dy E w es vs):∀ (j:Nat) (a:α),es[j]? =some a->∃ cs,vs[j]? =some cs/\E w cs a:=by
 induction h with
 | nil=>intro j q hq;simp at hq
 | cons h1 _ ih=>
   intro j q hq
   cases j with
   | zero=>cases hq;exact⟨_,rfl,h1⟩
   | succ j=>exact ih j q (by simpa using hq)
theorem dy.append {es':List α} {vs':List (List Value)} (h:dy E w es vs) (h':dy E w es' vs'):dy E w (es++es') (vs++vs'):=by
 induction h with
 | nil=>exact h'
 | cons h1 _ ih=>exact .cons h1 ih
theorem dy.snoc {a:α} {cs:List Value} (h:dy E w es vs) (h':E w cs a):dy E w (es++[a]) (vs++[cs]):=h.append (.cons h' .nil)
theorem dy.ok (hE:eg E sz) (h:dy E w es vs):vs.flatten.all aY=true/\vs.flatten.length=es.length*sz:=by
 induction h with
 | nil=>exact⟨rfl,by simp⟩
 | cons h1 _ ih=>
   refine⟨?_,?_⟩
   ·rw[List.flatten_cons,List.all_append,ih.1,hE.ok h1];rfl
   ·rw[List.flatten_cons,List.length_append,ih.2,hE.len h1,List.length_cons,Nat.add_mul,Nat.one_mul,Nat.add_comm]
theorem dy.cell (hE:eg E sz) (h:dy E w es vs):∀ (j:Nat) (cs:List Value),vs[j]? =some cs->∀ (o:Nat) (u:Value),cs[o]? =some u->vs.flatten[j*sz+o]? =some u:=by
 induction h with
 | nil=>intro j v h;simp at h
 | @cons a es cs vs h1 _ ih=>
   intro j v h o u hu
   have hx:=hE.len h1
   cases j with
   | zero=>
     simp at h
     subst h
     have ho:o<sz:=by have:=(List.getElem?_eq_some_iff.1 hu).1;omega
     rw[List.flatten_cons,Nat.zero_mul,Nat.zero_add,List.getElem?_append_left aa]
     exact hu
   | succ j=>
     rw[List.flatten_cons,List.getElem?_append_right (by rw[Nat.add_mul];omega)]
     have:=ih j v (by simpa using h) o u hu
     rw[<-this]
     congr 1
     rw[Nat.add_mul]
     omega
def bj (E:World->List Value->α->Prop) (sz:Nat) (w:World) (v:Value) (es:List α):Prop:=
 ∃ p c,v=.slice p es.length c/\es.length<=c/\c<=maxLen/\∀ (i:Nat) (a:α),es[i]? =some a->∃ b off cs,p=some ⟨b,off,none⟩/\(∀ (j:Nat) (u:Value),cs[j]? =some u->w.cell? ⟨b,off+i*sz+j,none⟩=some u)/\E w cs a
theorem bj.form {v:Value} (h:bj E sz w v es):∃ p c,v=.slice p es.length c/\es.length<=c/\c<=9223372036854775807:=by
 obtain⟨p,c,hv,h1,h2,_⟩:=h
 exact⟨p,c,hv,h1,by simpa [maxLen] using h2⟩
theorem bj.at {p:Option Addr} {n c i:Nat} {a:α} (h:bj E sz w (.slice p n c) es) (hq:es[i]? =some a):∃ b off cs,p=some ⟨b,off,none⟩/\(∀ (j:Nat) (u:Value),cs[j]? =some u->w.cell? ⟨b,off+i*sz+j,none⟩=some u)/\E w cs a:=by
 obtain⟨p',c',hv,h1,h2,h3⟩:=h
 cases hv
 exact h3 i a hq
theorem bj.aG (hE:eg E sz) {v:Value} (h:bj E sz w v es) (hb:ax w w'):bj E sz w' v es:=by
 obtain⟨p,c,hv,h1,h2,h3⟩:=h
 refine⟨p,c,hv,h1,h2,λi q hq=> ?_⟩
 obtain⟨b,off,cs,hp,hc,hr⟩:=h3 i q hq
 exact⟨b,off,cs,hp,λj u hj=>hb.cell (hc j u hj),hE.kp hr (Kp.of hb)⟩
theorem bj.mono {E':World->List Value->α->Prop} {v:Value} (h:bj E sz w v es) (hm:∀ (i:Nat) (a:α) (cs:List Value),es[i]? =some a->E w cs a->E' w cs a):bj E' sz w v es:=by
 obtain⟨p,c,hv,h1,h2,h3⟩:=h
 refine⟨p,c,hv,h1,h2,λi q hq=> ?_⟩
 obtain⟨b,off,cs,hp,hc,hr⟩:=h3 i q hq
 exact⟨b,off,cs,hp,hc,hm i q cs hq hr⟩
theorem bj.nil (w:World) (E:World->List Value->α->Prop) (sz:Nat):bj E sz w (.slice none 0 0) []:=⟨none,0,rfl,Nat.le_refl _,by decide,λi q hq=>by simp at hq⟩
theorem dy.lens (hE:eg E sz) (h:dy E w es vs):∀ v∈vs,v.length=sz:=by
 induction h with
 | nil=>intro v hv;cases hv
 | cons h1 _ ih=>
   intro v hv
   rcases List.mem_cons.1 hv with rfl|e
   ·exact hE.len h1
   ·exact ih v e
theorem jq (hE:eg E sz) {b n c:Nat} {t:TypeId} {spare:List Value} (h:aI w b t (vs.flatten++spare).toArray) (hr:dy E w es vs) (hn:n=es.length) (hc:n<=c) (hm:c<=9223372036854775807):bj E sz w (.slice (some ⟨b,0,none⟩) n c) es:=by
 subst hn
 refine⟨_,_,rfl,hc,by simpa [maxLen] using hm,λi a ha=> ?_⟩
 obtain⟨cs,h1,h2⟩:=hr.at i a ha
 refine⟨b,0,cs,rfl,λj u hj=> ?_,h2⟩
 have:=hr.cell hE i cs h1 j u hj
 refine h.cell ?_
 rw[List.getElem?_toArray,Nat.zero_add,List.getElem?_append_left (List.getElem?_eq_some_iff.1 this).1]
 exact this
def aC (E:World->List Value->α->Prop) (sz:Nat) (t:TypeId) (B:Nat) (w:World) (v:Value) (es:List α):Prop:=
 (v=.slice none 0 0/\es=[])\/∃ b c vs spare,v=.slice (some ⟨b,0,none⟩) es.length c/\B<=b/\aI w b t (vs.flatten++spare).toArray/\dy E w es vs/\spare.all aY=true/\es.length<=c/\c<=9223372036854775807/\(vs.flatten++spare).length=c*sz
theorem aC.sl (hE:eg E sz) {t:TypeId} {B:Nat} {v:Value} (h:aC E sz t B w v es):bj E sz w v es:=by
 rcases h with ⟨rfl,rfl⟩|⟨b,c,vs,spare,rfl,_,h1,h2,_,h3,h4,_⟩
 ·exact bj.nil _ _ _
 ·exact jq hE h1 h2 rfl h3 h4
theorem aC.form {t:TypeId} {B:Nat} {v:Value} (h:aC E sz t B w v es):∃ p c,v=.slice p es.length c:=by
 rcases h with ⟨rfl,rfl⟩|⟨b,c,vs,spare,rfl,_⟩
 ·exact⟨_,_,rfl⟩
 ·exact⟨_,_,rfl⟩
theorem aC.kp (hE:eg E sz) {t:TypeId} {B:Nat} {v:Value} {T:TypeId->Bool} (h:aC E sz t B w v es) (k:xu T w w') (ht:T t=true):aC E sz t B w' v es:=by
 rcases h with ⟨rfl,rfl⟩|⟨b,c,vs,spare,rfl,h0,h1,h2,h3⟩
 ·exact .inl ⟨rfl,rfl⟩
 ·refine .inr ⟨b,c,vs,spare,rfl,h0,k.block t b _ ?_ trivial h1,h2.kp hE k.plain,h3⟩
  show (Nat.beq t UU || T t)=true
  rw[ht]
  simp
theorem aC.mono {t:TypeId} {B B':Nat} {v:Value} (h:aC E sz t B w v es) (hB:B'<=B):aC E sz t B' w v es:=by
 rcases h with h|⟨b,c,vs,spare,hv,h0,h1⟩
 ·exact .inl h
 ·exact .inr ⟨b,c,vs,spare,hv,Nat.le_trans hB h0,h1⟩
end
section
variable {C:Cx} {F:Fr} {H:Hp} {w:World} {m:Option (List FuncId)} {full:Array Oper} {K:Fr->Hp->World->Prop} {o:Oper} {r:List Oper}
end
theorem jP {α:Type} {E:World->List Value->α->Prop} {sz:Nat} {C:Cx} {β:Nat->Nat} {w:World} {i n c:Nat} {t:TypeId} {es:List α} {vs:List (List Value)} {spare:List AV} (h:jG C β w i t (vs.flatten.map .val++spare)) (hr:dy E w es vs) (hn:n=es.length) (hc:n<=c) (hm:c<=9223372036854775807) (hl:(vs.flatten.map AV.val++spare).length=c*sz)
  (hnw:∀ i g,C.qh i g->C.w0.heap.size<=g:=by exact λ_ _ h=>h):aC E sz t C.w0.heap.size w (.slice (some ⟨β i,0,none⟩) n c) es:=by
 subst hn
 have hk:=h.ok
 rw[List.all_append,Bool.and_eq_true] at hk
 refine .inr ⟨β i,c,vs,spare.map (AV.leaf β),rfl,hnw _ _ h.new,?_,hr,cZ hk.2,hc,hm,by rw[<-hl];simp only[List.length_append,List.length_map]⟩
 have:=h.cls
 rw[List.map_append,aU] at this
 exact this
theorem cK {n d:Int} (h0: -9223372036854775808<=n) (h1:n<=9223372036854775807) (g0: -9223372036854775808<=d) (g1:d<=9223372036854775807):kt (Rat.divInt n d) 2:=by
 by_cases hd:d=0
 ·rw[hd,Rat.divInt_zero];exact kt.zero.mono aa
 ·exact pM (Sz.of_lt aa) (Sz.of_lt aa) hd
end
set_option maxRecDepth 4000
section
open Go.RowKit
attribute [local irreducible] aq VS
theorem gH (xs:List Nat) (v:Value) (n:Nat) (w:World) (hr:Rd w 1 v n (ints .u32 xs)) (hn:n<=1073741824):
  Calls Tryz.prog 69 #[v] w λe w'=>∃ p c,e=.returned (.slice p n c)/\w'.ownsRow w.heap.size UU 1 (.slice p n c) n (ints .u32 xs)/\ax w w':=by
 obtain⟨p,c,rfl,oJ⟩:∃ p c,v=.slice p n c/\True:=by
  obtain⟨p,c,hv,_⟩:=hr
  exact⟨p,c,hv,trivial⟩
 refine ah (C:=bC Tryz.prog w _) (args:=[_]) Tryz.func69 rfl Tryz.ntmps69 (bR rfl) ?_
 refine ae ?_
 refine VO.appU (bZ _ _) (t:=23) (e:=78) (n:=n) (news:=ints .u32 xs) rfl rfl rfl rfl rfl (jc .u32 xs) aa (λw1 k1 b1=>hr.below b1) (λw2 p2 c2 k2 b2 ho=>wV rfl ?_)
 refine ae ?_
 refine bg ?_;intro wz kz bz
 exact⟨_,_,rfl,Own.kp ho kz,bz⟩
theorem dz.CL {w:World} {s:Bool} {p:Option Addr} {xs:List Nat} {c:Nat} (h:dz w (.agg #[.bool s,.slice p xs.length c]) s xs):Rd w 1 (.slice p xs.length c) xs.length (ints .u32 xs)/\bA xs:=by
 obtain⟨p',c',hv,hr,hl⟩:=h
 simp only[Value.agg.injEq,Array.mk.injEq,List.cons.injEq,and_true,true_and,Value.slice.injEq] at hv
 obtain⟨rfl,rfl⟩:=hv
 exact⟨hr,hl⟩
def jQ (w:World) (B:Nat) (v:Value) (s:Bool) (xs:List Nat) (t:Bool) (ys:List Nat):Prop:=
 ∃ p c r d,v=.agg #[.bool s,.slice p xs.length c,.bool t,.slice r ys.length d]/\w.ownsRow B UU 1 (.slice p xs.length c) xs.length (ints .u32 xs)/\w.ownsRow B UU 1 (.slice r ys.length d) ys.length (ints .u32 ys)/\bA xs/\bA ys
theorem jQ.raw {w:World} {B:Nat} {v:Value} {s:Bool} {xs:List Nat} {t:Bool} {ys:List Nat} (h:jQ w B v s xs t ys):cN w v s xs t ys:=by
 obtain⟨p,c,r,d,hv,h1,h2,h3,h4⟩:=h
 exact⟨p,c,r,d,hv,⟨_,_,rfl,Rd.own h1,h3⟩,⟨_,_,rfl,Rd.own h2,h4⟩⟩
theorem jQ.kp {T:TypeId->Bool} {w w':World} {B:Nat} {v:Value} {s:Bool} {xs:List Nat} {t:Bool} {ys:List Nat} (h:jQ w B v s xs t ys) (k:aH ⟨UU,λ_=>True,T⟩ w w'):jQ w' B v s xs t ys:=by
 obtain⟨p,c,r,d,hv,h1,h2,h3,h4⟩:=h
 exact⟨p,c,r,d,hv,Own.kp h1 k,Own.kp h2 k,h3,h4⟩
theorem jQ.own {w:World} {B:Nat} {v:Value} {q:Rat} (h:jQ w B v (decide (q.num<0)) (limbs q.num.natAbs) (decide ((q.den:Int)<0)) (limbs (q.den:Int).natAbs)):aM w B v q:=by
 obtain⟨p,c,r,d,rfl,h1,h2,h3,h4⟩:=h
 exact⟨_,p,_,c,_,r,_,d,rfl,⟨_,_,rfl,h1⟩,⟨_,_,rfl,h2⟩⟩
theorem td (s t:Bool) (xs ys:List Nat) (v:Value) (w:World) (h:cN w v s xs t ys) (hx:xs.length<=1073741824) (hy:ys.length<=1073741824):
  Calls Tryz.prog 21 #[v] w λe w'=>∃ r,e=.returned r/\jQ w' w.heap.size r s xs t ys/\ax w w':=by
 obtain⟨p,c,r,d,rfl,h1,h2⟩:=h
 refine ah (C:=bC Tryz.prog w _) (args:=[_]) Tryz.func21 rfl Tryz.ntmps21 (bR rfl) ?_
 refine ae ?_
 refine VO.call rfl rfl (fk Tryz.func69) (λbM dp cq=>(gH xs _ _ bM (h1.aG cq).CL.1 hx).mono ?_)
 rintro e w1 ⟨p1,c1,rfl,q1,aQ⟩
 skip
 refine bo aQ ?_
 intro eF _ bb1
 refine VO.call rfl rfl (fk Tryz.func69) (λcE ed da=>(gH ys _ _ cE (h2.aG da).CL.1 hy).mono ?_)
 rintro e w2 ⟨p2,c2,rfl,q2,ba⟩
 skip
 refine bo ba ?_
 intro fG _ bb2
 refine bg ?_;intro wz kz bz
 exact⟨_,rfl,⟨_,_,_,_,rfl,Own.kp (Own.mono q1 cq.size) (fG.ay kz),Own.kp (Own.mono q2 da.size) kz,h1.CL.2,h2.CL.2⟩,bz⟩
theorem En (s t:Bool) (xs ys:List Nat) (v:Value) (w:World) (h:cN w v s xs t ys) (hx:xs.length<=1073741824) (hy:ys.length<=1073741824):
  Calls Tryz.prog 105 #[v] w λe w'=>∃ r,e=.returned r/\jQ w' w.heap.size r s xs t ys/\ax w w':=by
 obtain⟨p,c,r,d,rfl,h1,h2⟩:=h
 refine ah (C:=bC Tryz.prog w _) (args:=[_]) Tryz.func105 rfl Tryz.ntmps105 (bR rfl) ?_
 refine ae ?_
 refine VO.call rfl rfl (fk Tryz.func69) (λbM dp cq=>(gH xs _ _ bM (h1.aG cq).CL.1 hx).mono ?_)
 rintro e w1 ⟨p1,c1,rfl,q1,aQ⟩
 skip
 refine bo aQ ?_
 intro eF _ bb1
 refine VO.call rfl rfl (fk Tryz.func69) (λcE ed da=>(gH ys _ _ cE (h2.aG da).CL.1 hy).mono ?_)
 rintro e w2 ⟨p2,c2,rfl,q2,ba⟩
 skip
 refine bo ba ?_
 intro fG _ bb2
 refine bg ?_;intro wz kz bz
 exact⟨_,rfl,⟨_,_,_,_,rfl,Own.kp (Own.mono q1 cq.size) (fG.ay kz),Own.kp (Own.mono q2 da.size) kz,h1.CL.2,h2.CL.2⟩,bz⟩
theorem iZ {K:KC} {w w':World} (h:aH K w w':=by (with_reducible (repeat (first|assumption|exact kU _|exact kR _|exact Kp.of (U:=UU) (by assumption)|exact aH.of (by assumption)|refine kT ?_ (by assumption))))):aH K w w':=h
theorem dk (n d:Int) (w:World) (h0: -9223372036854775808<=n) (h1:n<=9223372036854775807) (g0: -9223372036854775808<=d) (g1:d<=9223372036854775807):
  Calls Tryz.prog 45 #[.int .i64 n,.int .i64 d] w λe w'=>∃ r,e=.returned r/\aM w' w.heap.size r (Rat.divInt n d)/\ax w w':=by
 refine ah (C:=bC Tryz.prog w _) (args:=[_,_]) Tryz.func45 rfl Tryz.ntmps45 (bR rfl) ?_
 refine ae ?_
 refine VO.call rfl rfl (fk Tryz.func104) (λbM dp cq=>(Em n d bM h0 h1 g0 g1).mono ?_)
 rintro e w1 ⟨r1,rfl,q1,aQ⟩
 obtain⟨s1,p1,n1,c1,t1,y1,m1,d1,rfl⟩:=q1.form
 refine bo aQ ?_
 intro eF _ bb1
 have hsz:(limbs (Rat.divInt n d).num.natAbs).length<=4/\(limbs ((Rat.divInt n d).den:Int).natAbs).length<=4:=by
  by_cases hd:d=0
  ·rw[hd,Rat.divInt_zero];exact⟨kt.zero.1.mono aa,kt.zero.2.mono aa⟩
  ·have h:=pM (X:=n) (Y:=d) (k:=2) (l:=2) (Sz.of_lt aa) (Sz.of_lt aa) hd
   exact⟨h.1.mono aa,h.2.mono aa⟩
 refine VO.call rfl rfl (fk Tryz.func105) (λcE ed da=>(En _ _ _ _ _ cE (q1.kp iZ).rd.raw aa aa).mono ?_)
 rintro e w2 ⟨r2,rfl,q2,ba⟩
 obtain⟨p2,c2,y2,d2,rfl,_⟩:=q2.raw.CK
 refine bo ba ?_
 intro fG _ bb2
 refine bg ?_;intro wz kz bz
 exact⟨_,rfl,((q2.kp kz).own).mono da.size,bz⟩
theorem tf (xs:List Nat) (v u:Value) (n:Nat) (w:World) (hr:Rd w 1 v n (ints .u32 xs)) (hs:Rd w 1 u n (ints .u32 xs)) (tZ:n=xs.length):
  Calls Tryz.prog 71 #[v,u] w λe w'=>e=.returned (.bool true)/\ax w w':=by
 subst tZ
 obtain⟨n,hn⟩:∃ n,n=xs.length:=⟨_,rfl⟩
 rw[<-hn] at hr hs
 obtain⟨p,c,rfl,eD,eZ,dc⟩:=hr.u32
 obtain⟨q,d,rfl,Dj,Ab,_⟩:=hs.u32
 refine ah (C:=bC Tryz.prog w _) (args:=[_,_]) Tryz.func71 rfl Tryz.ntmps71 (bR rfl) ?_
 refine ae ?_
 refine VS.bt rfl cX ?_
 refine ae ?_
 refine VS.loop (J:=λms L M w'=>∃ (k:Nat),k<=n/\ms=n-k/\L=[(0,.val (.slice p n c)),(1,.val (.slice q n d)),(5,.val (.int .i64 (k:Int)))]/\M=[]) n ⟨_,_,?_,?_,?_,?_,⟨0,by omega,rfl,rfl,rfl⟩⟩ ?_
 ·exact fx
 ·exact fx
 ·rfl
 ·exact qR
 rintro ms L M w' ⟨k,hk,hms,rfl,rfl⟩
 refine ae ?_
 by_cases nr:k<n
 ·refine VS.bu rfl (decide_eq_true (Int.ofNat_lt.2 nr)) ?_
  refine ae ?_
  obtain⟨b1,o1,x,rfl,aQ,dZ,jy⟩:=hr.cellAt nr
  obtain⟨b2,o2,y,rfl,ba,jW,tQ⟩:=hs.cellAt nr
  obtain rfl:x=y:=by rw[dZ] at jW;exact Option.some.inj jW
  refine VO.cond rfl dU (wV rfl ?_)
  refine VO.read rfl [.int .u32 (x:Int)] rfl (gv rfl jy) (wV rfl ?_)
  refine VO.cond rfl dU (wV rfl ?_)
  refine VO.read rfl [.int .u32 (x:Int)] rfl (gv rfl tQ) (wV rfl ?_)
  refine ae ?_
  refine VS.bt rfl cX ?_
  refine ae ?_
  refine VS.back (n-(k+1)) aa ⟨_,_,?_,?_,?_,?_,⟨k+1,by omega,rfl,rfl,rfl⟩⟩
  ·refine⟨rfl,rfl,?_,trivial⟩
   rw[<-aZ aa];rfl
  ·exact fx
  ·rfl
  ·exact qR
 ·refine VS.bt rfl (decide_eq_false (λe=>nr (Int.ofNat_lt.1 e))) ?_
  refine ae ?_
  refine bg ?_;intro wz kz bz
  exact⟨rfl,bz⟩
theorem Eo (s t:Bool) (xs ys:List Nat) (v u:Value) (w:World) (hv:cN w v s xs t ys) (hu:cN w u s xs t ys):
  Calls Tryz.prog 25 #[v,u] w λe w'=>e=.returned (.bool true)/\ax w w':=by
 obtain⟨p,c,r,d,rfl,v1,v2⟩:=hv
 obtain⟨p',c',r',d',rfl,u1,u2⟩:=hu
 refine ah (C:=bC Tryz.prog w _) (args:=[_,_]) Tryz.func25 rfl Tryz.ntmps25 (bR rfl) ?_
 refine ae ?_
 refine VO.fix 12 rfl (congrArg (λb=>AV.val (.bool b)) (show (s == s)=true by simp)) ?_
 refine ae ?_
 refine VO.fix 21 rfl (congrArg (λb=>AV.val (.bool b)) (show (t == t)=true by simp)) ?_
 refine ae ?_
 refine VO.cB rfl rfl (fk Tryz.func71) (λbM dp cq=>tf xs _ _ _ bM (v1.aG cq).CL.1 (u1.aG cq).CL.1 rfl) (λbM dp cq w1 aQ eF _ bb1=>wV rfl ?_)
 refine ae ?_
 refine VO.cB rfl rfl (fk Tryz.func71) (λcE ed da=>tf ys _ _ _ cE (v2.aG da).CL.1 (u2.aG da).CL.1 rfl) (λcE ed da w2 ba fG _ bb2=>wV rfl ?_)
 refine ae ?_
 refine bg ?_;intro wz kz bz
 exact⟨rfl,bz⟩
theorem vA (q:Rat) (v u:Value) (w:World) (hv:cM w v q) (hu:cM w u q):
 Calls Tryz.prog 25 #[v,u] w λe w'=>e=.returned (.bool true)/\ax w w':=Eo _ _ _ _ v u w hv.raw hu.raw
end
section
open Go.RowKit
section
variable {T:TypeId->Bool} {w w':World} {v:Value} {q:Rat} {X:Int} {B n:Nat}
theorem aM.k (h:aM w B v q) (k:aH ⟨UU,λ_=>True,T⟩ w w':=by exact iZ):aM w' B v q:=h.kp k
theorem aM.kr (h:aM w B v q) (k:aH ⟨UU,λ_=>True,T⟩ w w':=by exact iZ):cM w' v q:=(h.kp k).rd
theorem aM.ki (h:aM w B v q) (hs:kt q n) (k:aH ⟨UU,λ_=>True,T⟩ w w':=by exact iZ):bS w' v q n:=(h.kp k).in hs
end
end
section
open Go.RowKit
attribute [local irreducible] aq VS
theorem bne_y {a b:Int} (h:a≠b):(a != b)=true:=by simpa using h
theorem CM {a b:Int} (h:a=b):(a != b)=false:=by simpa using h
structure eh {α:Type} (E:World->List Value->α->Prop) (sz:Nat) (w:World) (n c:Nat) (vs:List (List Value)) (sp:List AV) (es:List α):Prop where
 len:n=es.length
 el:dy E w es vs
 so:sp.all aB=true
 sl:aA sp=[]
 le:n<=c
 cm:c<=9223372036854775807
 fl:(vs.flatten.map AV.val++sp).length=c*sz
section
variable {α:Type} {E:World->List Value->α->Prop} {sz n c:Nat} {w w':World} {vs:List (List Value)} {sp:List AV} {es:List α}
theorem eh.kp (hE:eg E sz) (h:eh E sz w n c vs sp es) (k:Kp UU w w'):eh E sz w' n c vs sp es:=⟨h.len,h.el.kp hE k,h.so,h.sl,h.le,h.cm,h.fl⟩
theorem eh.EW {M:List (Nat×(TypeId×List AV))} (h:eh E sz w n c vs sp es):aJ M (vs.flatten.map AV.val++sp):=.append (.vals _) (.none h.sl)
theorem eh.new {C:Cx} {β:Nat->Nat} {i:Nat} {t:TypeId} (hE:eg E sz) (h:eh E sz w n c vs sp es) (o:jG C β w' i t (vs.flatten.map .val++sp)) (k:Kp UU w w') (hnw:∀ i g,C.qh i g->C.w0.heap.size<=g:=by exact λ_ _ h=>h):
 aC E sz t C.w0.heap.size w' (.slice (some ⟨β i,0,none⟩) n c) es:=jP o (h.el.kp hE k) h.len h.le h.cm h.fl hnw
end
section
variable {C:Cx} {F:Fr} {H:Hp} {w:World} {m:Option (List FuncId)} {full:Array Oper} {K:Fr->Hp->World->Prop} {o:Oper} {r:List Oper}
theorem VO.oe (hC:C.Ok) {α:Type} {E:World->List Value->α->Prop} {sz:Nat} (hE:eg E sz) {t e te:TypeId} {it ie:TI} {x y:Operand} {s:Nat} {cs:List Value} {a:α} {dst:Nat}
  (e0:stepOf C full F H o=.call (.op o [.val (.slice none 0 0),.row s 0 1 1])) (ho:o.op=.call { callee:=.builtin .append,args:=#[x,y],argTypes:=#[t,t] })
  (wC:C.ti t=some it) (gz:it.elem=some (e,sz)) (tL:C.ti e=some ie) (hU:C.K.fz e=false) (hzo:ie.zero.cells.toList.all aY=true)
  (hd:o.dst=some dst) (hN:dst<C.N) (hl:lvl C.SU m o=2) (fD:H dst=none) (hs:H s=some (te,cs.map .val)) (hcs:E w cs a) (fi:24*sz<=140737488355328)
  (hK:∀ w2 cap sp,aH C.K w w2->C.Old w2->eh E sz w2 1 cap [cs] sp [a]->aq C m full r K (F.bc o.dst (.row dst 0 1 cap)) (H.put dst (e,[cs].flatten.map AV.val++sp)) w2)
  (hkp:∀ w w',aH C.K w w'->Kp UU w w':=by first|exact λ_ _ h=>h|exact λ_ _ h=>h.gw):aq C m full (o::r) K F H w:=by
 have hlen:=hE.len hcs
 refine VO.app hC e0 ho wC gz tL hU hzo hd hN hl (known:=[]) (spare:=[]) (del:=none) (n:=0) (c:=0) (mm:=1) (news:=cs.map .val) (.inl ⟨rfl,rfl,rfl,rfl,rfl,rfl,by omega⟩) (.inl fD) cX cX aa aa ⟨rfl,rfl,ak _⟩ ⟨rfl,rfl,cV (hE.ok hcs)⟩ (by rw[List.length_map,hlen];omega) aa
  (λw1 β k1 b1 ho=>⟨_,_,rfl,.inr ⟨β s,0,rfl,fv (rest:=[]) (ho.own s (.base (List.mem_append_right _ (List.mem_singleton.2 rfl))) _ _ hs) (by rw[List.append_nil])⟩⟩) (λw2 cap sp ρ k2 b2 eO h1 h2 h3 h4 h5=> ?_)
 have:=hK w2 cap sp k2 b2 ⟨rfl,.cons (hE.kp hcs (hkp _ _ k2)) .nil,h4,h5,by omega,h2,by simpa using h3⟩
 have e':([cs].flatten.map AV.val++sp)=([]++cs.map .val)++sp:=by simp
 rw[e'] at this
 exact this
theorem VO.og (hC:C.Ok) {α:Type} {E:World->List Value->α->Prop} {sz:Nat} (hE:eg E sz) {t e te:TypeId} {it ie:TI} {x y:Operand} {s i n c:Nat} {cs:List Value} {a:α} {vs:List (List Value)} {sp:List AV} {es:List α} {dst:Nat}
  (e0:stepOf C full F H o=.call (.op o [.row i 0 n c,.row s 0 1 1])) (ho:o.op=.call { callee:=.builtin .append,args:=#[x,y],argTypes:=#[t,t] })
  (wC:C.ti t=some it) (gz:it.elem=some (e,sz)) (tL:C.ti e=some ie) (hU:C.K.fz e=false) (hzo:ie.zero.cells.toList.all aY=true)
  (hd:o.dst=some dst) (hN:dst<C.N) (hl:lvl C.SU m o=2) (fD:H dst=none\/some i=some dst) (hi:H i=some (e,vs.flatten.map .val++sp)) (hr:eh E sz w n c vs sp es) (hs:H s=some (te,cs.map .val)) (hcs:E w cs a) (fi:(n+1)*(24*sz)<=140737488355328)
  (hK:∀ w2 cap Ag ρ,aH C.K w w2->C.Old w2->(∀ x,aY (ρ x)=true)->eh E sz w2 (n+1) cap (vs++[cs]) Ag (es++[a])->aq C m full r K ((F.forget (some i) ρ).bc o.dst (.row dst 0 (n+1) cap)) ((H.forget (some i) ρ).put dst (e,(vs++[cs]).flatten.map AV.val++Ag)) w2)
  (hkp:∀ w w',aH C.K w w'->Kp UU w w':=by first|exact λ_ _ h=>h|exact λ_ _ h=>h.gw):aq C m full (o::r) K F H w:=by
 have hlen:=hE.len hcs
 obtain⟨k1,k2⟩:=hr.el.ok hE
 have Fy:=hr.len
 refine VO.app hC e0 ho wC gz tL hU hzo hd hN hl (known:=vs.flatten.map .val) (spare:=sp) (del:=some i) (n:=n) (c:=c) (mm:=1) (news:=cs.map .val) (.inr ⟨i,rfl,hi,rfl⟩) fD (by rw[List.length_map,k2,Fy]) hr.fl hr.le hr.cm ⟨ak _,hr.sl,ak _⟩ ⟨cV k1,hr.so,cV (hE.ok hcs)⟩ (by rw[List.length_map,hlen];omega) fi
  (λw1 β k1 b1 ho=>⟨_,_,rfl,.inr ⟨β s,0,rfl,fv (rest:=[]) (ho.own s (.base (List.mem_append_right _ (List.mem_singleton.2 rfl))) _ _ hs) (by rw[List.append_nil])⟩⟩) (λw2 cap Ag ρ k2 b2 eO h1 h2 h3 h4 h5=> ?_)
 have e:(vs.flatten.map AV.val++cs.map .val)=(vs++[cs]).flatten.map AV.val:=by simp
 have:=hK w2 cap Ag ρ k2 b2 eO ⟨by rw[List.length_append,hr.len];rfl,(hr.el.kp hE (hkp _ _ k2)).snoc (hE.kp hcs (hkp _ _ k2)),h4,h5,by omega,h2,by rw[<-e];exact h3⟩
 rw[<-e] at this
 exact this
end
end
section
open Go.RowKit
theorem Ep {w:World} {a:Option Addr} {len cap:Nat} {zs:List Int}
  (h:(a=none/\len=0/\cap=0/\zs=[])\/∃ x,a=some x/\len<=cap/\cap<=maxLen/\zs.length=cap/\(∀ i,i<zs.length->w.cell? (x.add i)=some (.int .u32 (zs.getD i 0)))/\∀ n∈zs,(Lit.int .u32 n).wf=true):
  ∃ xs:List Nat,bA xs/\Rd w 1 (.slice a len cap) len (ints .u32 xs):=by
 rcases h with ⟨rfl,rfl,rfl,rfl⟩|⟨x,rfl,h1,h2,h3,h4,h5⟩
 ·exact⟨[],bA.nil,Rd.nil w 1⟩
 ·have hb:∀ n∈zs,0<=n/\n<4294967296:=λn hn=>by
   have:=h5 n hn
   simp[Lit.wf,IntKind.min,IntKind.max,IntKind.signed,IntKind.bits] at this
   omega
  refine⟨(zs.take len).map Int.toNat,?_,?_⟩
  ·intro y hy
   obtain⟨z,hz,rfl⟩:=List.mem_map.1 hy
   have:=hb z (List.mem_of_mem_take hz)
   omega
  ·refine⟨_,cap,rfl,h1,h2,by simp;omega,λhn=> ?_⟩
   have iU:0<zs.length:=by omega
   have h0:=h4 0 iU
   have hsp:x.spot=none:=by
    have:x.add 0=x:=by simp[Addr.add]
    rw[this] at h0
    unfold World.cell? at h0
    split at h0
    ·split at h0
     ·cases h0
     ·rename_i hs;simpa using hs
    ·cases h0
   obtain⟨b,off,sp⟩:=x
   simp only at hsp
   subst hsp
   refine⟨b,off,rfl,λj u hj=> ?_⟩
   simp only[ints,List.map_map,List.getElem?_map,List.getElem?_take] at hj
   split at hj
   ·rename_i hjl
    have hjz:j<zs.length:=by omega
    rw[List.getElem?_eq_getElem hjz] at hj
    simp at hj
    subst hj
    have h6:=h4 j hjz
    have h7:=hb _ (List.getElem_mem hjz)
    rw[show (⟨b,off,none⟩:Addr).add j=⟨b,off+j,none⟩ by unfold Addr.add;split <;> simp_all] at h6
    rw[h6]
    simp[List.getD,hjz]
    omega
   ·cases hj
theorem wZ {α:Type} {l:List α} (h:l.length=2):∃ a b,l=[a,b]:=by
 match l,h with
 | [a,b],_=>exact⟨a,b,rfl⟩
theorem Ha {α:Type} {l:List α} (h:l.length=4):∃ a b c d,l=[a,b,c,d]:=by
 match l,h with
 | [a,b,c,d],_=>exact⟨a,b,c,d,rfl⟩
section
variable {H:Type} {enc:TypeId×Value->H} {w:World} {held:Bool}
theorem Bt {fuel:Nat} {cs:List Value} {x:DataW H×List MemPlace} (h:DataW.trod enc Tryz.prog w 0 (λ_=>true) held fuel 23 cs=some x):∃ p n c xs,cs=[.slice p n c]/\Rd w 1 (.slice p n c) n (ints .u32 xs)/\bA xs:=by
 rcases ChangeShapes.open_ints Tryz.underlying23 Tryz.underlying78 (by kernel_rfl) h with ⟨rfl,_⟩|⟨a,len,cap,zs,rfl,_,hl,hc,hz,_,hcell,hwf⟩
 ·exact⟨none,0,0,[],rfl,Rd.nil w 1,bA.nil⟩
 ·rw[if_pos rfl] at hz
  obtain⟨xs,pk,oH⟩:=Ep (w:=w) (.inr ⟨a,rfl,hl,hc,hz,hcell,hwf⟩)
  exact⟨some a,len,cap,xs,rfl,oH,pk⟩
theorem zE {fuel:Nat} {cs:List Value} {x:DataW H×List MemPlace} (h:DataW.trod enc Tryz.prog w 0 (λ_=>true) held fuel 25 cs=some x):∃ s p c xs,cs=[.bool s,.slice p xs.length c]/\dz w (.agg #[.bool s,.slice p xs.length c]) s xs:=by
 obtain⟨ys,n,rfl,rfl,hl,gN,hf⟩:=DataW.trod_struct Tryz.underlying25 h
 have uY:cs.length=2:=by
  have c:Tryz.prog.cellsOf 25=2:=by kernel_rfl
  rw[c] at hl;exact hl
 have hy2:ys.length=2:=gN
 obtain⟨a,b,rfl⟩:∃ a b,cs=[a,b]:=by
  exact wZ uY
 obtain⟨y0,y1,rfl⟩:∃ a b,ys=[a,b]:=by
  exact wZ hy2
 have c0:Tryz.prog.cellsOf 4=1:=by kernel_rfl
 have c1:Tryz.prog.cellsOf 23=1:=by kernel_rfl
 have h0:=hf 0 _ rfl
 have h1:=hf 1 _ rfl
 change DataW.trod enc Tryz.prog w 0 (λ_=>true) held n 4 (([a,b].drop 0).take (Tryz.prog.cellsOf 4))=some y0 at h0
 change DataW.trod enc Tryz.prog w 0 (λ_=>true) held n 23 (([a,b].drop 1).take (Tryz.prog.cellsOf 23))=some y1 at h1
 rw[c0] at h0
 rw[c1] at h1
 obtain⟨s,hs,_⟩:=DataW.trod_bool Tryz.underlying4 h0
 obtain⟨p,m,c,xs,hp,hr,hx⟩:=Bt h1
 simp only[List.drop_zero,List.take_succ_cons,List.take_zero,List.cons.injEq,and_true] at hs
 simp only[List.drop_succ_cons,List.drop_zero,List.take_succ_cons,List.take_zero,List.cons.injEq,and_true] at hp
 subst hs hp
 obtain⟨_,_,hv,_,_,dc⟩:=hr.u32
 subst dc
 exact⟨s,p,c,xs,rfl,p,c,rfl,hr,hx⟩
theorem Hb {fuel:Nat} {cs:List Value} {x:DataW H×List MemPlace} (h:DataW.trod enc Tryz.prog w 0 (λ_=>true) held fuel 27 cs=some x):∃ s p n c t r m d xs ys,cs=[.bool s,.slice p n c,.bool t,.slice r m d]/\cN w (.agg #[.bool s,.slice p n c,.bool t,.slice r m d]) s xs t ys:=by
 obtain⟨zs,n,rfl,rfl,hl,gN,hf⟩:=DataW.trod_struct Tryz.underlying27 h
 have uY:cs.length=4:=by
  have c:Tryz.prog.cellsOf 27=4:=by kernel_rfl
  rw[c] at hl;exact hl
 have hy2:zs.length=2:=gN
 obtain⟨a,b,a',b',rfl⟩:∃ a b a' b',cs=[a,b,a',b']:=by
  exact Ha uY
 obtain⟨y0,y1,rfl⟩:∃ a b,zs=[a,b]:=by
  exact wZ hy2
 have c0:Tryz.prog.cellsOf 25=2:=by kernel_rfl
 have h0:=hf 0 _ rfl
 have h1:=hf 1 _ rfl
 change DataW.trod enc Tryz.prog w 0 (λ_=>true) held n 25 (([a,b,a',b'].drop 0).take (Tryz.prog.cellsOf 25))=some y0 at h0
 change DataW.trod enc Tryz.prog w 0 (λ_=>true) held n 25 (([a,b,a',b'].drop 2).take (Tryz.prog.cellsOf 25))=some y1 at h1
 rw[c0] at h0 h1
 obtain⟨s,p,c,xs,e0,n0⟩:=zE h0
 obtain⟨t,r,d,ys,e1,n1⟩:=zE h1
 simp only[List.drop_zero,List.take_succ_cons,List.take_zero,List.cons.injEq,and_true] at e0
 simp only[List.drop_succ_cons,List.drop_zero,List.take_succ_cons,List.take_zero,List.cons.injEq,and_true] at e1
 obtain⟨rfl,rfl⟩:=e0
 obtain⟨rfl,rfl⟩:=e1
 exact⟨_,_,_,_,_,_,_,_,xs,ys,rfl,_,_,_,_,rfl,n0,n1⟩
theorem Bu {α:Type} {p:Nat->α->Prop}:∀ (n:Nat),(∀ i,i<n->∃ q,p i q)->∃ qs:List α,qs.length=n/\∀ (i:Nat) (q:α),qs[i]? =some q->p i q
 | 0,_=>⟨[],rfl,λi q h=>by simp at h⟩
 | n+1,h=>by
   obtain⟨qs,hl,hq⟩:=Bu n (λi hi=>h i aa)
   obtain⟨q,hqn⟩:=h n aa
   refine⟨qs++[q],by simp[hl],λi x hx=> ?_⟩
   by_cases hi:i<n
   ·rw[List.getElem?_append_left aa] at hx
    exact hq i x hx
   ·rw[List.getElem?_append_right aa,hl] at hx
    have:i=n:=by
     have:=(List.getElem?_eq_some_iff.1 hx).1
     simp at this
     omega
    subst this
    simp at hx
    subst hx
    exact hqn
end
section
variable {H:Type} {enc:TypeId×Value->H} {w:World} {held:Bool}
set_option maxRecDepth 100000 in
theorem open_sl {α:Type} {E:World->List Value->α->Prop} {sz:Nat} {t e:TypeId} (hu:Tryz.prog.underlying t=some (.slice e)) (hc:Tryz.prog.cellsOf e=sz) (oL:0<sz)
  (gz:∀ {fuel:Nat} {cs:List Value} {x:DataW H×List MemPlace},DataW.trod enc Tryz.prog w 0 (λ_=>true) held fuel e cs=some x->∃ a,E w cs a)
  {v:Value} {d:DataW H} {ps:List MemPlace} {r:_root_.Go.Reach} {b0:Nat} (hv:Value.okWide Tryz.prog w r b0 t v) (h:DataW.Trod enc Tryz.prog w 0 (λ_=>true) held t v d ps):∃ es:List α,bj E sz w v es:=by
 obtain⟨p,len,cap,rfl⟩:=WideShapes.okWide_slice hu hv
 obtain⟨fuel,hf⟩:=h
 rcases DataW.trod_slice hu hf with ⟨e,_⟩|⟨a,len',cap',elems,rest,n,_,e,_,_,hl,hm,hle,re,_⟩
 ·simp[Value.cells] at e
  obtain⟨rfl,rfl,rfl⟩:=e
  exact⟨[],bj.nil _ _ _⟩
 ·simp[Value.cells] at e
  obtain⟨rfl,rfl,rfl⟩:=e
  rw[hc] at re
  have each:∀ i,i<len->∃ q,∃ b off cs,some a=some ⟨b,off,none⟩/\(∀ (j:Nat) (u:Value),cs[j]? =some u->w.cell? ⟨b,off+i*sz+j,none⟩=some u)/\E w cs q:=by
   intro i hi
   obtain⟨y,hy⟩:∃ y,elems[i]? =some y:=⟨_,List.getElem?_eq_getElem aa⟩
   have hb:=re i hi
   rw[hy,Option.bind_eq_some_iff] at hb
   obtain⟨cs,hcs,ht⟩:=hb
   obtain⟨q,hq⟩:=gz ht
   obtain⟨_,hlen,hcell⟩:=World.cells?_some hcs
   obtain⟨b,off,spot⟩:=a
   have hspot:spot=none:=by
    obtain⟨y0,Ai⟩:∃ y,elems[0]? =some y:=⟨_,List.getElem?_eq_getElem aa⟩
    have kn:=re 0 aa
    rw[Ai,Option.bind_eq_some_iff] at kn
    obtain⟨cs0,hcs0,ht0⟩:=kn
    obtain⟨_,hlen0,Bv⟩:=World.cells?_some hcs0
    have h00:=Bv 0 oL
    rw[List.getElem?_eq_getElem aa] at h00
    have g0:=World.cell?_spot h00
    simpa [Addr.add] using g0
   subst hspot
   refine⟨q,b,off,cs,rfl,λj u hj=> ?_,hq⟩
   have hjl:j<sz:=by have:=(List.getElem?_eq_some_iff.1 hj).1;omega
   have:=hcell j hjl
   rw[WideShapes.add_plain,WideShapes.add_plain] at this
   rw[this]
   exact hj
  obtain⟨qs,hql,hqs⟩:=Bu len each
  subst hql
  exact⟨qs,_,_,rfl,hl,hm,λi q hq=>hqs i q hq⟩
end
section
variable {C:Cx} {β:Nat->Nat} {F:Fr} {H:Hp} {a:Act} {w:World} {Q:Exit->Act->World->Prop} {k:List It}
theorem qD (hC:C.Ok) {m:Option (List FuncId)} {full:Array Oper} {K:Fr->Hp->World->Prop} {q:Act->World->Prop} {tl:List Oper} (hQ:∀ β F H w a w',K F H w->Rel C β F H a w'->aH C.K w w'->wpList C.P full Q tl a w'):
  ∀ (l:List Oper) (β:Nat->Nat) (F:Fr) (H:Hp) (w:World) (a:Act) (w':World),aq C m full l K F H w->Rel C β F H a w'->aH C.K w w'->wpList C.P full Q (l++tl) a w'
 | [],β,F,H,w,a,w',h,hr,hk=>hQ β F H w a w' h hr hk
 | o::r,β,F,H,w,a,w',h,hr,hk=>by
   refine wpList_step λK' hK'=> ?_
   exact jl hC (k:=aq C m full r K) h hr hk λbn F' H' w1 a' ea h1 h2 h3=>hK' _ _ (qD hC (q:=q) hQ r bn F' H' w1 a' ea h1 h2 h3)
theorem Rel.over (hO:∀ w,C.Old w↔ax C.w0 w) (hr:Rel C β F H a w) {b o:Nat} {vs:List Value} {cur:Array Value} {ty:TypeId} (hB:C.w0.heap.size<=b) (hc:w.heap[b]? =some (Obj.cells cur ty (0,0))) (ht:C.K.fz ty=true):Rel C β F H a (w.setCells b o vs):=by
 obtain⟨e1,e2,e3,e4⟩:=eJ (b:=b) vs o w
 refine⟨hr.defers,hr.size,hr.tmp,λi t cs h=> ?_,hr.apart,hr.closed,hr.fits,hr.hp,(hO _).2 (Below.trans ((hO _).1 hr.old) ⟨e1,e2,e3,e4,λg hg=>cj vs o w g aa⟩)⟩
 obtain⟨h1,h2,h3,h4⟩:=hr.own i t cs h
 refine⟨h1,h2,(cj vs o w _ (λe=> ?_)).trans h3,h4⟩
 rw[e] at h3
 have:=hc.symm.trans h3
 cases this
 rw[h2] at ht
 cases ht
def StoK (C:Cx) (Q:Exit->Act->World->Prop) (k:List It) (full:Array Oper) (o:Oper) (F:Fr) (H:Hp) (w:World):Prop:=
 ∃ t x y b off i v,o.op=.store t x y/\gu C.N o.dst=true/\wants full F o=some true/\ev F x=some (.val (.pointer (some ⟨b,off,none⟩)))/\gi F y=some v/\C.ti t=some i/\v.cells.size=i.size/\v.cells.toList.all Value.oneCell'=true/\C.w0.heap.size<=b/\
   ∀ w1,aH C.K w w1->ax C.w0 w1->∃ cur ty,w1.heap[b]? =some (Obj.cells cur ty (0,0))/\off+i.size<=cur.size/\C.K.fz ty=true/\(ax C.w0 (w1.setCells b off v.cells.toList)->VS C Q k (F.bc o.dst (.val undef)) H (w1.setCells b off v.cells.toList))
theorem VS.regionW (hC:C.Ok) (hO:∀ w,C.Old w↔ax C.w0 w) {id:Nat} {ops:Array Oper} (pre:List Oper) (o:Oper) (hops:ops.toList=pre++[o]) (h:aq C none ops pre (StoK C Q k ops o) F H w):VS C Q (.code (.region id ops false)::k) F H w:=λβ a w' hr hk=>by
 refine wp_region_list ?_
 rw[hops]
 refine qD hC (q:=λ_ _=>True) (λβ F H w a w' h hr hk=> ?_) pre β F H w a w' h hr hk
 obtain⟨t,x,y,b,off,i,v,hop,hd,hw,hx,hy,hi,hsz,wy,hB,hc⟩:=h
 obtain⟨cur,ty,h1,h2,h3,h4⟩:=hc w' hk ((hO _).1 hr.old)
 refine wpList_step λK' hK'=> ?_
 rw[iC hr hw,if_pos rfl]
 have oJ:=hr.over hO (o:=off) (vs:=v.cells.toList) hB h1 h3
 have ba:=(hO _).1 oJ.old
 have ER:a.eval x=.pointer (some ⟨b,off,none⟩):=hr.ev hx
 have hy':a.eval y=v:=hr.gi hy
 have hz:=(hC t i hi).size
 refine Oper.wp_skip (w':=w'.setCells b off v.cells.toList) ?_ (hK' _ _ (h4 ba β _ _ (oJ.put hd (v:=.val undef) (λ_ hi=>by cases hi)) (aH.refl _ _)))
 cases hq:C.P.info? t with
 | none=>rw[hq] at hz;simp at hz
 | some ti=>
   rw[hq] at hz
   simp at hz
   have:=run_storeCells_cells (P:=C.P) b off v.cells.toList 0 w' (λj hj=>by
     obtain⟨z,hz⟩:∃ z,cur[off+j]? =some z:=⟨_,Array.getElem?_eq_getElem (by rw[Array.length_toList] at hj;omega)⟩
     rw[Nat.add_zero,aI.cell (b:=b) h1 hz];rfl)
    (λj _=>aI.frozen (b:=b) h1 _) (λz hz=>List.all_eq_true.1 wy z hz)
   rw[Nat.add_zero] at this
   have hst:(Instr.storeAt t (.pointer (some ⟨b,off,none⟩)) v).run C.P w'=.ok () (w'.setCells b off v.cells.toList):=by
    simp only[Instr.storeAt,Instr.sureAddr,storeVar,sizeOf,typeInfo,Sem.run_bind,Sem.run_pure,Result.andThen_ok]
    simp[hq,hz,hsz,this]
   simp[execOp,hop,ER,hy',hst]
theorem VS.Hc (hC:C.Ok) (hO:∀ w,C.Old w↔ax C.w0 w) {id:Nat} {ops:Array Oper} {o:Oper} (hl:ops.toList.getLast? =some o) (h:aq C none ops ops.toList.dropLast (StoK C Q k ops o) F H w):VS C Q (.code (.region id ops false)::k) F H w:=
 VS.regionW hC hO ops.toList.dropLast o (by
   obtain⟨l,hl⟩:=List.getLast?_eq_some_iff.1 hl
   rw[hl];simp) h
end
theorem cell_eq {w w':World} {a:Addr} (h:w'.heap[a.block]? =w.heap[a.block]?):w'.cell? a=w.cell? a:=by
 unfold World.cell?
 rw[h]
theorem qE {K:KC} {w:World} {b o:Nat} {vs:List Value} {cur:Array Value} {ty:TypeId} (hc:w.heap[b]? =some (Obj.cells cur ty (0,0))):aH ⟨K.U,λg=>g≠b,K.T⟩ w (w.setCells b o vs):=
 ⟨(eJ vs o w).2.2.2,λa x s h=>by rw[cell_eq (cj vs o w _ s)];exact h,λt g c _ s h=>(cj vs o w _ s).trans h,λg es c h=>(cj vs o w _ (λe=>by subst e;rw[hc] at h;cases h)).trans h⟩
theorem lp {b:Nat} {ty:TypeId}:∀ (vs:List Value) (o:Nat) (w:World) (cur:Array Value),w.heap[b]? =some (Obj.cells cur ty (0,0))->∃ Hd,(w.setCells b o vs).heap[b]? =some (Obj.cells Hd ty (0,0))/\Hd.size=cur.size
 | [],_,_,cur,h=>⟨cur,h,rfl⟩
 | v::r,o,w,cur,h=>by
   obtain⟨c,h1,h2⟩:=lp r (o+1) (w.setCell ⟨b,o,none⟩ v) (cur.setIfInBounds o v) (aI.set (b:=b) (t:=ty) (cs:=cur) h v)
   exact⟨c,h1,by rw[h2];simp⟩
structure Over (T:TypeId->Bool) (b:Nat) (w w':World):Prop where
 kp:aH ⟨UU,λg=>g≠b,T⟩ w w'
 shp:∀ (cur:Array Value) (ty:TypeId),w.heap[b]? =some (Obj.cells cur ty (0,0))->(Nat.beq ty UU || T ty)=true->∃ Hd,w'.heap[b]? =some (Obj.cells Hd ty (0,0))/\Hd.size=cur.size
theorem Over.set {T:TypeId->Bool} {b o:Nat} {w:World} {vs:List Value} {cur:Array Value} {ty:TypeId} (hc:w.heap[b]? =some (Obj.cells cur ty (0,0))):Over T b w (w.setCells b o vs):=
 ⟨qE (K:=⟨UU,λ_=>True,T⟩) hc,λc t h _=>lp vs o w c h⟩
def lx (S:Nat->Prop) (p:Option Addr) (n:Nat):Prop:=0<n->∀ b off sp,p=some ⟨b,off,sp⟩->S b
theorem lx.imp {S S':Nat->Prop} {p:Option Addr} {n:Nat} (h:lx S p n) (hs:∀ b,S b->S' b):lx S' p n:=λh0 b off sp e=>hs b (h h0 b off sp e)
theorem lx.rd {w:World} {n c:Nat} {p:Option Addr} {xs:List Nat} (h:Rd w 1 (.slice p n c) n (ints .u32 xs)):lx (λb=>b<w.heap.size) p n:=λh0 b off sp e=>by
 obtain⟨b',o',x,hp,_,_,hc⟩:=h.cellAt h0
 rw[e] at hp
 cases hp
 exact World.block_lt_of_cell? w _ hc
theorem lx.own {w:World} {B n c:Nat} {p:Option Addr} {xs:List Value} (h:w.ownsRow B UU 1 (.slice p n c) n xs):lx (λb=>B<=b) p n:=λh0 b off sp e=>by
 rcases h.2 with ⟨h1,_⟩|⟨g,cap,cur,hv,hb,_⟩
 ·simp only[Value.slice.injEq] at h1;omega
 ·simp only[Value.slice.injEq] at hv
  rw[e] at hv
  obtain⟨hv,_⟩:=hv
  cases hv
  exact hb
theorem Rd.He {U:TypeId} {S:Nat->Prop} {T:TypeId->Bool} {w w':World} {p:Option Addr} {n c:Nat} {xs:List Nat} (h:Rd w 1 (.slice p n c) n (ints .u32 xs)) (k:aH ⟨U,S,T⟩ w w') (hs:lx S p n):Rd w' 1 (.slice p n c) n (ints .u32 xs):=by
 obtain⟨p',c',hv,h1,h2,h3,h4⟩:=h
 cases hv
 refine⟨p,c,rfl,h1,h2,h3,λhn=> ?_⟩
 obtain⟨b,off,hp,hc⟩:=h4 hn
 refine⟨b,off,hp,λj u hj=> ?_⟩
 obtain⟨x,hx,rfl⟩:=List.mem_map.1 (List.mem_of_getElem? hj)
 exact k.cell _ _ (hs aa b off none hp) (hc j _ hj)
theorem bd.He {U:TypeId} {S:Nat->Prop} {T:TypeId->Bool} {w w':World} {s:Bool} {p:Option Addr} {n c:Nat} {X:Int} (h:bd w (.agg #[.bool s,.slice p n c]) X) (k:aH ⟨U,S,T⟩ w w') (hs:lx S p n):bd w' (.agg #[.bool s,.slice p n c]) X:=by
 obtain⟨p',c',hv,hr,hl⟩:=h
 simp only[Value.agg.injEq,Array.mk.injEq,List.cons.injEq,and_true,Value.slice.injEq] at hv
 obtain⟨hv0,tJ,hv2,hv3⟩:=hv
 subst tJ hv2 hv3
 exact⟨p,c,by rw[hv0],hr.He k hs,hl⟩
theorem bd.lies {w:World} {s:Bool} {p:Option Addr} {n c:Nat} {X:Int} (h:bd w (.agg #[.bool s,.slice p n c]) X):lx (λb=>b<w.heap.size) p n:=by
 obtain⟨h1,h2,_⟩:=h.parts
 exact lx.rd h2
theorem ar.lies {w:World} {B:Nat} {s:Bool} {p:Option Addr} {n c:Nat} {X:Int} (h:ar w B (.agg #[.bool s,.slice p n c]) X):lx (λb=>B<=b) p n:=by
 obtain⟨p',c',hv,ho⟩:=h
 simp only[Value.agg.injEq,Array.mk.injEq,List.cons.injEq,and_true,Value.slice.injEq] at hv
 obtain⟨_,rfl,rfl,rfl⟩:=hv
 exact lx.own ho
def Er (w:World) (p:Option Addr) (n:Nat):Prop:=0<n->∃ g cur,p=some ⟨g,0,none⟩/\w.heap[g]? =some (Obj.cells cur UU (0,0))/\n<=cur.size
theorem Er.own {w:World} {B n c:Nat} {p:Option Addr} {xs:List Value} (h:w.ownsRow B UU 1 (.slice p n c) n xs):Er w p n:=λh0=>by
 rcases h.2 with ⟨h1,_⟩|⟨g,cap,cur,hv,hb,hg,h1,h2,h3,_⟩
 ·simp only[Value.slice.injEq] at h1;omega
 ·simp only[Value.slice.injEq,true_and] at hv
  obtain⟨tJ,_⟩:=hv
  exact⟨g,cur,tJ,hg,by omega⟩
theorem ar.huk {w:World} {B:Nat} {s:Bool} {p:Option Addr} {n c:Nat} {X:Int} (h:ar w B (.agg #[.bool s,.slice p n c]) X):Er w p n:=by
 obtain⟨p',c',hv,ho⟩:=h
 simp only[Value.agg.injEq,Array.mk.injEq,List.cons.injEq,and_true,Value.slice.injEq] at hv
 obtain⟨_,rfl,rfl,rfl⟩:=hv
 exact Er.own ho
theorem Er.He {S:Nat->Prop} {T:TypeId->Bool} {w w':World} {p:Option Addr} {n:Nat} (h:Er w p n) (k:aH ⟨UU,S,T⟩ w w') (hs:lx S p n):Er w' p n:=λh0=>by
 obtain⟨g,cur,hp,hg,hn⟩:=h h0
 exact⟨g,cur,hp,k.block UU g cur (by simp[KC.fz]) (hs h0 g 0 none hp) hg,hn⟩
theorem Er.over {T:TypeId->Bool} {w w':World} {b off:Nat} {n:Nat} (h:Er w (some ⟨b,off,none⟩) n) (k:Over T b w w'):Er w' (some ⟨b,off,none⟩) n:=λh0=>by
 obtain⟨g,cur,hp,hg,hn⟩:=h h0
 cases hp
 obtain⟨c,h1,h2⟩:=k.shp cur UU hg cX
 exact⟨b,c,rfl,h1,by omega⟩
abbrev Itm:=Nat×Rat×Rat
end
set_option maxRecDepth 4000
section
open Go.RowKit
end
section
open Go.RowKit
attribute [local irreducible] aq VS
end
section
open Go.RowKit
theorem zF {α:Type} {vs:List α} {i:Nat} {x:α} (h:vs[i]? =some x):vs=vs.take i++x::vs.drop (i+1)/\(vs.take i).length=i:=by
 obtain⟨hi,rfl⟩:=List.getElem?_eq_some_iff.1 h
 refine⟨?_,by rw[List.length_take];omega⟩
 rw[<-List.drop_eq_getElem_cons hi,List.take_append_drop]
theorem ly {α:Type}:∀ (vs:List (List α)) (sz:Nat),(∀ v∈vs,v.length=sz)->vs.flatten.length=vs.length*sz
 | [],_,_=>by simp
 | x::r,sz,h=>by
   rw[List.flatten_cons,List.length_append,ly r sz (λv hv=>h v (by simp[hv])),h x cX,List.length_cons,Nat.add_mul];omega
theorem Hf {α:Type} (A C B N:List α) (o off:Nat) (ho:o+N.length<=C.length) (e:off=A.length+o):
  (A++(C++B)).take off++(N++(A++(C++B)).drop (off+N.length))=A++((C.take o++(N++C.drop (o+N.length)))++B):=by
 subst e
 rw[List.take_append,List.drop_append,List.take_of_length_le aa,List.drop_of_length_le aa,List.nil_append,show A.length+o-A.length=o by omega,show A.length+o+N.length-A.length=o+N.length by omega,
  List.take_append_of_le_length aa,List.drop_append_of_le_length aa]
 simp only[List.append_assoc]
theorem Es {vs:List (List Value)} {sz:Nat} (hl:∀ v∈vs,v.length=sz) {i:Nat} {cs:List Value} (hv:vs[i]? =some cs) (o:Nat) (new:List Value) (ho:o+new.length<=sz) (spare:List AV) (off:Nat) (e:off=i*sz+o) (m:Nat) (hm:m=new.length):
  (vs.flatten.map AV.val++spare).take off++(new.map AV.val++(vs.flatten.map AV.val++spare).drop (off+m))=(vs.set i (cs.take o++(new++cs.drop (o+new.length)))).flatten.map AV.val++spare:=by
 subst hm
 obtain⟨h1,h2⟩:=zF hv
 have hc:=hl cs (List.mem_of_getElem? hv)
 have hA:((vs.take i).flatten.map AV.val).length=i*sz:=by
  rw[List.length_map,ly _ sz (λv hv=>hl v (List.mem_of_mem_take hv)),h2]
 have hset:vs.set i (cs.take o++(new++cs.drop (o+new.length)))=vs.take i++(cs.take o++(new++cs.drop (o+new.length)))::vs.drop (i+1):=by
  rw[List.set_eq_take_append_cons_drop,if_pos (List.getElem?_eq_some_iff.1 hv).1]
 have key:=Hf ((vs.take i).flatten.map AV.val) (cs.map AV.val) ((vs.drop (i+1)).flatten.map AV.val++spare) (new.map AV.val) o off (by simpa [hc] using ho) (by rw[hA];exact e)
 have rP:vs.flatten.map AV.val++spare=(vs.take i).flatten.map AV.val++(cs.map AV.val++((vs.drop (i+1)).flatten.map AV.val++spare)):=by
  conv=>lhs;rw[h1]
  simp only[List.flatten_append,List.flatten_cons,List.map_append,List.append_assoc]
 rw[rP,hset]
 rw[List.length_map] at key
 rw[key]
 simp only[List.flatten_append,List.flatten_cons,List.map_append,List.append_assoc,List.map_take,List.map_drop]
section
variable {α:Type} {E:World->List Value->α->Prop} {sz:Nat} {w w':World} {es:List α} {vs:List (List Value)}
theorem Bw (hl:∀ v∈vs,v.length=sz) (spare:List AV) {i:Nat} {cs:List Value} (hv:vs[i]? =some cs) (o:Nat) (ds:List Value) (hd:ds <+:cs.drop o) (off:Nat) (e:off=i*sz+o):∀ (j:Nat) (u:AV),(ds.map AV.val)[j]? =some u->(vs.flatten.map AV.val++spare)[off+j]? =some u:=by
 intro j u hj
 obtain⟨h1,h2⟩:=zF hv
 obtain⟨t,ht⟩:=hd
 have hA:(vs.take i).flatten.length=i*sz:=by rw[ly _ sz (λv hv=>hl v (List.mem_of_mem_take hv)),h2]
 rw[List.getElem?_map] at hj
 obtain⟨x,hx,rfl⟩:=Option.map_eq_some_iff.1 hj
 have ER:cs[o+j]? =some x:=by
  rw[<-List.getElem?_drop,<-ht,List.getElem?_append_left (List.getElem?_eq_some_iff.1 hx).1];exact hx
 have hlt:=(List.getElem?_eq_some_iff.1 ER).1
 have rP:vs.flatten[off+j]? =some x:=by
  conv=>lhs;rw[h1]
  rw[List.flatten_append,List.flatten_cons,List.getElem?_append_right aa,hA,List.getElem?_append_left aa,show off+j-i*sz=o+j by omega]
  exact ER
 rw[List.getElem?_append_left (by rw[List.length_map];exact (List.getElem?_eq_some_iff.1 rP).1),List.getElem?_map,rP]
 rfl
theorem dy.mono {E':World->List Value->α->Prop} (h:dy E w es vs) (hm:∀ cs a,E w cs a->E' w cs a):dy E' w es vs:=by
 induction h with
 | nil=>exact .nil
 | cons h1 _ ih=>exact .cons (hm _ _ h1) ih
end
end
section
open Go.RowKit
attribute [local irreducible] aq VS
theorem cL {w:World} {b o:Nat} {u:Value} (h:w.cell? ⟨b,o,none⟩=some u):∀ j x,[u][j]? =some x->w.cell? ((⟨b,o,none⟩:Addr).add j)=some x:=by
 intro j x hj
 cases j with
 | zero=>cases hj;rw[Addr.add_mid,Nat.add_zero];exact h
 | succ j=>simp at hj
end
section
open Go.RowKit
attribute [local irreducible] aq VS
end
section
open Go.RowKit
attribute [local irreducible] aq VS
theorem oh (q:Rat):ta [q]=q:=by show 0+q=q;grind
end
set_option maxRecDepth 4000
section
open Go.RowKit
attribute [local irreducible] aq VS
end
section
open Go.RowKit
attribute [local irreducible] aq VS
theorem bH {w:World} {b off i sz:Nat} {cs:List Value} (hc:∀ (j:Nat) (u:Value),cs[j]? =some u->w.cell? ⟨b,off+i*sz+j,none⟩=some u) (k:Nat) (ds:List Value) (hd:ds <+:cs.drop k):∀ (j:Nat) (u:Value),ds[j]? =some u->w.cell? ((⟨b,off+((i:Nat):Int).toNat*sz+k,none⟩:Addr).add j)=some u:=by
 intro j u hj
 obtain⟨t,ht⟩:=hd
 rw[Addr.add_mid,Int.toNat_natCast,Nat.add_assoc]
 refine hc (k+j) u ?_
 rw[<-List.getElem?_drop,<-ht,List.getElem?_append_left (List.getElem?_eq_some_iff.1 hj).1]
 exact hj
end
section
open Go.RowKit
attribute [local irreducible] aq VS
end
section
open Go.RowKit
attribute [local irreducible] aq VS
end
section
open Go.RowKit
attribute [local irreducible] aq VS
end
section
open Go.RowKit
def Hp.ads:Nat->List (TypeId×List AV)->Hp
 | _,[]=>λ_=>none
 | i,c::r=>λn=>bif Nat.beq n i then some c else Hp.ads (i+1) r n
theorem Hp.tg:∀ (l:List (TypeId×List AV)) (i n:Nat),Hp.ads i l n=if i<=n then l[n-i]? else none
 | [],i,n=>by unfold Hp.ads;simp
 | c::r,i,n=>by
   unfold Hp.ads
   rw[Hp.tg r (i+1) n]
   by_cases h:n=i
   ·subst h;simp
   ·have hb:Nat.beq n i=false:=by rw[<-Bool.not_eq_true,Nat.beq_eq];exact h
    rw[hb,cond_false]
    by_cases h1:i<=n
    ·rw[if_pos h1,if_pos aa,show n-i=(n-(i+1))+1 by omega];rfl
    ·rw[if_neg h1,if_neg aa]
def adB (N:Nat) (ad:List Nat):Nat->Nat:=λi=>ad.getD (i-2*N) 0
structure eL (K:KC) (N:Nat) (ad:List Nat) (l:List (TypeId×List AV)) (w:World):Prop where
 len:ad.length=l.length
 nodup:ad.Nodup
 cls:∀ (j:Nat) (g:Nat) (c:TypeId×List AV),ad[j]? =some g->l[j]? =some c->aI w g c.1 (c.2.map (AV.leaf (adB N ad))).toArray
 ok:∀ c∈l,K.fz c.1=false/\c.2.all aB=true
 ids:∀ c∈l,∀ k∈aA c.2,2*N<=k/\k<2*N+l.length
theorem eL.ad {K:KC} {N:Nat} {ad:List Nat} {l:List (TypeId×List AV)} {w:World} (h:eL K N ad l w):gA K ad w:=λg hg=>by
 obtain⟨j,hj⟩:=List.mem_iff_getElem?.1 hg
 have hlt:=(List.getElem?_eq_some_iff.1 hj).1
 obtain⟨c,hc⟩:∃ c,l[j]? =some c:=⟨_,List.getElem?_eq_getElem (by rw[<-h.len];exact hlt)⟩
 obtain⟨h1,h2⟩:=h.ok c (List.mem_of_getElem? hc)
 exact⟨c.1,_,h.cls j g c hj hc,h1,cZ h2⟩
theorem th {P:Program} {w w':World} {N:Nat} {K:KC} {SU:TypeId->Bool} {ti:TypeId->Option TI} {keep:∀ b,b<w.heap.size->K.S b} {ad:List Nat} {hd:ad.Nodup} {ha:gA K ad w} {β:Nat->Nat} {i:Nat} {t:TypeId} {cs:List AV} (h:jG (wE P w N K SU ti keep ad hd ha) β w' i t cs) (j g:Nat) (hi:i=2*N+j) (hj:ad[j]? =some g):β i=g/\aI w' g t (cs.map (AV.leaf β)).toArray:=by
 have h1:gD N ad w i (β i):=h.new
 unfold gD at h1
 rw[if_pos aa,hi,Nat.add_sub_cancel_left,hj] at h1
 have h2:g=β i:=by rw[hi];simpa using h1
 exact⟨h2.symm,h2▸h.cls⟩
section
variable {C:Cx} {F:Fr} {H:Hp} {w:World} {m:Option (List FuncId)} {full:Array Oper} {K:Fr->Hp->World->Prop} {o:Oper} {r:List Oper} {Q:Exit->Act->World->Prop} {k:List It}
def pP (F:Fr) (β:Nat->Nat):List (Nat×AV)->Prop
 | []=>True
 | p::r=>(∃ u x,F p.1=some u/\u.aE β=x/\p.2=.val x)/\pP F β r
theorem pP.mem {β:Nat->Nat}:∀ {L:List (Nat×AV)} {d:Nat} {v:AV},pP F β L->(d,v)∈L->∃ u x,F d=some u/\u.aE β=x/\v=.val x
 | p::r,d,v,h,hm=>by
   rcases List.mem_cons.1 hm with rfl|hm
   ·exact h.1
   ·exact pP.mem h.2 hm
theorem VS.xa (D:World->Cx) (hP:∀ w,(D w).P=C.P) (hN:∀ w,(D w).N=C.N) (hO:∀ w,(D w).Old w)
  (h:∀ w' β,aH C.K w w'->C.Old w'->Ends C β H w'->∃ L:List (Nat×AV),pP F β L/\VS (D w') Q k (Fr.of L) (λ_=>none) w'):VS C Q k F H w:=λβ a w' hr hk=>by
 obtain⟨L,hL,hv⟩:=h w' β hk hr.old ⟨hr.own,hr.apart⟩
 have:=hv β a w' ⟨hr.defers,by rw[hN];exact hr.size,λd v hd=> ?_,λi t cs hi=>(by cases hi),λi j hi=>absurd rfl hi,λd v hd i hi=> ?_,λd v hd=> ?_,⟨λi t cs hi=>(by cases hi),λi t cs hi=>(by cases hi),λi hi=>rfl⟩,hO w'⟩ (aH.refl _ _)
 ·rw[hP] at this
  exact this
 ·obtain⟨u,x,h1,rfl,rfl⟩:=hL.mem (Fr.dQ hd)
  exact hr.tmp d u h1
 ·obtain⟨u,x,h1,rfl,rfl⟩:=hL.mem (Fr.dQ hd)
  cases hi
 ·obtain⟨u,x,h1,rfl,rfl⟩:=hL.mem (Fr.dQ hd)
  rw[hN];exact hr.fits d u h1
end
abbrev EX:=Nat×Rat
def aitem (p:EX×Rat):Itm:=(p.1.1,p.1.2,p.2)
def ey (cs:List EX) (xs:List Rat):List Itm:=(cs.zip xs).map aitem
set_option maxRecDepth 4000
def ElB {α:Type} (E:World->List Value->α->Prop):Prop:=∀ {w w':World} {cs:List Value} {a:α},E w cs a->ax w w'->E w' cs a
theorem eg.b {α:Type} {E:World->List Value->α->Prop} {sz:Nat} (h:eg E sz):ElB E:=λhE hb=>h.kp hE (Kp.of hb)
theorem bj.lz {α:Type} {E:World->List Value->α->Prop} {sz:Nat} {w w':World} {v:Value} {es:List α} (hE:ElB E) (h:bj E sz w v es) (hb:ax w w'):bj E sz w' v es:=by
 obtain⟨p,c,hv,h1,h2,h3⟩:=h
 refine⟨p,c,hv,h1,h2,λi q hq=> ?_⟩
 obtain⟨b,off,cs,hp,hc,hr⟩:=h3 i q hq
 exact⟨b,off,cs,hp,λj u hj=>hb.cell (hc j u hj),hE hr hb⟩
def uu (kk:Nat) (w:World) (cs:List Value) (x:EX):Prop:=∃ nm s p n c t y m d,cs=[.string nm,.int .u8 (x.1:Int),.bool s,.slice p n c,.bool t,.slice y m d]/\x.1<256/\bS w (.agg #[.bool s,.slice p n c,.bool t,.slice y m d]) x.2 kk
theorem mW (kk:Nat):eg (uu kk) 6 where
 kp:=λh k=>by
  obtain⟨nm,s,p,n,c,t,y,m,d,hv,h1,h2⟩:=h
  exact⟨_,_,_,_,_,_,_,_,_,hv,h1,h2.kp k⟩
 len:=λh=>by
  obtain⟨nm,s,p,n,c,t,y,m,d,rfl,_⟩:=h
  rfl
 ok:=λh=>by
  obtain⟨nm,s,p,n,c,t,y,m,d,rfl,_⟩:=h
  rfl
def Bx (kk:Nat) (w:World) (cs:List Value) (q:Rat):Prop:=∃ s p n c t y m d,cs=[.bool s,.slice p n c,.bool t,.slice y m d]/\bS w (.agg #[.bool s,.slice p n c,.bool t,.slice y m d]) q kk
theorem Hg (kk:Nat):eg (Bx kk) 4 where
 kp:=λh k=>by
  obtain⟨s,p,n,c,t,y,m,d,hv,h2⟩:=h
  exact⟨_,_,_,_,_,_,_,_,hv,h2.kp k⟩
 len:=λh=>by
  obtain⟨s,p,n,c,t,y,m,d,rfl,_⟩:=h
  rfl
 ok:=λh=>by
  obtain⟨s,p,n,c,t,y,m,d,rfl,_⟩:=h
  rfl
def im (kk:Nat) (w:World) (cs:List Value) (r:List Rat):Prop:=∃ v,cs=[v]/\bj (Bx kk) 4 w v r
theorem gp (kk:Nat):ElB (im kk):=λh hb=>by
 obtain⟨v,hv,h1⟩:=h
 exact⟨v,hv,h1.lz (Hg kk).b hb⟩
theorem bj.sl {α:Type} {E:World->List Value->α->Prop} {sz:Nat} {w:World} {v:Value} {es:List α} (h:bj E sz w v es):∃ p c,v=.slice p es.length c:=by
 obtain⟨p,c,hv,_⟩:=h
 exact⟨p,c,hv⟩
attribute [local irreducible] aq VS
end
set_option maxRecDepth 4000
section
open Go.RowKit
attribute [local irreducible] aq VS
def gg {α:Type} (E:World->List Value->α->Prop) (sz:Nat) (t:TypeId) (i:Nat) (X:AV) (M:List (Nat×(TypeId×List AV))) (w:World) (es:List α):Prop:=
 (es=[]/\X=.val (.slice none 0 0)/\M=[])\/∃ n c vs sp,X=.row i 0 n c/\M=[(i,(t,vs.flatten.map .val++sp))]/\eh E sz w n c vs sp es
theorem gg.kp {α:Type} {E:World->List Value->α->Prop} {sz:Nat} {t:TypeId} {i:Nat} {X:AV} {M:List (Nat×(TypeId×List AV))} {w w':World} {es:List α} (hE:eg E sz) (h:gg E sz t i X M w es) (k:Kp UU w w'):gg E sz t i X M w' es:=by
 rcases h with h|⟨n,c,vs,sp,h1,h2,h3⟩
 ·exact .inl h
 ·exact .inr ⟨n,c,vs,sp,h1,h2,h3.kp hE k⟩
def Hp.mask (l:List Nat) (H:Hp):Hp:=λi=>bif l.any (Nat.beq i) then none else H i
def vB (H:Hp):List Nat->Prop
 | []=>True
 | i::r=>H i=none/\vB H r
theorem vB.eq {H:Hp}:∀ {l:List Nat},vB H l->∀ i,l.any (Nat.beq i)=true->H i=none
 | [],_,i,h=>by cases h
 | j::r,hn,i,h=>by
   rw[List.any_cons,Bool.or_eq_true] at h
   rcases h with h|h
   ·rw[Nat.eq_of_beq_eq_true h];exact hn.1
   ·exact vB.eq hn.2 i h
theorem Hp.mask_eq {H:Hp} {l:List Nat} (h:vB H l):Hp.mask l H=H:=by
 funext i
 unfold Hp.mask
 cases hb:l.any (Nat.beq i) with
 | true=>exact (h.eq i hb).symm
 | false=>rfl
theorem VS.mask {C:Cx} {Q:Exit->Act->World->Prop} {F:Fr} {H:Hp} {w:World} {stk:List It} (l:List Nat) (h:vB H l) (k:VS C Q stk F (Hp.mask l H) w):VS C Q stk F H w:=by rw[Hp.mask_eq h] at k;exact k
theorem vC {cs:List EX} {xs:List Rat} {z:Nat} {k:EX} {x:Rat} (h1:cs[z]? =some k) (h2:xs[z]? =some x):(ey cs xs)[z]? =some (k.1,k.2,x):=by
 unfold ey
 rw[List.getElem?_map,show (cs.zip xs)[z]? =some (k,x) from List.getElem?_zip_eq_some.2 ⟨h1,h2⟩];rfl
section
variable {C:Cx} {β:Nat->Nat} {H:Hp} {w w1:World} {ids:List Nat} {X:AV} {M:List (Nat×(TypeId×List AV))}
end
def RtQ (kk:Nat) (w:World) (cs:List Value) (q:Rat):Prop:=∃ s p n c t y m d,cs=[.bool s,.slice p n c,.bool t,.slice y m d]/\cM w (.agg #[.bool s,.slice p n c,.bool t,.slice y m d]) q/\kt q kk
set_option maxRecDepth 4000
section
variable {F F':Fr} {H H':Hp} {w w1:World} {N:Nat} {l':List Oper} {Q:Exit->Act->World->Prop} {k:List It} {id:Nat} {ops:Array Oper}
end
theorem uu.mk {kk k:Nat} {w:World} {nm:ByteArray} {s t:Bool} {p y:Option Addr} {n c m d:Nat} {q:Rat} (h0:k<256) (h:bS w (.agg #[.bool s,.slice p n c,.bool t,.slice y m d]) q kk):uu kk w [.string nm,.int .u8 (k:Int),.bool s,.slice p n c,.bool t,.slice y m d] (k,q):=⟨_,_,_,_,_,_,_,_,_,rfl,h0,h⟩
theorem Bx.mk {kk:Nat} {w:World} {s t:Bool} {p y:Option Addr} {n c m d:Nat} {q:Rat} (h:bS w (.agg #[.bool s,.slice p n c,.bool t,.slice y m d]) q kk):Bx kk w [.bool s,.slice p n c,.bool t,.slice y m d] q:=⟨_,_,_,_,_,_,_,_,rfl,h⟩
set_option maxRecDepth 4000
theorem RtQ.tot {kk:Nat} {w:World} {cs:List Value} {q:Rat} (h:RtQ kk w cs q):Bx kk w cs q:=by
 obtain⟨s,p,n,c,t,y,m,d,rfl,h1,h2⟩:=h
 exact .mk (h1.to h2)
end
section
open Go.RowKit
abbrev kf:Nat:=9223372036854775807
section
variable {H:Type} {enc:TypeId×Value->H} {w:World} {held:Bool}
theorem u8_wf {n:Int} (h:(Lit.int .u8 n).wf=true):0<=n/\n<256:=by
 simp[Lit.wf,IntKind.min,IntKind.max,IntKind.signed,IntKind.bits] at h
 omega
theorem tj (cs:List Value) (o n m:Nat) (h:m=o+n):cs.drop o=(cs.drop o).take n++cs.drop m:=by
 subst h
 have:=(List.take_append_drop n (cs.drop o)).symm
 rw[List.drop_drop] at this
 exact this
end
section
variable {H:Type} {enc:TypeId×Value->H} {w:World} {held:Bool}
set_option maxRecDepth 100000 in
theorem zG {α:Type} {E:World->List Value->α->Prop} {sz:Nat} {t e:TypeId} (hu:Tryz.prog.underlying t=some (.slice e)) (hc:Tryz.prog.cellsOf e=sz) (oL:0<sz)
  (gz:∀ {fuel:Nat} {cs:List Value} {x:DataW H×List MemPlace},DataW.trod enc Tryz.prog w 0 (λ_=>true) held fuel e cs=some x->∃ a,E w cs a)
  {fuel:Nat} {cs:List Value} {x:DataW H×List MemPlace} (hf:DataW.trod enc Tryz.prog w 0 (λ_=>true) held fuel t cs=some x):∃ (p:Option Addr) (n c:Nat) (es:List α),cs=[.slice p n c]/\bj E sz w (.slice p n c) es:=by
 rcases DataW.trod_slice hu hf with ⟨e,_⟩|⟨a,len',cap',elems,rest,n,_,e,_,_,hl,hm,hle,re,_⟩
 ·exact⟨none,0,0,[],e,bj.nil _ _ _⟩
 ·refine⟨some a,len',cap',?_⟩
  rw[hc] at re
  have each:∀ i,i<len'->∃ q,∃ b off cs,some a=some ⟨b,off,none⟩/\(∀ (j:Nat) (u:Value),cs[j]? =some u->w.cell? ⟨b,off+i*sz+j,none⟩=some u)/\E w cs q:=by
   intro i hi
   obtain⟨y,hy⟩:∃ y,elems[i]? =some y:=⟨_,List.getElem?_eq_getElem aa⟩
   have hb:=re i hi
   rw[hy,Option.bind_eq_some_iff] at hb
   obtain⟨cs,hcs,ht⟩:=hb
   obtain⟨q,hq⟩:=gz ht
   obtain⟨_,hlen,hcell⟩:=World.cells?_some hcs
   obtain⟨b,off,spot⟩:=a
   have hspot:spot=none:=by
    obtain⟨y0,Ai⟩:∃ y,elems[0]? =some y:=⟨_,List.getElem?_eq_getElem aa⟩
    have kn:=re 0 aa
    rw[Ai,Option.bind_eq_some_iff] at kn
    obtain⟨cs0,hcs0,ht0⟩:=kn
    obtain⟨_,hlen0,Bv⟩:=World.cells?_some hcs0
    have h00:=Bv 0 oL
    rw[List.getElem?_eq_getElem aa] at h00
    have g0:=World.cell?_spot h00
    simpa [Addr.add] using g0
   subst hspot
   refine⟨q,b,off,cs,rfl,λj u hj=> ?_,hq⟩
   have hjl:j<sz:=by have:=(List.getElem?_eq_some_iff.1 hj).1;omega
   have:=hcell j hjl
   rw[WideShapes.add_plain,WideShapes.add_plain] at this
   rw[this]
   exact hj
  obtain⟨qs,hql,hqs⟩:=Bu len' each
  subst hql
  exact⟨qs,e,_,_,rfl,hl,hm,λi q hq=>hqs i q hq⟩
end
end
set_option maxRecDepth 4000
section
open Go.RowKit
attribute [local irreducible] aq VS
theorem cW {w:World} {b off z:Nat} {v:Value} (hc:∀ (j:Nat) (u:Value),[v][j]? =some u->w.cell? ⟨b,off+z*1+j,none⟩=some u):∀ (j:Nat) (u:Value),[v][j]? =some u->w.cell? ((⟨b,off+((z:Nat):Int).toNat*1,none⟩:Addr).add j)=some u:=λj u hj=>by rw[Addr.add_mid,Int.toNat_natCast];exact hc j u hj
set_option maxRecDepth 4000
theorem has_any (v:Value) (t:List (List Rat)) (xs:List Rat) (e c:Nat) (kk:Nat) (w:World) (hv:bj (im kk) 1 w v t) (hx:t[e]? =some xs) (hc:c<xs.length):
  Calls Tryz.prog 63 #[.agg #[v],.agg #[.int .i64 (e:Int),.int .i64 (c:Int)]] w λo w'=>o=.returned (.bool true)/\ax w w':=by
 obtain⟨p,cp,rfl⟩:=hv.sl
 have gz:e<t.length:=(List.getElem?_eq_some_iff.1 hx).1
 obtain⟨b,off,csx,rfl,hcc,⟨xv,rfl,pk⟩⟩:=hv.at hx
 obtain⟨p3,c3,rfl⟩:=pk.sl
 refine ah (C:=bC Tryz.prog w _) (args:=[_,_]) Tryz.func63 rfl Tryz.ntmps63 (bR rfl) ?_
 refine ae ?_
 refine VO.fix 8 rfl (congrArg (λb=>AV.val (.bool b)) (decide_eq_true (show (e:Int)>=0 by omega))) ?_
 refine ae ?_
 refine VO.fix 16 rfl (congrArg (λb=>AV.val (.bool b)) (decide_eq_true (show (e:Int)<(t.length:Int) by omega))) ?_
 refine ae ?_
 refine VO.fix 21 rfl (congrArg (λb=>AV.val (.bool b)) (decide_eq_true (show (c:Int)>=0 by omega))) ?_
 refine ae ?_
 refine VO.cond rfl dU (wV rfl ?_)
 refine ae ?_
 refine VO.read rfl [.slice p3 xs.length c3] rfl (cW hcc) (wV rfl ?_)
 refine ae ?_
 refine bg ?_;intro wz kz bz
 exact⟨congrArg (λb=>Ending.returned (.bool b)) (decide_eq_true (show (c:Int)<(xs.length:Int) by omega)),bz⟩
theorem at_any (v:Value) (t:List (List Rat)) (xs:List Rat) (x:Rat) (e c:Nat) (kk:Nat) (w:World) (hv:bj (im kk) 1 w v t) (hx:t[e]? =some xs) (hc:xs[c]? =some x) (hk:kk<=1000):
  Calls Tryz.prog 30 #[.agg #[v],.int .i64 (e:Int),.int .i64 (c:Int)] w λo w'=>∃ r,o=.returned r/\aM w' w.heap.size r x/\ax w w':=by
 obtain⟨p,cp,rfl⟩:=hv.sl
 have gz:e<t.length:=(List.getElem?_eq_some_iff.1 hx).1
 have fB:c<xs.length:=(List.getElem?_eq_some_iff.1 hc).1
 refine ah (C:=bC Tryz.prog w _) (args:=[_,_,_]) Tryz.func30 rfl Tryz.ntmps30 (bR rfl) ?_
 refine ae ?_
 refine VO.cB rfl rfl (fk Tryz.func63) (λbM dp cq=>has_any _ t xs e c kk bM (hv.lz (gp kk) cq) hx fB) (λbM dp cq w1 aQ eF _ bb1=>wV rfl ?_)
 refine ae ?_
 obtain⟨b,off,csx,rfl,hcc,⟨xv,rfl,pk⟩⟩:=hv.at hx
 obtain⟨b2,tk,csx2,hp3,nZ,⟨s,pp,n,cx,tt,y,mm,d,rfl,hrt⟩⟩:∃ b off cs,xv=.slice (some ⟨b,off,none⟩) xs.length (match xv with | .slice _ _ c=>c|_=>0)/\(∀ (j:Nat) (u:Value),cs[j]? =some u->w.cell? ⟨b,off+c*4+j,none⟩=some u)/\Bx kk w cs x:=by
  obtain⟨p3,c3,rfl⟩:=pk.sl
  obtain⟨b2,tk,cs2,rfl,h1,h2⟩:=pk.at hc
  exact⟨b2,tk,cs2,rfl,h1,h2⟩
 rw[hp3] at hcc
 generalize (match xv with | .slice _ _ c=>c|_=>0)=c3 at hcc hp3
 refine VO.cond rfl dU (wV rfl ?_)
 refine VO.read rfl [.slice (some ⟨b2,tk,none⟩) xs.length c3] rfl (cW hcc) (wV rfl ?_)
 refine ae ?_
 refine VO.cond rfl dU (wV rfl ?_)
 refine VO.read rfl [.bool s,.slice pp n cx,.bool tt,.slice y mm d] rfl (bH nZ 0 _ ⟨[],rfl⟩) (wV rfl ?_)
 refine ae ?_
 refine VO.sH rfl (fk Tryz.func39) (λcE β ed da ho=>((jO _ [x] kk cE (lS (ho.own 22 (.base (List.mem_singleton.2 rfl)) _ _ rfl) [] (vs:=[[.bool s,.slice pp n cx,.bool tt,.slice y mm d]]) (by rfl) rfl (ew.cons (hrt.kp (Kp.of (U:=UU) da)) ew.nil) (bR rfl) ck) (by unfold dV sZ;simp;omega)).mono (λo w2 h=>And.intro h da.size)).mono ?_)
 rintro o w2 ⟨⟨r2,rfl,q2,-,ba⟩,hsz2⟩
 rw[oh] at q2
 obtain⟨s2,p2,n2,c2,t2,y2,m2,d2,rfl⟩:=q2.form
 refine bo ba ?_
 intro fG _ bb2
 refine bg ?_;intro wz kz bz
 exact⟨_,rfl,(q2.kp kz).mono hsz2,bz⟩
end
section
open Go.RowKit
def jr (o:Oper):Bool:=match o.op with | .defer _=>false|_=>true
def fy (F:Fence):Prop:=F=Fence.wide\/∃ l,F=Fence.wide.inRound l
theorem fy.wide:fy Fence.wide:=.inl rfl
section
variable {Fe:Fence} {n:Nat} {P:Program} {o:Oper} {a:Act} {w:World} {K:Act->World->Prop} {Q:Exit->Act->World->Prop}
theorem fy.fn (h:fy Fe) (f:FuncId):Fe.fn f:=by rcases h with rfl|⟨l,rfl⟩ <;> trivial
theorem fy.depth (h:fy Fe):Fe.depth=none:=by rcases h with rfl|⟨l,rfl⟩ <;> rfl
theorem fy.calls (h:fy Fe) {f:FuncId} {args:Array Value} {R:Ending->World->Prop} (hc:Calls P f args w R):CallsIn Fe n P f args w R:=by
 have:=(callsIn_wide (n:=n)).2 hc
 rcases h with rfl|⟨l,rfl⟩
 ·exact this
 ·exact this
theorem fy.rows (h:fy Fe) {r:String} {args:Array Value} {R:Value->World->Prop} (hc:Rows P r args w R):RowsIn Fe n P r args w R:=by
 have:RowsIn Fence.wide n P r args w R:=λc cs _=>let ⟨v,w',r,s⟩:=hc c cs;⟨v,w',r,stepsIn_wide.2 s⟩
 rcases h with rfl|⟨l,rfl⟩
 ·exact this
 ·exact this
theorem fy.upon (h:fy Fe) {r:Result Next} (hu:o.upon P a K Q r):o.uponIn Fe n P a K Q r:=by
 have hd:Fe.depth.isSome=true->1<=n:=λe=>by rw[h.depth] at e;cases e
 cases r with
 | ok x w'=>
   cases x with
   | value v=>exact hu
   | skip=>exact hu
   | defer d=>exact hu
   | enter f args=>exact⟨hd,h.calls hu⟩
   | row r args=>exact⟨hd,h.rows hu⟩
   | round l f tmps assign body=>exact hu.elim
   | _=>exact hu.elim
 | halt x w'=>
   cases x with
   | panic v=>exact hu
   | _=>exact hu.elim
theorem fy.sem (h:fy Fe) (hd:jr o=true):o.semAt Fe.round a.eval=execOp a.eval o:=by
 rcases h with rfl|⟨l,rfl⟩
 ·rfl
 ·exact Oper.semAt_some l _ _ λc e=>by unfold jr at hd;rw[e] at hd;cases hd
theorem fy.op (h:fy Fe) (hd:jr o=true) (hw:o.wp P a w K Q):o.wpIn Fe n P a w K Q:=by
 refine⟨λf _=>h.fn f,?_⟩
 rw[h.sem hd]
 exact h.upon hw
end
section
variable {Fe:Fence} {n:Nat} {C:Cx} {Q:Exit->Act->World->Prop} {ml:List FuncId} {full:Array Oper}
theorem qF (hB:fy Fe) (hC:C.Ok) {m:Option (List FuncId)} {K:Fr->Hp->World->Prop} {tl:List Oper} (hQ:∀ β F H w a w',K F H w->Rel C β F H a w'->aH C.K w w'->wpListIn Fe n C.P full Q tl a w'):
  ∀ (l:List Oper),l.all jr=true->∀ (β:Nat->Nat) (F:Fr) (H:Hp) (w:World) (a:Act) (w':World),aq C m full l K F H w->Rel C β F H a w'->aH C.K w w'->wpListIn Fe n C.P full Q (l++tl) a w'
 | [],_,β,F,H,w,a,w',h,hr,hk=>hQ β F H w a w' h hr hk
 | o::r,hd,β,F,H,w,a,w',h,hr,hk=>by
   rw[List.all_cons,Bool.and_eq_true] at hd
   show wpListIn Fe n C.P full Q (o::(r++tl)) a w'
   refine wpListIn_step λK' hK'=> ?_
   have:=jl hC (next:=K') (Q:=Q) (k:=aq C m full r K) h hr hk λbn F' H' w1 a' ea h1 h2 h3=>hK' _ _ (qF hB hC hQ r hd.2 bn F' H' w1 a' ea h1 h2 h3)
   split at this
   ·rename_i hw;rw[if_pos hw];exact hB.op hd.1 this
   ·rename_i hw;rw[if_neg hw];exact⟨λf _=>hB.fn f,this⟩
end
section
variable {Fe:Fence} {C:Cx} {Q:Exit->Act->World->Prop} {k:List It} {F F':Fr} {H H':Hp} {w:World} {id:Nat} {ops:Array Oper} {l':List Oper}
end
def Fr.vals (L:List (Nat×Value)):Fr:=Fr.of (L.map λp=>(p.1,.val p.2))
def Et (F:Fr):List (Nat×Value)->Prop
 | []=>True
 | p::r=>F p.1=some (.val p.2)/\Et F r
theorem Et.mem {F:Fr}:∀ {L:List (Nat×Value)} {p:Nat×Value},Et F L->p∈L->F p.1=some (.val p.2)
 | q::r,p,h,hm=>by
   rcases List.mem_cons.1 hm with rfl|hm
   ·exact h.1
   ·exact Et.mem h.2 hm
theorem tn {L:List (Nat×Value)} {d:Nat} {v:AV} (h:Fr.vals L d=some v):∃ u,v=.val u/\(d,u)∈L:=by
 have:=Fr.dQ h
 obtain⟨p,hp,e⟩:=List.mem_map.1 this
 cases e
 exact⟨p.2,rfl,hp⟩
structure Knows (N:Nat) (L:List (Nat×Value)) (a:Act):Prop where
 defers:a.defers=[]
 size:a.tmps.size=N
 tmp:∀ p∈L,p.1<N/\a.tmps.getD p.1 undef=p.2
theorem Knows.rel {C:Cx} {L:List (Nat×Value)} {a:Act} {w:World} (h:Knows C.N L a) (ho:C.Old w):Rel C (λ_=>0) (Fr.vals L) (λ_=>none) a w:=
 ⟨h.defers,h.size,λd v hd=>by obtain⟨u,rfl,hm⟩:=tn hd;exact (h.tmp _ hm).2,λi t cs hi=>(by cases hi),λi j hi=>absurd rfl hi,λd v hd i hi=>(by obtain⟨u,rfl,hm⟩:=tn hd;cases hi),λd v hd=>(by obtain⟨u,rfl,hm⟩:=tn hd;exact (h.tmp _ hm).1),⟨λi t cs hi=>(by cases hi),λi t cs hi=>(by cases hi),λi hi=>rfl⟩,ho⟩
theorem Rel.knows {C:Cx} {β:Nat->Nat} {F:Fr} {H:Hp} {a:Act} {w:World} {L:List (Nat×Value)} (hr:Rel C β F H a w) (hL:Et F L):Knows C.N L a:=
 ⟨hr.defers,hr.size,λp hp=>⟨hr.fits _ _ (hL.mem hp),hr.tmp _ _ (hL.mem hp)⟩⟩
def Hh (N:Nat) (J:Nat->List (Nat×Value)->World->Prop) (n:Nat) (a:Act) (w:World):Prop:=∃ L,J n L w/\Knows N L a
section
variable {C:Cx} {Q:Exit->Act->World->Prop} {k:List It} {F:Fr} {H:Hp} {w:World} {J:Nat->List (Nat×Value)->World->Prop}
end
section
variable {C:Cx} {F:Fr} {H:Hp} {w:World} {Q:Exit->Act->World->Prop} {k:List It}
end
theorem iG.aG {w w1 W:World} {ad:List Nat} (h:ax w w1) (k:iG ad w1 W) (hg:∀ g∈ad,w.heap.size<=g):ax w W:=
 Below.trans h ⟨k.os,k.tape,k.output,k.size,λg xl=>k.iX g (Nat.lt_of_lt_of_le xl h.size) λhm=>by have:=hg g hm;omega⟩
theorem pQ {P:Program} {w:World} {N:Nat} {K:KC} {SU:TypeId->Bool} {ti:TypeId->Option TI} {keep:∀ b,b<w.heap.size->K.S b} {g:Nat} {ha:gA K [g] w} {x:Addr} {u:Value} (hb:x.block≠g) (h:w.cell? x=some u):Cx.At (wE P w N K SU ti keep [g] (ve g) ha) x u:=λw1 qZ=>by
 have h1:iG [g] w w1:=qZ.1
 have hlt:=World.block_lt_of_cell? w x h
 rw[World.cell?_of_block (w:=w) (h1.iX _ hlt (λhm=>hb (List.mem_singleton.1 hm)))]
 exact h
section
variable {C:Cx} {F:Fr} {H:Hp} {w:World} {m:Option (List FuncId)} {full:Array Oper} {K:Fr->Hp->World->Prop} {o:Oper} {r:List Oper} {Q:Exit->Act->World->Prop} {k:List It}
def oi (F:Fr) (β bn:Nat->Nat) (lo hi:Nat):List (Nat×AV)->Prop
 | []=>True
 | p::r=>(∃ u,F p.1=some u/\p.2.aE bn=u.aE β/\∀ i∈p.2.ids,lo<=i/\i<hi)/\oi F β bn lo hi r
theorem oi.mem {β bn:Nat->Nat} {lo hi:Nat}:∀ {L:List (Nat×AV)} {d:Nat} {v:AV},oi F β bn lo hi L->(d,v)∈L->∃ u,F d=some u/\v.aE bn=u.aE β/\∀ i∈v.ids,lo<=i/\i<hi
 | p::r,d,v,h,hm=>by
   rcases List.mem_cons.1 hm with rfl|hm
   ·exact h.1
   ·exact oi.mem h.2 hm
theorem VS.eQ (K:KC) (SU:TypeId->Bool) (ti:TypeId->Option TI) (keep:∀ (w':World) b,b<w'.heap.size->K.S b)
  (h:∀ w' β,aH C.K w w'->C.Old w'->Ends C β H w'->∃ (ad:List Nat) (l:List (TypeId×List AV)) (hl:eL K C.N ad l w') (L:List (Nat×AV)),oi F β (adB C.N ad) (2*C.N) (2*C.N+l.length) L/\
   VS (wE C.P w' C.N K SU ti (keep w') ad hl.nodup hl.ad) Q k (Fr.of L) (Hp.ads (2*C.N) l) w'):VS C Q k F H w:=λβ a w' hr hk=>by
 obtain⟨ad,l,hl,L,hL,hv⟩:=h w' β hk hr.old ⟨hr.own,hr.apart⟩
 have re:∀ i c,Hp.ads (2*C.N) l i=some c->2*C.N<=i/\l[i-2*C.N]? =some c:=λi c hi=>by
  rw[Hp.tg] at hi
  split at hi
  ·exact⟨by assumption,hi⟩
  ·cases hi
 have hsome:∀ i,Hp.ads (2*C.N) l i≠none->2*C.N<=i/\i-2*C.N<l.length:=λi hi=>by
  cases hh:Hp.ads (2*C.N) l i with
  | none=>exact absurd hh hi
  | some c=>
    obtain⟨h1,h2⟩:=re i c hh
    exact⟨h1,(List.getElem?_eq_some_iff.1 h2).1⟩
 have hval:∀ k,k<ad.length->ad[k]? =some (ad.getD k 0):=λk hk=>by simp[List.getD_eq_getElem?_getD,hk]
 refine hv (adB C.N ad) a w' ⟨hr.defers,hr.size,λd v hd=> ?_,λi t cs hi=> ?_,λi j hi hj e=> ?_,λd v hd i hi=> ?_,λd v hd=> ?_,⟨λi t cs hi=> ?_,λi t cs hi=> ?_,λi hi=> ?_⟩,(wE C.P w' C.N K SU ti (keep w') ad hl.nodup hl.ad).lI⟩ (aH.refl _ _)
 ·obtain⟨u,h1,h2,_⟩:=hL.mem (Fr.dQ hd)
  rw[h2]
  exact hr.tmp d u h1
 ·obtain⟨h1,h2⟩:=re i _ hi
  have hlt:=(List.getElem?_eq_some_iff.1 h2).1
  obtain⟨g1,g2⟩:=hl.ok _ (List.mem_of_getElem? h2)
  have hv:=hval (i-2*C.N) (by rw[hl.len];exact hlt)
  refine⟨?_,g1,hl.cls _ _ _ hv h2,g2⟩
  show gD C.N ad w' i (adB C.N ad i)
  unfold gD
  rw[if_pos h1]
  exact hv
 ·obtain⟨h1,h2⟩:=hsome i hi
  obtain⟨h3,h4⟩:=hsome j hj
  have e1:=hval (i-2*C.N) (by rw[hl.len];exact h2)
  have e2:=hval (j-2*C.N) (by rw[hl.len];exact h4)
  have e':ad.getD (i-2*C.N) 0=ad.getD (j-2*C.N) 0:=e
  rw[<-e'] at e2
  have:=(List.getElem?_inj (by rw[hl.len];exact h2) hl.nodup).1 (e1.trans e2.symm)
  omega
 ·obtain⟨u,h1,h2,h3⟩:=hL.mem (Fr.dQ hd)
  obtain⟨h4,h5⟩:=h3 i hi
  rw[Hp.tg,if_pos h4,List.getElem?_eq_getElem aa]
  simp
 ·obtain⟨u,h1,h2,h3⟩:=hL.mem (Fr.dQ hd)
  exact hr.fits d u h1
 ·obtain⟨h1,h2⟩:=re i _ hi
  exact hl.ok _ (List.mem_of_getElem? h2)
 ·obtain⟨h1,h2⟩:=re i _ hi
  intro j hj
  obtain⟨h3,h4⟩:=hl.ids _ (List.mem_of_getElem? h2) j hj
  rw[Hp.tg,if_pos h3,List.getElem?_eq_getElem aa]
  simp
 ·have pj:2*C.N+ad.length<=i:=hi
  rw[Hp.tg]
  split
  ·exact List.getElem?_eq_none (by rw[<-hl.len];omega)
  ·rfl
def MK (C:Cx) (Q:Exit->Act->World->Prop) (k:List It) (full:Array Oper) (o:Oper) (F:Fr) (H:Hp) (w:World):Prop:=
 ∃ (g:FuncId) (args:List AV) (vs:List Value) (D:World->Cx),stepOf C full F H o=.call (.fn g args)/\dL args=some vs/\sf C.P g/\(∀ w,(D w).P=C.P)/\(∀ w,(D w).N=C.N)/\(∀ w,Cx.Old (D w) w)/\
   ∀ w1,aH C.K w w1->C.Old w1->Calls C.P g vs.toArray w1 λe w2=>∃ v L,e=.returned v/\Et F L/\(∀ p∈L,o.dst≠some p.1)/\VS (D w2) Q k (Fr.vals L) (λ_=>none) w2
theorem VS.xb (hC:C.Ok) {id:Nat} {ops:Array Oper} (j:Nat) {o:Oper} (hj:ops.toList.drop j=[o]) (hd:ops.toList.all jr=true) (ho:jr o=true)
  (h:aq C none ops (ops.toList.take j) (MK C Q k ops o) F H w):VS C Q (.code (.region id ops false)::k) F H w:=λβ a w' hr hk=>by
 refine (wpIn_wide (n:=0)).1 (wpIn_region_list ?_)
 rw[<-List.take_append_drop j ops.toList,hj]
 refine qF fy.wide hC (tl:=[o]) (λβ F H w a w' h hr hk=> ?_) (ops.toList.take j) (List.all_eq_true.2 λo ho=>List.all_eq_true.1 hd o (List.mem_of_mem_take ho)) β F H w a w' h hr hk
 obtain⟨g,args,vs,D,e,hv,hf,hP,hN,hO,fB⟩:=h
 refine wpListIn_step λK hK=> ?_
 have hb:stepOf C ops F H o≠.bad:=λe'=>by rw[e] at e';cases e'
 obtain⟨fD,⟨hw,hs⟩|⟨hw,hs⟩⟩:=ic hb
 ·rw[hs] at e;cases e
 ·rw[iC hr hw,if_pos rfl]
  refine fy.wide.op ho (Cp hr (hs.symm.trans e) ?_)
  refine⟨hf,?_⟩
  rw[fV hv,fK]
  refine (fB w' hk hr.old).mono ?_
  rintro e w2 ⟨v,L,rfl,hL,hLd,hcont⟩
  refine⟨v,rfl,hK _ _ ?_⟩
  show post C.P Q k .normal _ w2
  have xn:=hr.knows hL
  have nr:Knows (D w2).N L (a.put o.dst v):=by
   rw[hN]
   cases hod:o.dst with
   | none=>exact xn
   | some d=>
     refine⟨xn.defers,by simp[Act.put];exact xn.size,λp hp=>⟨(xn.tmp p hp).1,?_⟩⟩
     have hne:d≠p.1:=λe=>hLd p hp (by rw[hod,e])
     have:=(xn.tmp p hp).2
     simp[Act.put,Array.getD_eq_getD_getElem?,Array.getElem?_setIfInBounds,hne] at this ⊢
     exact this
  have:=hcont _ _ w2 (nr.rel (hO w2)) (aH.refl _ _)
  rw[hP] at this
  exact this
end
section
variable {C:Cx} {Q:Exit->Act->World->Prop} {k:List It} {F:Fr} {H:Hp} {w:World} {J:Nat->List (Nat×Value)->World->Prop}
def Hi (F:Fr) (β:Nat->Nat) (L:List (Nat×Value)):Prop:=pP F β (L.map λp=>(p.1,AV.val p.2))
theorem Rel.Hj {β:Nat->Nat} {a:Act} {L:List (Nat×Value)} (hr:Rel C β F H a w) (hL:Hi F β L):Knows C.N L a:=
 ⟨hr.defers,hr.size,λp hp=>by
  obtain⟨u,x,h1,h2,h3⟩:=hL.mem (List.mem_map.2 ⟨p,hp,rfl⟩)
  cases h3
  exact⟨hr.fits _ u h1,by rw[hr.tmp _ u h1,h2]⟩⟩
theorem VS.zH (D:World->Cx) (hP:∀ w,(D w).P=C.P) (hN:∀ w,(D w).N=C.N) (hO:∀ w,(D w).Old w) (n0:Nat) {body:Code} (h0:∀ w' β,aH C.K w w'->C.Old w'->Ends C β H w'->∃ L,Hi F β L/\J n0 L w')
  (round:∀ n L W,J n L W->VS (D W) Q (.code body::.back (λa w=>∃ m,m<n/\Hh C.N J m a w)::k) (Fr.vals L) (λ_=>none) W):VS C Q (.code (.loop body)::k) F H w:=λβ a w' hr hk=>by
 obtain⟨L,h1,h2⟩:=h0 w' β hk hr.old ⟨hr.own,hr.apart⟩
 refine wp_loop_ghost (Hh C.N J) n0 ⟨L,h2,hr.Hj h1⟩ ?_
 rintro n a1 w1 ⟨L1,hJ,nr⟩
 have hkn':Knows (D w1).N L1 a1:=by rw[hN];exact nr
 have:=round n L1 w1 hJ _ a1 w1 (hkn'.rel (hO w1)) (aH.refl _ _)
 rw[hP] at this
 exact this
theorem VS.om {n N:Nat} (hN:C.N=N) (m:Nat) (hm:m<n) (h:∀ w' β,aH C.K w w'->C.Old w'->Ends C β H w'->∃ L,Hi F β L/\J m L w'):VS C Q (.back (λa w=>∃ m,m<n/\Hh N J m a w)::k) F H w:=λβ a w' hr hk=>by
 subst hN
 obtain⟨L,h1,h2⟩:=h w' β hk hr.old ⟨hr.own,hr.apart⟩
 exact⟨m,hm,L,h2,hr.Hj h1⟩
end
end
section
open Go.RowKit
attribute [local irreducible] aq VS
section
variable {F F':Fr} {H H':Hp} {w w1:World} {N:Nat} {l':List Oper} {Q:Exit->Act->World->Prop} {k:List It} {id:Nat} {ops:Array Oper}
end
theorem gg.told {α:Type} {E:World->List Value->α->Prop} {sz i:Nat} {t:TypeId} {es:List α} {C:Cx} {β:Nat->Nat} {H:Hp} {w w1:World} {X:AV} {M:List (Nat×(TypeId×List AV))} (h:gg E sz t i X M w es) (hE:eg E sz) (en:Ends C β H w1) (hM:∀ x∈M,H x.1=some x.2) (k:Kp UU w w1) (B:Nat) (hB:C.qh i (β i)->B<=β i):aC E sz t B w1 (X.aE β) es:=by
 rcases h with ⟨rfl,rfl,rfl⟩|⟨n,c,vs,sp,rfl,rfl,h3⟩
 ·exact .inl ⟨rfl,rfl⟩
 ·have o:=en.own i _ _ (hM _ (List.mem_singleton.2 rfl))
  have hk:=o.ok
  rw[List.all_append,Bool.and_eq_true] at hk
  have hn:=h3.len
  subst hn
  refine .inr ⟨β i,c,vs,sp.map (AV.leaf β),rfl,hB o.new,?_,h3.el.kp hE k,cZ hk.2,h3.le,h3.cm,by rw[<-h3.fl];simp only[List.length_append,List.length_map]⟩
  have:=o.cls
  rw[List.map_append,aU] at this
  exact this
set_option maxRecDepth 4000
set_option maxRecDepth 4000 in
theorem Eu (v:Value) (t:List (List Rat)) (xs:List Rat) (x:Rat) (e c:Nat) (kk:Nat) (w:World) (hv:bj (im kk) 1 w v t) (hx:t[e]? =some xs) (hc:xs[c]? =some x) (hk:kk<=1000):
  Calls Tryz.prog 31 #[.agg #[v],.int .i64 (e:Int),.int .i64 (c:Int)] w λo w'=>∃ r,o=.returned r/\cM w' r x/\ax w w':=by
 obtain⟨p,cp,rfl⟩:=hv.sl
 have gz:e<t.length:=(List.getElem?_eq_some_iff.1 hx).1
 have fB:c<xs.length:=(List.getElem?_eq_some_iff.1 hc).1
 obtain⟨b,off,csx,rfl,hcc,⟨xv,rfl,pk⟩⟩:=hv.at hx
 obtain⟨b2,tk,csx2,hp3,nZ,⟨s,pp,n,cx,tt,y,mm,d,rfl,hrt⟩⟩:∃ b off cs,xv=.slice (some ⟨b,off,none⟩) xs.length (match xv with | .slice _ _ c=>c|_=>0)/\(∀ (j:Nat) (u:Value),cs[j]? =some u->w.cell? ⟨b,off+c*4+j,none⟩=some u)/\Bx kk w cs x:=by
  obtain⟨p3,c3,rfl⟩:=pk.sl
  obtain⟨b2,tk,cs2,rfl,h1,h2⟩:=pk.at hc
  exact⟨b2,tk,cs2,rfl,h1,h2⟩
 rw[hp3] at hcc
 generalize (match xv with | .slice _ _ c=>c|_=>0)=c3 at hcc hp3
 refine ah (C:=bC Tryz.prog w _) (args:=[_,_,_]) Tryz.func31 rfl Tryz.ntmps31 (bR rfl) ?_
 refine ae ?_
 refine VO.fix 9 rfl (congrArg (λb=>AV.val (.bool b)) (decide_eq_false (show ¬ (e:Int)<0 by omega))) ?_
 refine ae ?_
 refine VO.fix 16 rfl (congrArg (λb=>AV.val (.bool b)) (decide_eq_false (show ¬ (e:Int)>=(t.length:Int) by omega))) ?_
 refine ae ?_
 refine VO.fix 20 rfl (congrArg (λb=>AV.val (.bool b)) (decide_eq_false (show ¬ (c:Int)<0 by omega))) ?_
 refine ae ?_
 refine VO.cond rfl dU (wV rfl ?_)
 refine VO.read rfl [.slice (some ⟨b2,tk,none⟩) xs.length c3] rfl (cW hcc) (wV rfl ?_)
 refine ae ?_
 refine VS.bt rfl (decide_eq_false (show ¬ (c:Int)>=(xs.length:Int) by omega)) ?_
 refine ae ?_
 refine VO.cond rfl dU (wV rfl ?_)
 refine VO.read rfl [.slice (some ⟨b2,tk,none⟩) xs.length c3] rfl (cW hcc) (wV rfl ?_)
 refine ae ?_
 refine VO.cond rfl dU (wV rfl ?_)
 refine VO.read rfl [.bool s,.slice pp n cx,.bool tt,.slice y mm d] rfl (bH nZ 0 _ ⟨[],rfl⟩) (wV rfl ?_)
 refine ae ?_
 refine VO.call rfl rfl (fk Tryz.func70) (λcE ed da=>(od _ x kk cE (hrt.kp (Kp.of (U:=UU) da)) aa).mono ?_)
 rintro o w2 ⟨r2,rfl,q2,ba⟩
 obtain⟨s2,p2,n2,c2,t2,y2,m2,d2,rfl⟩:=q2.form
 refine bo ba ?_
 intro fG _ bb2
 refine bg ?_;intro wz kz bz
 exact⟨_,rfl,q2.kp kz,bz⟩
set_option maxRecDepth 4000
def VE (_:World) (cs:List Value) (v:Value):Prop:=cs=[v]/\∃ p n c,v=.slice p n c
theorem dm:eg VE 1 where
 kp:=λh _=>h
 len:=λh=>by rw[h.1];rfl
 ok:=λh=>by
  obtain⟨rfl,p,n,c,rfl⟩:=h
  rfl
theorem aC.nil' {α:Type} {E:World->List Value->α->Prop} {sz B:Nat} {t:TypeId} {w:World}:aC E sz t B w (.slice none 0 0) []:=.inl ⟨rfl,rfl⟩
set_option maxRecDepth 4000
abbrev EY:KC:=⟨UU,λ_=>True,λt=>Nat.beq t 38⟩
abbrev cxU (P:Program) (w:World) (N:Nat) (ad:List Nat) (hd:ad.Nodup) (ha:gA EY ad w):Cx:=wE P w N EY (λt=>Nat.beq t 23) table (λ_ _=>trivial) ad hd ha
theorem Bz (w:World) (N:Nat) {ad:List Nat} {hd:ad.Nodup} {ha:gA EY ad w}:(cxU Tryz.prog w N ad hd ha).Ok:=eK
section
variable {F F':Fr} {H H':Hp} {w w1:World} {N:Nat} {l':List Oper} {Q:Exit->Act->World->Prop} {k:List It} {id:Nat} {ops:Array Oper}
theorem cxU_r {ad:List Nat} {hd:ad.Nodup} {ha:gA EY ad w1} (e:iu (cxU Tryz.prog w1 N ad hd ha) ops 80 ops.toList F H=(l',F',H')) (h:aq (cxU Tryz.prog w1 N ad hd ha) none ops l' (VS (cxU Tryz.prog w1 N ad hd ha) Q k) F' H' w):VS (cxU Tryz.prog w1 N ad hd ha) Q (.code (.region id ops false)::k) F H w:=VS.region (Bz _ _) (VO.run 80 e h)
end
section
variable {F F':Fr} {H H':Hp} {w w1:World} {N:Nat} {l':List Oper} {Q:Exit->Act->World->Prop} {k:List It} {id:Nat} {ops:Array Oper}
end
theorem ek {w:World} {g:Nat} {t t':TypeId} {a b:Array Value} (h:aI w g t a) (k:aI w g t' b):t=t':=by
 have:=(show w.heap[g]? =_ from h).symm.trans (show w.heap[g]? =_ from k)
 injection this with this
 injection this
theorem CN {α:Type} {E:World->List Value->α->Prop} {w:World} {v:Value} {vs:List Value} {es:List α} (h:bj VE 1 w v vs) (hl:vs.length=es.length) (hg:∀ (i:Nat) (u:Value) (a:α),vs[i]? =some u->es[i]? =some a->E w [u] a):bj E 1 w v es:=by
 obtain⟨p,c,rfl,h1,h2,h3⟩:=h
 refine⟨p,c,by rw[hl],by rw[<-hl];exact h1,h2,λi a ha=> ?_⟩
 obtain⟨u,hu⟩:∃ u,vs[i]? =some u:=⟨_,List.getElem?_eq_getElem (by rw[hl];exact (List.getElem?_eq_some_iff.1 ha).1)⟩
 obtain⟨b,off,cs,hp,hc,hE⟩:=h3 i u hu
 obtain⟨rfl,-⟩:=hE
 exact⟨b,off,_,hp,hc,hg i u a hu ha⟩
theorem aC.aG {α:Type} {E:World->List Value->α->Prop} {sz B:Nat} {t:TypeId} {w w':World} {v:Value} {es:List α} (hE:eg E sz) (h:aC E sz t B w v es) (hb:ax w w'):aC E sz t B w' v es:=h.kp hE (T:=λ_=>true) (aH.of hb) rfl
theorem rB {α:Type} {vs:List Value} {l:List α} {P:Value->α->Prop} {u:Value} {a:α} (h:∀ (i:Nat) (v:Value) (x:α),vs[i]? =some v->l[i]? =some x->P v x) (ha:l[vs.length]? =some a) (hu:P u a):∀ (i:Nat) (v:Value) (x:α),(vs++[u])[i]? =some v->l[i]? =some x->P v x:=λi v x hi hx=>by
 by_cases hil:i<vs.length
 ·rw[List.getElem?_append_left hil] at hi;exact h i v x hi hx
 ·rw[List.getElem?_append_right aa] at hi
  have:=(List.getElem?_eq_some_iff.1 hi).1
  rw[List.length_singleton] at this
  obtain rfl:i=vs.length:=by omega
  rw[Nat.sub_self] at hi
  cases hi
  rw[ha] at hx
  cases hx;exact hu
end
end Go.Proofs.YtlifeokjcgngjaaGreat
