/-AU of the proof,laid behind one another. -/
import Derived.Test.YtlifeokjcgngjaaGreatKChartTables3
import Derived.OpenShut
import Derived.WideShapes
import Derived.ChangeArms
import Derived.ChangeSlices
import Derived.Lib.VarintBits
import Derived.RangeFuncNested
import Derived.RangeFuncLeaves
import Derived.OrdersIn
import Derived.TacticsIn
set_option linter.all false
set_option maxHeartbeats 64000000
set_option maxRecDepth 4000
namespace Go.Proofs.YtlifeokjcgngjaaGreat
section
open Go.RowKit
attribute [local irreducible] ar VS
theorem qb (w:World):Calls Tryz.prog 87 #[] w λe w'=>∃ r,e=.returned r/\au w' w.heap.size r 1/\ak w w':=by
 refine af (C:=aW Tryz.prog w _) (args:=[]) Tryz.func87 rfl Tryz.ntmps87 (bP rfl) ?_
 refine ae ?_
 refine VO.cI rfl rfl (fk Tryz.func88) (λbo cj bD=>Gm 1 bo aa aa) (λbo cj bD w1 s1 p1 n1 c1 h1 aL dh _ bb1=>wV rfl ?_)
 refine ae ?_
 refine aX ?_;intro wz kz bz
 exact⟨_,rfl,(h1.kp kz).mono bD.size,bz⟩
def Am (s:Bool) (xs:List Nat) (t:Bool) (ys:List Nat):Bool:=cL s xs && (cL t ys && (decide (0<numOf t ys) && decide (Int.gcd (numOf s xs) (numOf t ys)=1)))
theorem CO {s t:Bool} {xs ys:List Nat} (h:Am s xs t ys=false):rq s xs t ys=0:=by
 unfold rq EN
 split
 ·rename_i hc
  cases h1:cL s xs with
  | false=>unfold numOf;rw[if_neg (by simp[h1])];simp
  | true=>
    cases h2:cL t ys with
    | false=>
      have:numOf t ys=0:=by unfold numOf;rw[if_neg (by simp[h2])]
      omega
    | true=>
      unfold Am at h
      rw[h1,h2,decide_eq_true hc.1,decide_eq_true hc.2] at h
      cases h
 ·rfl
theorem rtB_inv {s t:Bool} {xs ys:List Nat} (h:Am s xs t ys=true):cL s xs=true/\cL t ys=true/\0<numOf t ys/\Int.gcd (numOf s xs) (numOf t ys)=1:=by
 unfold Am at h
 simp only[Bool.and_eq_true,decide_eq_true_eq] at h
 exact h
theorem eM.lim {w:World} {v:Value} {s:Bool} {xs:List Nat} (h:eM w v s xs):bS xs:=by
 obtain⟨_,_,_,_,l⟩:=h
 exact l
theorem CP {w:World} {v:Value} {s t:Bool} {xs ys:List Nat} (hv:dJ w v s xs t ys) (h:Am s xs t ys=true):dB w v (rq s xs t ys):=by
 obtain⟨h1,h2,h3,h4⟩:=rtB_inv h
 obtain⟨p,c,r,d,rfl,a1,a2⟩:=hv
 obtain⟨e1,e2⟩:=pY ⟨h3,h4⟩
 refine⟨s,p,_,c,t,r,_,d,rfl,?_,?_⟩
 ·unfold rq;rw[e1]
  have l:=a1.lim
  unfold numOf
  rw[if_pos h1]
  obtain⟨c1,c2⟩:=canon l h1
  show eM _ _ _ _
  rw[<-c1,<-c2]
  assumption
 ·unfold rq;rw[e2]
  have l:=a2.lim
  unfold numOf
  rw[if_pos h2]
  obtain⟨c1,c2⟩:=canon l h2
  show eM _ _ _ _
  rw[<-c1,<-c2]
  assumption
theorem eM.in {w:World} {v:Value} {s:Bool} {xs:List Nat} {k:Nat} (h:eM w v s xs) (hk:xs.length<=k):bH w v (numOf s xs) k:=⟨s,xs,h,rfl,hk⟩
theorem Ao (s t:Bool) (xs ys:List Nat) (v:Value) (w:World) (h:dJ w v s xs t ys) (hx:xs.length<=536870912) (hy:ys.length<=536870912):
  Calls Tryz.prog 36 #[v] w λe w'=>e=.returned (.bool (Am s xs t ys))/\ak w w':=by
 obtain⟨p,c,r,d,rfl,h1,h2⟩:=h
 refine af (C:=aW Tryz.prog w _) (args:=[_]) Tryz.func36 rfl Tryz.ntmps36 (bP rfl) ?_
 refine ae ?_
 refine VO.call rfl rfl (fk Tryz.func83) (λbo cj bD=>(pR s xs _ bo (h1.aB bD)).mono ?_)
 rintro e w1 ⟨rfl,aL⟩
 cases q1:cL s xs
 ·refine bA aL ?_
  intro dh _ bb1
  refine aX ?_;intro wz kz bz
  exact⟨by simp[Am,q1,ir],bz⟩
 refine bA aL ?_
 intro dh _ bb1
 refine VO.call rfl rfl (fk Tryz.func83) (λcA dG cV=>(pR t ys _ cA (h2.aB cV)).mono ?_)
 rintro e w2 ⟨rfl,aY⟩
 cases q2:cL t ys
 ·refine bA aY ?_
  intro eU _ bb2
  refine aX ?_;intro wz kz bz
  exact⟨by simp[Am,q1,q2,ir],bz⟩
 refine bA aY ?_
 intro eU _ bb2
 refine VO.call rfl rfl (fk Tryz.func84) (λeD eW fN=>(od _ (numOf t ys) _ eD ((h2.in (Nat.le_refl _)).aB fN)).mono ?_)
 rintro e w3 ⟨rfl,cK⟩
 by_cases q3:0<numOf t ys
 ·rw[dN q3]
  refine bA cK ?_
  intro iM _ bb3
  refine VO.cI rfl rfl (fk Tryz.func86) (λiP jA jX=>Cw _ _ (numOf s xs) (numOf t ys) _ _ iP ((h1.in (Nat.le_refl _)).aB jX) ((h2.in (Nat.le_refl _)).aB jX) hx hy) (λiP jA jX w4 s4 p4 n4 c4 h4 gj nD _ Ah=>wV rfl ?_)
  refine ae ?_
  refine VO.cI rfl rfl (fk Tryz.func87) (λjj jk kD=>qb jj) (λjj jk kD w5 s5 p5 n5 c5 h5 iR mE _ xT=>wV rfl ?_)
  refine ae ?_
  have hg:Sz (Int.gcd (numOf s xs) (numOf t ys):Int) ys.length:=by
   obtain⟨_,_,_,_,l2⟩:=h2
   refine Sz.le (Y:=numOf t ys) (qU l2 (Nat.le_refl _)) ?_
   rw[Int.natAbs_natCast,<-Int.natAbs_natCast (Int.gcd (numOf s xs) (numOf t ys))]
   have:=Int.gcd_dvd_right (numOf s xs) (numOf t ys)
   have:=Int.natAbs_dvd_natAbs.2 this
   exact Nat.le_of_dvd aa this
  refine VO.call rfl rfl (fk Tryz.func85) (λpZ oZ zd=>(ny _ _ (Int.gcd (numOf s xs) (numOf t ys):Int) 1 _ 1 pZ ((h4.kp (jk.aw ((Kp.of iR).aw oZ))).in hg) ((h5.kp oZ).in (Sz.small bZ)) aa aa).mono ?_)
  rintro e w6 ⟨rfl,og⟩
  by_cases q4:Int.gcd (numOf s xs) (numOf t ys)=1
  ·rw[show ((Int.gcd (numOf s xs) (numOf t ys):Int)-1).sign=0 by rw[q4];rfl]
   refine bA og ?_
   intro uy _ Gw
   refine aX ?_;intro wz kz bz
   exact⟨by simp[Am,q1,q2,q3,q4,ir],bz⟩
  ·have hne:(((Int.gcd (numOf s xs) (numOf t ys):Int)-1).sign == 0)=false:=by
    rw[beq_eq_false_iff_ne]
    intro e
    have:=Int.sign_eq_zero_iff_zero.1 e
    omega
   refine bA og ?_
   intro uy _ Gw
   refine aX ?_;intro wz kz bz
   exact⟨by simp only[Am,q1,q2,q3,q4,ir,Bool.true_and,decide_true,decide_false,hne],bz⟩
 ·have q4:(numOf t ys).sign=0\/(numOf t ys).sign= -1:=by
   rcases Int.lt_trichotomy (numOf t ys) 0 with e|e|e
   ·exact .inr (sign_neg e)
   ·rw[e];exact .inl rfl
   ·exact absurd e q3
  rcases q4 with q4|q4
  all_goals
   rw[q4]
   refine bA cK ?_
   intro iM _ bb3
   refine aX ?_;intro wz kz bz
   exact⟨by simp[Am,q1,q2,q3,ir],bz⟩
theorem dB.zero {w:World} {p:Option Addr} {n c:Nat} {s:Bool} (h:bK w (.agg #[.bool s,.slice p n c]) 1):dB w (.agg #[.bool false,.slice none 0 0,.bool s,.slice p n c]) 0:=⟨_,_,_,_,_,_,_,_,rfl,bK.zero _,h⟩
theorem dS (v:Value) (q:Rat) (k:Nat) (w:World) (h:bE w v q k) (hk:k<=536870912):
  Calls Tryz.prog 90 #[v] w λe w'=>∃ r,e=.returned r/\dB w' r q/\ak w w':=by
 obtain⟨s,xs,t,ys,lS,rfl,hx,hy⟩:=h
 have CQ:=lS
 obtain⟨p,c,r,d,rfl,_,_⟩:=lS
 refine af (C:=aW Tryz.prog w _) (args:=[_]) Tryz.func90 rfl Tryz.ntmps90 (bP rfl) ?_
 refine ae ?_
 refine VO.call rfl rfl (fk Tryz.func36) (λbo cj bD=>(Ao s t xs ys _ bo (CQ.kp cj) aa aa).mono ?_)
 rintro e w1 ⟨rfl,aL⟩
 cases hq:Am s xs t ys
 ·refine bA aL ?_
  intro dh _ bb1
  refine VO.cI rfl rfl (fk Tryz.func87) (λcA dG cV=>qb cA) (λcA dG cV w2 s2 p2 n2 c2 h2 aY eU _ bb2=>wV rfl ?_)
  refine ae ?_
  refine aX ?_;intro wz kz bz
  exact⟨_,rfl,by rw[CO hq];exact dB.zero (h2.kp kz).rd,bz⟩
 ·refine bA aL ?_
  intro dh _ bb1
  refine aX ?_;intro wz kz bz
  exact⟨_,rfl,(CP CQ hq).kp (dh.aw kz),bz⟩
theorem Ap {X Y:Int} {k:Nat} (hY:Sz Y k) (h:Y≠0):Sz (Int.gcd X Y:Int) k:=by
 refine Sz.le (Y:=Y) hY ?_
 rw[Int.natAbs_natCast,<-Int.natAbs_natCast (Int.gcd X Y)]
 exact Nat.le_of_dvd aa (Int.natAbs_dvd_natAbs.2 (Int.gcd_dvd_right X Y))
theorem eF {w w':World} {X Y:Int} {e:Ending} (h:wv w w' X Y e) (hY:Y≠0):∃ v u,e=.returned (.tuple #[v,u,.int .i64 0])/\au w' w.heap.size v (X.fdiv Y)/\au w' w.heap.size u (X.fmod Y):=by
 rcases h with ⟨h0,_⟩|⟨_,h⟩
 ·exact absurd h0 hY
 ·exact h
theorem tP (v u:Value) (X Y:Int) (j k:Nat) (w:World) (hv:bH w v X j) (hu:bH w u Y k) (hj:j<=268435456) (hk:k<=268435456) (hY:Y≠0):
  Calls Tryz.prog 149 #[v,u] w λe w'=>∃ r,e=.returned r/\bh w' w.heap.size r (Rat.divInt X Y)/\ak w w':=by
 obtain⟨s,p,n,c,rfl⟩:=hv.form
 obtain⟨t,r,m,d,rfl⟩:=hu.form
 refine af (C:=aW Tryz.prog w _) (args:=[_,_]) Tryz.func149 rfl Tryz.ntmps149 (bP rfl) ?_
 refine ae ?_
 refine VO.cI rfl rfl (fk Tryz.func86) (λbo cj bD=>Cw _ _ X Y j k bo (hv.kp cj) (hu.kp cj) aa aa) (λbo cj bD w1 s1 p1 n1 c1 h1 aL dh _ bb1=>wV rfl ?_)
 refine ae ?_
 refine VO.call rfl rfl (fk Tryz.func84) (λcA dG cV=>(od _ Y k cA (hu.aB cV)).mono ?_)
 rintro e w2 ⟨rfl,aY⟩
 have LH:Sz (Int.gcd X Y:Int) k:=Ap hu.len hY
 have Lf:(Int.gcd X Y:Int)≠0:=by
  intro e
  have:=(Int.gcd_eq_zero_iff.1 (show Int.gcd X Y=0 by omega)).2
  exact hY this
 rcases Int.lt_or_lt_of_ne hY with q|q
 ·rw[sign_neg q]
  obtain⟨l1,l2⟩:=low_neg (X:=X) q
  refine bA aY ?_
  intro eU _ bb2
  refine VO.cI rfl rfl (fk Tryz.func165) (λeD eW fN=>Lc _ (Int.gcd X Y:Int) k eD ((h1.kp (eU.aw eW)).in LH) aa) (λeD eW fN w3 s3 p3 n3 c3 h3 cK iM _ bb3=>wV rfl ?_)
  refine ae ?_
  refine VO.call rfl rfl (fk Tryz.func208) (λiP jA jX=>(jV _ _ X (-(Int.gcd X Y:Int)) j k iP (hv.aB jX) ((h3.kp jA).in LH.neg) aa aa).mono ?_)
  rintro e w4 ⟨hd4,gj⟩
  obtain⟨v4,u4,rfl,h4,h4'⟩:=eF hd4 aa
  obtain⟨s4,p4,n4,c4,rfl⟩:=h4.form
  obtain⟨t4,r4,m4,d4,rfl⟩:=h4'.form
  refine bA gj ?_
  intro nD _ Ah
  refine VO.call rfl rfl (fk Tryz.func208) (λjj jk kD=>(jV _ _ Y (-(Int.gcd X Y:Int)) k k jj (hu.aB kD) ((h3.kp (nD.aw jk)).in LH.neg) aa aa).mono ?_)
  rintro e w5 ⟨hd5,iR⟩
  obtain⟨v5,u5,rfl,h5,h5'⟩:=eF hd5 aa
  obtain⟨s5,p5,n5,c5,rfl⟩:=h5.form
  obtain⟨t5,r5,m5,d5,rfl⟩:=h5'.form
  refine bA iR ?_
  intro mE _ xT
  refine aX ?_;intro wz kz bz
  exact⟨_,rfl,⟨_,_,_,_,_,_,_,_,rfl,au.cast ((h4.kp (mE.aw kz)).mono jX.size) l1,au.cast ((h5.kp kz).mono kD.size) l2⟩,bz⟩
 ·rw[dN q]
  obtain⟨l1,l2⟩:=uT (X:=X) q
  refine bA aY ?_
  intro eU _ bb2
  refine VO.call rfl rfl (fk Tryz.func208) (λiP jA jX=>(jV _ _ X (Int.gcd X Y:Int) j k iP (hv.aB jX) ((h1.kp (eU.aw jA)).in LH) aa aa).mono ?_)
  rintro e w4 ⟨hd4,gj⟩
  obtain⟨v4,u4,rfl,h4,h4'⟩:=eF hd4 aa
  obtain⟨s4,p4,n4,c4,rfl⟩:=h4.form
  obtain⟨t4,r4,m4,d4,rfl⟩:=h4'.form
  refine bA gj ?_
  intro nD _ Ah
  refine VO.call rfl rfl (fk Tryz.func208) (λjj jk kD=>(jV _ _ Y (Int.gcd X Y:Int) k k jj (hu.aB kD) ((h1.kp (eU.aw (nD.aw jk))).in LH) aa aa).mono ?_)
  rintro e w5 ⟨hd5,iR⟩
  obtain⟨v5,u5,rfl,h5,h5'⟩:=eF hd5 aa
  obtain⟨s5,p5,n5,c5,rfl⟩:=h5.form
  obtain⟨t5,r5,m5,d5,rfl⟩:=h5'.form
  refine bA iR ?_
  intro mE _ xT
  refine aX ?_;intro wz kz bz
  exact⟨_,rfl,⟨_,_,_,_,_,_,_,_,rfl,au.cast ((h4.kp (mE.aw kz)).mono jX.size) l1,au.cast ((h5.kp kz).mono kD.size) l2⟩,bz⟩
end
section
open Go.RowKit
attribute [local irreducible] ar VS
theorem uX (q r:Rat):q+r=Rat.divInt (q.num*r.den+r.num*q.den) ((q.den:Int)*r.den):=by
 rw[Rat.add_def',<-Rat.divInt_ofNat];simp
theorem add_same {q r:Rat} (h:(q.den:Int)=r.den):q+r=Rat.divInt (q.num+r.num) q.den:=by
 rw[uX,<-h]
 have hd:(q.den:Int)≠0:=by have:=q.den_nz;omega
 rw[<-Int.add_mul,Rat.divInt_mul_right hd]
theorem sQ {X Y:Int} {k l:Nat} (hX:Sz X k) (hY:Sz Y l) (h:Y≠0):Sz (Rat.divInt X Y).num k/\Sz ((Rat.divInt X Y).den:Int) l:=by
 constructor
 ·refine Sz.le hX ?_
  rw[Rat.num_divInt]
  have h1:(Y.sign*X/(Y.gcd X:Int)).natAbs<=(Y.sign*X).natAbs:=Int.natAbs_ediv_le_natAbs _ _
  rw[Int.natAbs_mul] at h1
  have h2:Y.sign.natAbs=1:=by
   rcases Int.lt_or_lt_of_ne h with e|e
   ·rw[sign_neg e];rfl
   ·rw[dN e];rfl
  rw[h2,Nat.one_mul] at h1
  exact h1
 ·refine Sz.le hY ?_
  rw[Rat.den_divInt,if_neg h,Int.natAbs_natCast]
  exact Nat.div_le_self _ _
theorem gn.add {q r:Rat} {k l:Nat} (hq:gn q k) (hr:gn r l):gn (q+r) (k+l+1):=by
 rw[uX]
 have hd:(q.den:Int)*r.den≠0:=Int.mul_ne_zero (by have:=q.den_nz;omega) (by have:=r.den_nz;omega)
 obtain⟨h1,h2⟩:=sQ (Sz.add (hq.1.mul hr.2) (hr.1.mul hq.2) (m:=k+l) aa aa) (hq.2.mul hr.2) hd
 exact⟨h1,h2.mono aa⟩
theorem gn.neg {q:Rat} {k:Nat} (hq:gn q k):gn (-q) k:=⟨by rw[Rat.neg_num];exact hq.1.neg,by rw[Rat.neg_den];exact hq.2⟩
theorem gn.sub {q r:Rat} {k l:Nat} (hq:gn q k) (hr:gn r l):gn (q-r) (k+l+1):=by rw[Rat.sub_eq_add_neg];exact hq.add hr.neg
def rf (q r:Rat):Int:=if q<r then-1 else if q=r then 0 else 1
theorem CR (q r:Rat):(q.num*r.den-r.num*q.den).sign=rf q r:=by
 unfold rf
 by_cases h1:q<r
 ·rw[if_pos h1];exact sign_neg (by have:=(Rat.lt_iff q r).1 h1;omega)
 ·rw[if_neg h1]
  by_cases h2:q=r
  ·subst h2;rw[if_pos rfl,Int.sub_self];rfl
  ·rw[if_neg h2]
   refine dN ?_
   have a:=mt (Rat.lt_iff q r).2 h1
   have b:=mt Rat.eq_iff_mul_eq_mul.2 h2
   omega
theorem ze (q:Rat):q.num.sign=rf q 0:=by
 have:=CR q 0
 simpa using this
theorem LI (q r:Rat):rf (q-r) 0=rf q r:=by
 unfold rf
 have h1:q-r<0↔q<r:=by grind
 have h2:q-r=0↔q=r:=by grind
 simp only[h1,h2]
def CS (Y:Int):Int:=if Y=0 then 20 else 0
theorem me (n:Int) (w:World) (h0: -9223372036854775808<=n) (h1:n<=9223372036854775807):
  Calls Tryz.prog 37 #[.int .i64 n] w λe w'=>∃ r,e=.returned r/\bh w' w.heap.size r (n:Rat)/\ak w w':=by
 refine af (C:=aW Tryz.prog w _) (args:=[_]) Tryz.func37 rfl Tryz.ntmps37 (bP rfl) ?_
 refine ae ?_
 refine VO.cI rfl rfl (fk Tryz.func88) (λbo cj bD=>Gm n bo h0 h1) (λbo cj bD w1 s1 p1 n1 c1 q1 aL dh _ bb1=>wV rfl ?_)
 refine ae ?_
 refine VO.cI rfl rfl (fk Tryz.func87) (λcA dG cV=>qb cA) (λcA dG cV w2 s2 p2 n2 c2 q2 aY eU _ bb2=>wV rfl ?_)
 refine ae ?_
 refine aX ?_;intro wz kz bz
 exact⟨_,rfl,⟨_,_,_,_,_,_,_,_,rfl,(q1.kp (eU.aw kz)).mono bD.size,(q2.kp kz).mono cV.size⟩,bz⟩
theorem zf (v u:Value) (q r:Rat) (k l:Nat) (w:World) (hv:dB w v q) (hu:dB w u r) (hq:gn q k) (hr:gn r l) (hk:k<=67108864) (hl:l<=67108864):
  Calls Tryz.prog 89 #[v,u] w λe w'=>∃ x,e=.returned x/\bh w' w.heap.size x (q+r)/\ak w w':=by
 obtain⟨s,p,n,c,t,y,m,d,rfl⟩:=hv.form
 obtain⟨s',p',n',c',t',y',m',d',rfl⟩:=hu.form
 obtain⟨v1,v2⟩:=hv.parts
 obtain⟨u1,u2⟩:=hu.parts
 have dq:(q.den:Int)≠0:=by have:=q.den_nz;omega
 have dr:(r.den:Int)≠0:=by have:=r.den_nz;omega
 refine af (C:=aW Tryz.prog w _) (args:=[_,_]) Tryz.func89 rfl Tryz.ntmps89 (bP rfl) ?_
 refine ae ?_
 refine VO.call rfl rfl (fk Tryz.func85) (λbo cj bD=>(ny _ _ (q.den:Int) r.den k l bo ((v2.aB bD).to hq.2) ((u2.aB bD).to hr.2) aa aa).mono ?_)
 rintro e w1 ⟨rfl,aL⟩
 by_cases hd:(q.den:Int)=r.den
 ·rw[show ((q.den:Int)-r.den).sign=0 by rw[hd,Int.sub_self];rfl]
  refine bA aL ?_
  intro dh _ bb1
  refine VO.cI rfl rfl (fk Tryz.func150) (λcA dG cV=>Cq _ _ q.num r.num k l cA ((v1.aB cV).to hq.1) ((u1.aB cV).to hr.1) aa aa) (λcA dG cV w2 s2 p2 n2 c2 q2 aY eU _ bb2=>wV rfl ?_)
  refine ae ?_
  refine VO.cR rfl rfl (fk Tryz.func149) (λeD eW fN=>tP _ _ (q.num+r.num) q.den (k+l+1) k eD ((q2.kp eW).in (Sz.add hq.1 hr.1 aa aa)) ((v2.aB fN).to hq.2) aa aa dq) (λeD eW fN w3 s3 p3 n3 c3 t3 y3 m3 d3 q3 cK iM _ bb3=>wV rfl ?_)
  refine ae ?_
  refine aX ?_;intro wz kz bz
  exact⟨_,rfl,bh.cast ((q3.kp kz).mono fN.size) (add_same hd).symm,bz⟩
 ·have hs:((((q.den:Int)-r.den).sign == 0))=false:=by
   rw[beq_eq_false_iff_ne]
   intro e
   have:=Int.sign_eq_zero_iff_zero.1 e
   omega
  rcases Int.lt_or_lt_of_ne (show (q.den:Int)-r.den≠0 by omega) with e|e
  all_goals
   first|rw[sign_neg e]|rw[dN e]
   refine bA aL ?_
   intro dh _ bb1
   refine VO.cI rfl rfl (fk Tryz.func100) (λcA dG cV=>nx _ _ q.num r.den k l cA ((v1.aB cV).to hq.1) ((u2.aB cV).to hr.2) aa aa) (λcA dG cV w2 s2 p2 n2 c2 q2 aY eU _ bb2=>wV rfl ?_)
   refine ae ?_
   refine VO.cI rfl rfl (fk Tryz.func100) (λeD eW fN=>nx _ _ r.num q.den l k eD ((u1.aB fN).to hr.1) ((v2.aB fN).to hq.2) aa aa) (λeD eW fN w3 s3 p3 n3 c3 q3 cK iM _ bb3=>wV rfl ?_)
   refine ae ?_
   refine VO.cI rfl rfl (fk Tryz.func150) (λiP jA jX=>Cq _ _ (q.num*r.den) (r.num*q.den) (k+l) (l+k) iP ((q2.kp (iM.aw jA)).in (hq.1.mul hr.2)) ((q3.kp jA).in (hr.1.mul hq.2)) aa aa) (λiP jA jX w4 s4 p4 n4 c4 q4 gj nD _ Ah=>wV rfl ?_)
   refine ae ?_
   refine VO.cI rfl rfl (fk Tryz.func100) (λjj jk kD=>nx _ _ q.den r.den k l jj ((v2.aB kD).to hq.2) ((u2.aB kD).to hr.2) aa aa) (λjj jk kD w5 s5 p5 n5 c5 q5 iR mE _ xT=>wV rfl ?_)
   refine ae ?_
   refine VO.cR rfl rfl (fk Tryz.func149) (λpZ oZ zd=>tP _ _ (q.num*r.den+r.num*q.den) ((q.den:Int)*r.den) (k+l+1) (k+l) pZ ((q4.kp (mE.aw oZ)).in (Sz.add (hq.1.mul hr.2) (hr.1.mul hq.2) aa aa)) ((q5.kp oZ).in (hq.2.mul hr.2)) aa aa (Int.mul_ne_zero dq dr)) (λpZ oZ zd w6 s6 p6 n6 c6 t6 y6 m6 d6 q6 og uy _ Gw=>wV rfl ?_)
   refine ae ?_
   refine aX ?_;intro wz kz bz
   exact⟨_,rfl,bh.cast ((q6.kp kz).mono zd.size) (uX q r).symm,bz⟩
end
section
open Go.RowKit
attribute [local irreducible] ar VS
def jm (k:Nat):Nat:=max k 1
theorem bE.DM {w:World} {v:Value} {q:Rat} {k:Nat} (h:bE w v q k):gn q (jm k):=by
 obtain⟨s,xs,t,ys,h1,h2,h3,h4⟩:=h
 exact bE.sz (k:=jm k) ⟨s,xs,t,ys,h1,h2,by unfold jm;omega,by unfold jm;omega⟩ (by unfold jm;omega)
theorem EY (v u:Value) (q r:Rat) (k l:Nat) (w:World) (hv:bE w v q k) (hu:bE w u r l) (hk:k<=67108864) (hl:l<=67108864):
  Calls Tryz.prog 38 #[v,u] w λe w'=>∃ x,e=.returned x/\bh w' w.heap.size x (q+r)/\ak w w':=by
 obtain⟨s,p,n,c,t,y,m,d,rfl⟩:=hv.form
 obtain⟨s',p',n',c',t',y',m',d',rfl⟩:=hu.form
 refine af (C:=aW Tryz.prog w _) (args:=[_,_]) Tryz.func38 rfl Tryz.ntmps38 (bP rfl) ?_
 refine ae ?_
 refine VO.cR rfl rfl (fk Tryz.func90) (λbo cj bD=>dS _ q k bo (hv.kp cj) aa) (λbo cj bD w1 s1 p1 n1 c1 t1 y1 m1 d1 q1 aL dh _ bb1=>wV rfl ?_)
 refine ae ?_
 refine VO.cR rfl rfl (fk Tryz.func90) (λcA dG cV=>dS _ r l cA (hu.kp (dh.aw dG)) aa) (λcA dG cV w2 s2 p2 n2 c2 t2 y2 m2 d2 q2 aY eU _ bb2=>wV rfl ?_)
 refine ae ?_
 refine VO.cR rfl rfl (fk Tryz.func89) (λeD eW fN=>zf _ _ q r _ _ eD (q1.kp (eU.aw eW)) (q2.kp eW) hv.DM hu.DM (by unfold jm;omega) (by unfold jm;omega)) (λeD eW fN w3 s3 p3 n3 c3 t3 y3 m3 d3 q3 cK iM _ bb3=>wV rfl ?_)
 refine ae ?_
 refine aX ?_;intro wz kz bz
 exact⟨_,rfl,(q3.kp kz).mono fN.size,bz⟩
theorem CT (v:Value) (q:Rat) (k:Nat) (w:World) (hv:bE w v q k) (hk:k<=536870912):
  Calls Tryz.prog 57 #[v] w λe w'=>e=.returned (.int .i64 (rf q 0))/\ak w w':=by
 obtain⟨s,p,n,c,t,y,m,d,rfl⟩:=hv.form
 refine af (C:=aW Tryz.prog w _) (args:=[_]) Tryz.func57 rfl Tryz.ntmps57 (bP rfl) ?_
 refine ae ?_
 refine VO.cR rfl rfl (fk Tryz.func90) (λbo cj bD=>dS _ q k bo (hv.kp cj) hk) (λbo cj bD w1 s1 p1 n1 c1 t1 y1 m1 d1 q1 aL dh _ bb1=>wV rfl ?_)
 refine ae ?_
 refine VO.call rfl rfl (fk Tryz.func84) (λcA dG cV=>(od _ q.num _ cA ((q1.parts.1.kp dG).to hv.DM.1)).mono ?_)
 rintro e w2 ⟨rfl,aY⟩
 rw[ze]
 refine bA aY ?_
 intro eU _ bb2
 refine aX ?_;intro wz kz bz
 exact⟨rfl,bz⟩
theorem EZ (v u:Value) (q r:Rat) (k l:Nat) (w:World) (hv:bE w v q k) (hu:bE w u r l) (hk:k<=67108864) (hl:l<=67108864):
  Calls Tryz.prog 43 #[v,u] w λe w'=>e=.returned (.int .i64 (rf q r))/\ak w w':=by
 obtain⟨s,p,n,c,t,y,m,d,rfl⟩:=hv.form
 obtain⟨s',p',n',c',t',y',m',d',rfl⟩:=hu.form
 have zq:=hv.DM
 have zr:=hu.DM
 have uk:jm k<=67108864:=by unfold jm;omega
 have ul:jm l<=67108864:=by unfold jm;omega
 refine af (C:=aW Tryz.prog w _) (args:=[_,_]) Tryz.func43 rfl Tryz.ntmps43 (bP rfl) ?_
 refine ae ?_
 refine VO.cR rfl rfl (fk Tryz.func90) (λbo cj bD=>dS _ q k bo (hv.kp cj) aa) (λbo cj bD w1 s1 p1 n1 c1 t1 y1 m1 d1 q1 aL dh _ bb1=>wV rfl ?_)
 refine ae ?_
 refine VO.cR rfl rfl (fk Tryz.func90) (λcA dG cV=>dS _ r l cA (hu.kp (dh.aw dG)) aa) (λcA dG cV w2 s2 p2 n2 c2 t2 y2 m2 d2 q2 aY eU _ bb2=>wV rfl ?_)
 refine ae ?_
 obtain⟨a1,a2⟩:=q1.parts
 obtain⟨b1,b2⟩:=q2.parts
 refine VO.cI rfl rfl (fk Tryz.func100) (λeD eW fN=>nx _ _ q.num r.den _ _ eD ((a1.kp (eU.aw eW)).to zq.1) ((b2.kp eW).to zr.2) aa aa) (λeD eW fN w3 s3 p3 n3 c3 q3 cK iM _ bb3=>wV rfl ?_)
 refine ae ?_
 refine VO.cI rfl rfl (fk Tryz.func100) (λiP jA jX=>nx _ _ r.num q.den _ _ iP ((b1.kp (iM.aw jA)).to zr.1) ((a2.kp (eU.aw (iM.aw jA))).to zq.2) aa aa) (λiP jA jX w4 s4 p4 n4 c4 q4 gj nD _ Ah=>wV rfl ?_)
 refine ae ?_
 refine VO.call rfl rfl (fk Tryz.func85) (λjj jk kD=>(ny _ _ (q.num*r.den) (r.num*q.den) _ _ jj ((q3.kp (nD.aw jk)).in (zq.1.mul zr.2)) ((q4.kp jk).in (zr.1.mul zq.2)) aa aa).mono ?_)
 rintro e w5 ⟨rfl,iR⟩
 rw[CR]
 refine bA iR ?_
 intro mE _ xT
 refine aX ?_;intro wz kz bz
 exact⟨rfl,bz⟩
theorem nH (a b:Int):(a=b/\(a-b).sign=0)\/(a≠b/\((a-b).sign=1\/(a-b).sign= -1)):=by
 rcases Int.lt_trichotomy a b with e|e|e
 ·exact .inr ⟨by omega,.inr (sign_neg aa)⟩
 ·exact .inl ⟨e,by rw[e,Int.sub_self];rfl⟩
 ·exact .inr ⟨by omega,.inl (dN aa)⟩
theorem CU (v u:Value) (q r:Rat) (k l:Nat) (w:World) (hv:bE w v q k) (hu:bE w u r l) (hk:k<=67108864) (hl:l<=67108864):
  Calls Tryz.prog 81 #[v,u] w λe w'=>e=.returned (.bool (decide (q=r)))/\ak w w':=by
 obtain⟨s,p,n,c,t,y,m,d,rfl⟩:=hv.form
 obtain⟨s',p',n',c',t',y',m',d',rfl⟩:=hu.form
 have zq:=hv.DM
 have zr:=hu.DM
 have uk:jm k<=67108864:=by unfold jm;omega
 have ul:jm l<=67108864:=by unfold jm;omega
 refine af (C:=aW Tryz.prog w _) (args:=[_,_]) Tryz.func81 rfl Tryz.ntmps81 (bP rfl) ?_
 refine ae ?_
 refine VO.cR rfl rfl (fk Tryz.func90) (λbo cj bD=>dS _ q k bo (hv.kp cj) aa) (λbo cj bD w1 s1 p1 n1 c1 t1 y1 m1 d1 q1 aL dh _ bb1=>wV rfl ?_)
 refine ae ?_
 refine VO.cR rfl rfl (fk Tryz.func90) (λcA dG cV=>dS _ r l cA (hu.kp (dh.aw dG)) aa) (λcA dG cV w2 s2 p2 n2 c2 t2 y2 m2 d2 q2 aY eU _ bb2=>wV rfl ?_)
 refine ae ?_
 obtain⟨a1,a2⟩:=q1.parts
 obtain⟨b1,b2⟩:=q2.parts
 refine VO.call rfl rfl (fk Tryz.func85) (λeD eW fN=>(ny _ _ q.num r.num _ _ eD ((a1.kp (eU.aw eW)).to zq.1) ((b1.kp eW).to zr.1) aa aa).mono ?_)
 rintro e w3 ⟨rfl,cK⟩
 rcases nH q.num r.num with ⟨hn,e⟩|⟨hn,e|e⟩
 ·rw[e]
  refine bA cK ?_
  intro iM _ bb3
  refine VO.call rfl rfl (fk Tryz.func85) (λiP jA jX=>(ny _ _ (q.den:Int) r.den _ _ iP ((a2.kp (eU.aw (iM.aw jA))).to zq.2) ((b2.kp (iM.aw jA)).to zr.2) aa aa).mono ?_)
  rintro e w4 ⟨rfl,gj⟩
  rcases nH (q.den:Int) r.den with ⟨hd,e⟩|⟨hd,e|e⟩
  all_goals
   rw[e]
   refine bA gj ?_
   intro nD _ Ah
   refine aX ?_;intro wz kz bz
  ·exact⟨by rw[decide_eq_true (Rat.ext hn aa)];rfl,bz⟩
  ·exact⟨by rw[decide_eq_false (λe=>hd (by rw[e]))];rfl,bz⟩
  ·exact⟨by rw[decide_eq_false (λe=>hd (by rw[e]))];rfl,bz⟩
 ·rw[e]
  refine bA cK ?_
  intro iM _ bb3
  refine aX ?_;intro wz kz bz
  exact⟨by rw[decide_eq_false (λe=>hn (by rw[e]))];rfl,bz⟩
 ·rw[e]
  refine bA cK ?_
  intro iM _ bb3
  refine aX ?_;intro wz kz bz
  exact⟨by rw[decide_eq_false (λe=>hn (by rw[e]))];rfl,bz⟩
end
section
open Go.RowKit
attribute [local irreducible] ar VS
def sR (w:World) (v:Value) (qs:List Rat) (k:Nat):Prop:=
 ∃ p c,v=.slice p qs.length c/\qs.length<=c/\c<=maxLen/\∀ i q,qs[i]? =some q->∃ b off s p' n c' t r m d,p=some ⟨b,off,none⟩/\
   (∀ j u,[Value.bool s,.slice p' n c',.bool t,.slice r m d][j]? =some u->w.cell? ⟨b,off+i*4+j,none⟩=some u)/\bE w (.agg #[.bool s,.slice p' n c',.bool t,.slice r m d]) q k
theorem sR.form {w:World} {v:Value} {qs:List Rat} {k:Nat} (h:sR w v qs k):∃ p c,v=.slice p qs.length c/\qs.length<=c/\c<=maxLen:=by
 obtain⟨p,c,hv,h1,h2,_⟩:=h
 exact⟨p,c,hv,h1,h2⟩
theorem sR.at {w:World} {p:Option Addr} {n c:Nat} {qs:List Rat} {k i:Nat} {q:Rat} (h:sR w (.slice p n c) qs k) (hq:qs[i]? =some q):∃ b off s p' n' c' t r m d,p=some ⟨b,off,none⟩/\
  (∀ j u,[Value.bool s,.slice p' n' c',.bool t,.slice r m d][j]? =some u->w.cell? ⟨b,off+i*4+j,none⟩=some u)/\bE w (.agg #[.bool s,.slice p' n' c',.bool t,.slice r m d]) q k:=by
 obtain⟨p',c',hv,h1,h2,h3⟩:=h
 cases hv
 exact h3 i q hq
theorem aD {i:Nat} (h:i<9223372036854775807):IntKind.i64.wrap ((i:Int)+1)=((i+1:Nat):Int):=by
 rw[IntWalk.i64_in _ aa];omega
def wQ (qs:List Rat):Rat:=qs.foldl (·+ ·) 0
theorem bJ {α:Type} {l:List α} {i:Nat} {x:α} (h:l[i]? =some x):l.take (i+1)=l.take i++[x]:=by
 obtain⟨hi,rfl⟩:=List.getElem?_eq_some_iff.1 h
 exact List.take_succ_eq_append_getElem hi
theorem zg {qs:List Rat} {i:Nat} {q:Rat} (h:qs[i]? =some q):wQ (qs.take (i+1))=wQ (qs.take i)+q:=by
 rw[bJ h];simp[wQ,List.foldl_append]
def fS (k i:Nat):Nat:=1+i*(jm k+1)
theorem CV (k i:Nat):fS k (i+1)=fS k i+jm k+1:=by unfold fS;rw[Nat.add_mul,Nat.one_mul];omega
theorem II {k i n:Nat} (h:i<=n):fS k i<=fS k n:=by unfold fS;have:=Nat.mul_le_mul_right (jm k+1) h;omega
theorem wR (v:Value) (qs:List Rat) (k:Nat) (w:World) (hv:sR w v qs k) (hk:fS k qs.length<=67108864):
  Calls Tryz.prog 39 #[v] w λe w'=>∃ x,e=.returned x/\bh w' w.heap.size x (wQ qs)/\gn (wQ qs) (fS k qs.length)/\ak w w':=by
 obtain⟨p,c,rfl,eV,fm⟩:=hv.form
 obtain⟨N,hN⟩:∃ N,N=qs.length:=⟨_,rfl⟩
 rw[<-hN] at hv hk eV ⊢
 have hNm:N<9223372036854775807:=by unfold fS at hk;have:=Nat.le_mul_of_pos_right N (show 0<jm k+1 by omega);omega
 have huk:jm k<=67108864\/N=0:=by
  rcases Nat.eq_zero_or_pos N with e|e
  ·exact .inr e
  ·left;unfold fS at hk;have:=Nat.le_mul_of_pos_left (jm k+1) e;omega
 refine af (C:=aW Tryz.prog w _) (args:=[_]) Tryz.func39 rfl Tryz.ntmps39 (bP rfl) ?_
 refine ae ?_
 refine VO.cR rfl rfl (fk Tryz.func37) (λbo cj bD=>me 0 bo aa aa) (λbo cj bD w1 s1 p1 n1 c1 t1 y1 m1 d1 q1 aL dh _ bb1=>wV rfl ?_)
 refine ae ?_
 refine VS.loop (J:=λn L M w'=>∃ i s p' n' c' t r m d,i<=N/\n=N-i/\L=[(7,.val (.slice p N c)),(8,.val (.int .i64 (N:Int))),(9,.val (.int .i64 (i:Int))),(3,.box 3 0),(2,.box 2 0)]/\
  M=[(2,(27,([.bool false,.slice none 0 0,.bool false,.slice none 0 0]:List Value).map .val)),(3,(27,([.bool s,.slice p' n' c',.bool t,.slice r m d]:List Value).map .val))]/\bh w' w.heap.size (.agg #[.bool s,.slice p' n' c',.bool t,.slice r m d]) (wQ (qs.take i))/\gn (wQ (qs.take i)) (fS k i)) N ⟨_,_,?_,?_,?_,?_,⟨0,s1,p1,n1,c1,t1,y1,m1,d1,by omega,by omega,rfl,rfl,(q1.mono bD.size).cast (by simp[wQ]),by simp only[List.take_zero,wQ,List.foldl_nil,fS,Nat.zero_mul,Nat.add_zero];exact gn.zero⟩⟩ ?_
 ·exact ew
 ·exact ew
 ·rfl
 ·exact kH
 rintro n L M w' ⟨i,s,p',n',c',t,r,m,d,hi,rfl,rfl,rfl,ho,hz⟩
 refine ae ?_
 by_cases hlt:i<N
 ·obtain⟨q,hq⟩:∃ q,qs[i]? =some q:=⟨_,List.getElem?_eq_getElem aa⟩
  obtain⟨b,off,s2,p2,n2,c2,t2,r2,m2,d2,rfl,hc,tp⟩:=hv.at hq
  refine VS.aR rfl (decide_eq_true (Int.ofNat_lt.2 hlt)) ?_
  refine ae ?_
  refine VO.cond rfl dc (wV rfl ?_)
  refine VO.read rfl [.bool s2,.slice p2 n2 c2,.bool t2,.slice r2 m2 d2] rfl (λj u hj=>by rw[Addr.add_mid,Int.toNat_natCast];exact hc j u hj) (wV rfl ?_)
  refine ae ?_
  refine VO.call rfl rfl (fk Tryz.func90) (λcA dG cV=>(dS _ q k cA ((tp.kp (Kp.of (U:=UU) cV))) (by have:=hk;unfold jm at*;omega)).mono ?_)
  rintro e w2 ⟨r2',rfl,q2,aY⟩
  obtain⟨s3,p3,n3,c3,t3,y3,m3,d3,rfl⟩:=q2.form
  refine bA aY ?_
  intro eU _ bb2
  refine VO.call rfl rfl (fk Tryz.func89) (λeD eW fN=>(zf _ _ (wQ (qs.take i)) q (fS k i) (jm k) eD ((ho.kp (eU.aw eW)).rd) (q2.kp eW) hz tp.DM (by have:=II (k:=k) hi;omega) aa).mono ?_)
  rintro e w3 ⟨r3',rfl,q3,cK⟩
  obtain⟨s4,p4,n4,c4,t4,y4,m4,d4,rfl⟩:=q3.form
  refine bA cK ?_
  intro iM _ bb3
  refine VS.back (N-(i+1)) aa ⟨_,_,?_,?_,?_,?_,⟨i+1,s4,p4,n4,c4,t4,y4,m4,d4,by omega,rfl,rfl,rfl,(q3.mono fN.size).cast (zg hq).symm,by rw[zg hq,CV];exact hz.add tp.DM⟩⟩
  ·refine⟨rfl,rfl,?_,rfl,rfl,trivial⟩
   rw[<-aD aa];rfl
  ·exact ew
  ·rfl
  ·exact kH
 ·refine VS.aP rfl (decide_eq_false (λe=>hlt (Int.ofNat_lt.1 e))) ?_
  refine ae ?_
  refine aX ?_;intro wz kz bz
  obtain rfl:i=N:=by omega
  rw[List.take_of_length_le aa] at ho hz
  exact⟨_,rfl,ho.kp kz,hz,bz⟩
end
set_option maxRecDepth 4000
section
open Go.RowKit
attribute [local irreducible] ar VS
theorem CW (v u:Value) (X Y:Int) (j k:Nat) (w:World) (hv:bH w v X j) (hu:bH w u Y k) (hj:j<=1073741824) (hk:k<=1073741824):
  Calls Tryz.prog 192 #[v,u] w λe w'=>e=.returned (.bool (decide (X=Y)))/\ak w w':=by
 obtain⟨s,p,n,c,rfl⟩:=hv.form
 obtain⟨t,q,m,d,rfl⟩:=hu.form
 refine af (C:=aW Tryz.prog w _) (args:=[_,_]) Tryz.func192 rfl Tryz.ntmps192 (bP rfl) ?_
 refine ae ?_
 refine VO.cB rfl rfl (fk Tryz.func259) (λbo cj bD=>CD _ _ X Y j k bo (hv.kp cj) (hu.kp cj) hj hk) (λbo cj bD w1 aL dh _ bb1=>wV rfl ?_)
 refine ae ?_
 refine aX ?_;intro wz kz bz
 refine⟨?_,bz⟩
 show Ending.returned (.bool (wB X Y == 0))=_
 unfold wB
 by_cases h:X=Y
 ·rw[h,decide_eq_true rfl,Int.sub_self];rfl
 ·rw[decide_eq_false h]
  have:((X-Y).sign == 0)=false:=by
   rw[beq_eq_false_iff_ne]
   intro e
   have:=Int.sign_eq_zero_iff_zero.1 e
   omega
  rw[this]
theorem Aq (s t:Bool) (xs ys:List Nat) (v:Value) (w:World) (h:dJ w v s xs t ys) (hx:xs.length<=134217728) (hy:ys.length<=134217728):
  Calls Tryz.prog 133 #[v] w λe w'=>e=.returned (.bool (Am s xs t ys))/\ak w w':=by
 obtain⟨p,c,r,d,rfl,h1,h2⟩:=h
 refine af (C:=aW Tryz.prog w _) (args:=[_]) Tryz.func133 rfl Tryz.ntmps133 (bP rfl) ?_
 refine ae ?_
 refine VO.call rfl rfl (fk Tryz.func190) (λbo cj bD=>(pV s xs _ bo (h1.aB bD)).mono ?_)
 rintro e w1 ⟨rfl,aL⟩
 cases q1:cL s xs
 ·refine bA aL ?_
  intro dh _ bb1
  refine aX ?_;intro wz kz bz
  exact⟨by simp[Am,q1,ir],bz⟩
 refine bA aL ?_
 intro dh _ bb1
 refine VO.call rfl rfl (fk Tryz.func190) (λcA dG cV=>(pV t ys _ cA (h2.aB cV)).mono ?_)
 rintro e w2 ⟨rfl,aY⟩
 cases q2:cL t ys
 ·refine bA aY ?_
  intro eU _ bb2
  refine aX ?_;intro wz kz bz
  exact⟨by simp[Am,q1,q2,ir],bz⟩
 refine bA aY ?_
 intro eU _ bb2
 refine VO.call rfl rfl (fk Tryz.func191) (λeD eW fN=>(bW _ (numOf t ys) _ eD ((h2.in (Nat.le_refl _)).aB fN) aa).mono ?_)
 rintro e w3 ⟨rfl,cK⟩
 by_cases q3:0<numOf t ys
 ·rw[dN q3]
  refine bA cK ?_
  intro iM _ bb3
  refine VO.cI rfl rfl (fk Tryz.func193) (λiP jA jX=>wL _ _ (numOf s xs) (numOf t ys) _ _ iP ((h1.in (Nat.le_refl _)).aB jX) ((h2.in (Nat.le_refl _)).aB jX) aa aa) (λiP jA jX w4 s4 p4 n4 c4 h4 gj nD _ Ah=>wV rfl ?_)
  refine ae ?_
  refine VO.cI rfl rfl (fk Tryz.func142) (λjj jk kD=>lX 1 jj aa aa) (λjj jk kD w5 s5 p5 n5 c5 h5 iR mE _ xT=>wV rfl ?_)
  refine ae ?_
  have hg:Sz (Int.gcd (numOf s xs) (numOf t ys):Int) ys.length:=Ap (qU h2.lim (Nat.le_refl _)) aa
  refine VO.call rfl rfl (fk Tryz.func192) (λpZ oZ zd=>(CW _ _ (Int.gcd (numOf s xs) (numOf t ys):Int) 1 _ 1 pZ ((h4.kp (mE.aw oZ)).in hg) ((h5.kp oZ).in (Sz.small bZ)) aa aa).mono ?_)
  rintro e w6 ⟨rfl,og⟩
  by_cases q4:Int.gcd (numOf s xs) (numOf t ys)=1
  ·rw[show decide ((Int.gcd (numOf s xs) (numOf t ys):Int)=1)=true from decide_eq_true aa]
   refine bA og ?_
   intro uy _ Gw
   refine aX ?_;intro wz kz bz
   exact⟨by simp[Am,q1,q2,q3,q4,ir],bz⟩
  ·rw[show decide ((Int.gcd (numOf s xs) (numOf t ys):Int)=1)=false from decide_eq_false aa]
   refine bA og ?_
   intro uy _ Gw
   refine aX ?_;intro wz kz bz
   exact⟨by simp[Am,q1,q2,q3,q4,ir],bz⟩
 ·have q4:(numOf t ys).sign=0\/(numOf t ys).sign= -1:=by
   rcases Int.lt_trichotomy (numOf t ys) 0 with e|e|e
   ·exact .inr (sign_neg e)
   ·rw[e];exact .inl rfl
   ·exact absurd e q3
  rcases q4 with q4|q4
  all_goals
   rw[q4]
   refine bA cK ?_
   intro iM _ bb3
   refine aX ?_;intro wz kz bz
   exact⟨by simp[Am,q1,q2,q3,ir],bz⟩
theorem fh (w:World):Calls Tryz.prog 80 #[] w λe w'=>∃ r,e=.returned r/\bh w' w.heap.size r 0/\ak w w':=by
 refine af (C:=aW Tryz.prog w _) (args:=[]) Tryz.func80 rfl Tryz.ntmps80 (bP rfl) ?_
 refine ae ?_
 refine VO.cI rfl rfl (fk Tryz.func142) (λbo cj bD=>lX 0 bo aa aa) (λbo cj bD w1 s1 p1 n1 c1 q1 aL dh _ bb1=>wV rfl ?_)
 refine ae ?_
 refine VO.cI rfl rfl (fk Tryz.func142) (λcA dG cV=>lX 1 cA aa aa) (λcA dG cV w2 s2 p2 n2 c2 q2 aY eU _ bb2=>wV rfl ?_)
 refine ae ?_
 refine aX ?_;intro wz kz bz
 exact⟨_,rfl,⟨_,_,_,_,_,_,_,_,rfl,(q1.kp (eU.aw kz)).mono bD.size,(q2.kp kz).mono cV.size⟩,bz⟩
theorem gO (v:Value) (q:Rat) (k:Nat) (w:World) (h:bE w v q k) (hk:k<=134217728):
  Calls Tryz.prog 70 #[v] w λe w'=>∃ r,e=.returned r/\dB w' r q/\ak w w':=by
 obtain⟨s,xs,t,ys,lS,rfl,hx,hy⟩:=h
 have CQ:=lS
 obtain⟨p,c,r,d,rfl,_,_⟩:=lS
 refine af (C:=aW Tryz.prog w _) (args:=[_]) Tryz.func70 rfl Tryz.ntmps70 (bP rfl) ?_
 refine ae ?_
 refine VO.call rfl rfl (fk Tryz.func133) (λbo cj bD=>(Aq s t xs ys _ bo (CQ.kp cj) aa aa).mono ?_)
 rintro e w1 ⟨rfl,aL⟩
 cases hq:Am s xs t ys
 ·refine bA aL ?_
  intro dh _ bb1
  refine VO.cR rfl rfl (fk Tryz.func80) (λcA dG cV=>fh cA) (λcA dG cV w2 s2 p2 n2 c2 t2 y2 m2 d2 h2 aY eU _ bb2=>wV rfl ?_)
  refine ae ?_
  refine aX ?_;intro wz kz bz
  exact⟨_,rfl,by rw[CO hq];exact (h2.kp kz).rd,bz⟩
 ·refine bA aL ?_
  intro dh _ bb1
  refine aX ?_;intro wz kz bz
  exact⟨_,rfl,(CP CQ hq).kp (dh.aw kz),bz⟩
theorem LJ {X Y:Int}:Rat.divInt X Y=Rat.divInt (-X) (-Y):=(Rat.neg_divInt_neg X Y).symm
theorem wS (v u:Value) (X Y:Int) (j k:Nat) (w:World) (hv:bH w v X j) (hu:bH w u Y k) (hj:j<=134217728) (hk:k<=134217728):
  Calls Tryz.prog 139 #[v,u] w λe w'=>∃ r,e=.returned (.tuple #[r,.int .i64 (CS Y)])/\bh w' w.heap.size r (Rat.divInt X Y)/\ak w w':=by
 obtain⟨s,p,n,c,rfl⟩:=hv.form
 obtain⟨t,r,m,d,rfl⟩:=hu.form
 refine af (C:=aW Tryz.prog w _) (args:=[_,_]) Tryz.func139 rfl Tryz.ntmps139 (bP rfl) ?_
 refine ae ?_
 refine VO.call rfl rfl (fk Tryz.func191) (λbo cj bD=>(bW _ Y k bo (hu.aB bD) aa).mono ?_)
 rintro e w1 ⟨rfl,aL⟩
 by_cases hY:Y=0
 ·rw[show Y.sign=0 by rw[hY];rfl]
  refine bA aL ?_
  intro dh _ bb1
  refine VO.cR rfl rfl (fk Tryz.func80) (λcA dG cV=>fh cA) (λcA dG cV w2 s2 p2 n2 c2 t2 y2 m2 d2 h2 aY eU _ bb2=>wV rfl ?_)
  refine ae ?_
  refine aX ?_;intro wz kz bz
  refine⟨_,by rw[CS,if_pos hY];rfl,?_,bz⟩
  rw[hY,Rat.divInt_zero]
  exact (h2.kp kz).mono cV.size
 ·rcases Int.lt_or_lt_of_ne hY with q|q
  ·rw[sign_neg q]
   refine bA aL ?_
   intro dh _ bb1
   refine VO.call rfl rfl (fk Tryz.func191) (λcA dG cV=>(bW _ Y k cA (hu.aB cV) aa).mono ?_)
   rintro e w2 ⟨rfl,aY⟩
   rw[sign_neg q]
   refine bA aY ?_
   intro eU _ bb2
   refine VO.cI rfl rfl (fk Tryz.func194) (λeD eW fN=>qV _ X j eD (hv.aB fN) aa) (λeD eW fN w3 s3 p3 n3 c3 h3 cK iM _ bb3=>wV rfl ?_)
   refine ae ?_
   refine VO.cI rfl rfl (fk Tryz.func194) (λiP jA jX=>qV _ Y k iP (hu.aB jX) aa) (λiP jA jX w4 s4 p4 n4 c4 h4 gj nD _ Ah=>wV rfl ?_)
   refine ae ?_
   have z3:Sz (-X) j:=Sz.neg hv.len
   have z4:Sz (-Y) k:=Sz.neg hu.len
   obtain⟨l1,l2⟩:=uT (X:= -X) (Y:= -Y) aa
   have LH:Sz (Int.gcd (-X) (-Y):Int) k:=Ap z4 aa
   have Lf:(Int.gcd (-X) (-Y):Int)≠0:=by
    intro e
    have:=(Int.gcd_eq_zero_iff.1 (show Int.gcd (-X) (-Y)=0 by omega)).2
    omega
   refine VO.cI rfl rfl (fk Tryz.func193) (λjj jk kD=>wL _ _ (-X) (-Y) j k jj ((h3.kp (nD.aw jk)).in z3) ((h4.kp jk).in z4) aa aa) (λjj jk kD w5 s5 p5 n5 c5 h5 iR mE _ xT=>wV rfl ?_)
   refine ae ?_
   refine VO.call rfl rfl (fk Tryz.func195) (λpZ oZ zd=>(jZ _ _ (-X) (Int.gcd (-X) (-Y):Int) j k pZ ((h3.kp (nD.aw (mE.aw oZ))).in z3) ((h5.kp oZ).in LH) aa aa).mono ?_)
   rintro e w6 ⟨hd6,og⟩
   obtain⟨v6,u6,rfl,h6,h6'⟩:=eF hd6 Lf
   obtain⟨s6,p6,n6,c6,rfl⟩:=h6.form
   obtain⟨t6,r6,m6,d6,rfl⟩:=h6'.form
   refine bA og ?_
   intro uy _ Gw
   refine VO.call rfl rfl (fk Tryz.func195) (λAj Ak uW=>(jZ _ _ (-Y) (Int.gcd (-X) (-Y):Int) k k Aj ((h4.kp (mE.aw (uy.aw Ak))).in z4) ((h5.kp (uy.aw Ak)).in LH) aa aa).mono ?_)
   rintro e w7 ⟨hd7,DK⟩
   obtain⟨v7,u7,rfl,h7,h7'⟩:=eF hd7 Lf
   obtain⟨s7,p7,n7,c7,rfl⟩:=h7.form
   obtain⟨t7,r7,m7,d7,rfl⟩:=h7'.form
   refine bA DK ?_
   intro DL _ bb7
   refine aX ?_;intro wz kz bz
   rw[LJ]
   exact⟨_,by rw[CS,if_neg hY];rfl,⟨_,_,_,_,_,_,_,_,rfl,au.cast ((h6.kp (DL.aw kz)).mono zd.size) l1,au.cast ((h7.kp kz).mono uW.size) l2⟩,bz⟩
  ·rw[dN q]
   refine bA aL ?_
   intro dh _ bb1
   refine VO.call rfl rfl (fk Tryz.func191) (λcA dG cV=>(bW _ Y k cA (hu.aB cV) aa).mono ?_)
   rintro e w2 ⟨rfl,aY⟩
   rw[dN q]
   refine bA aY ?_
   intro eU _ bb2
   obtain⟨l1,l2⟩:=uT (X:=X) (Y:=Y) q
   have LH:Sz (Int.gcd X Y:Int) k:=Ap hu.len hY
   have Lf:(Int.gcd X Y:Int)≠0:=by
    intro e
    have:=(Int.gcd_eq_zero_iff.1 (show Int.gcd X Y=0 by omega)).2
    omega
   refine VO.cI rfl rfl (fk Tryz.func193) (λjj jk kD=>wL _ _ X Y j k jj (hv.aB kD) (hu.aB kD) aa aa) (λjj jk kD w5 s5 p5 n5 c5 h5 iR mE _ xT=>wV rfl ?_)
   refine ae ?_
   refine VO.call rfl rfl (fk Tryz.func195) (λpZ oZ zd=>(jZ _ _ X (Int.gcd X Y:Int) j k pZ (hv.aB zd) ((h5.kp oZ).in LH) aa aa).mono ?_)
   rintro e w6 ⟨hd6,og⟩
   obtain⟨v6,u6,rfl,h6,h6'⟩:=eF hd6 Lf
   obtain⟨s6,p6,n6,c6,rfl⟩:=h6.form
   obtain⟨t6,r6,m6,d6,rfl⟩:=h6'.form
   refine bA og ?_
   intro uy _ Gw
   refine VO.call rfl rfl (fk Tryz.func195) (λAj Ak uW=>(jZ _ _ Y (Int.gcd X Y:Int) k k Aj (hu.aB uW) ((h5.kp (uy.aw Ak)).in LH) aa aa).mono ?_)
   rintro e w7 ⟨hd7,DK⟩
   obtain⟨v7,u7,rfl,h7,h7'⟩:=eF hd7 Lf
   obtain⟨s7,p7,n7,c7,rfl⟩:=h7.form
   obtain⟨t7,r7,m7,d7,rfl⟩:=h7'.form
   refine bA DK ?_
   intro DL _ bb7
   refine aX ?_;intro wz kz bz
   exact⟨_,by rw[CS,if_neg hY];rfl,⟨_,_,_,_,_,_,_,_,rfl,au.cast ((h6.kp (DL.aw kz)).mono zd.size) l1,au.cast ((h7.kp kz).mono uW.size) l2⟩,bz⟩
theorem IJ (n d:Int) (w:World) (h0: -9223372036854775808<=n) (h1:n<=9223372036854775807) (g0: -9223372036854775808<=d) (g1:d<=9223372036854775807):
  Calls Tryz.prog 104 #[.int .i64 n,.int .i64 d] w λe w'=>∃ r,e=.returned (.tuple #[r,.int .i64 (CS d)])/\bh w' w.heap.size r (Rat.divInt n d)/\ak w w':=by
 refine af (C:=aW Tryz.prog w _) (args:=[_,_]) Tryz.func104 rfl Tryz.ntmps104 (bP rfl) ?_
 refine ae ?_
 refine VO.cI rfl rfl (fk Tryz.func142) (λbo cj bD=>lX n bo h0 h1) (λbo cj bD w1 s1 p1 n1 c1 q1 aL dh _ bb1=>wV rfl ?_)
 refine ae ?_
 refine VO.cI rfl rfl (fk Tryz.func142) (λcA dG cV=>lX d cA g0 g1) (λcA dG cV w2 s2 p2 n2 c2 q2 aY eU _ bb2=>wV rfl ?_)
 refine ae ?_
 refine VO.call rfl rfl (fk Tryz.func139) (λeD eW fN=>(wS _ _ n d 2 2 eD ((q1.kp (eU.aw eW)).in (Sz.of_lt aa)) ((q2.kp eW).in (Sz.of_lt aa)) aa aa).mono ?_)
 rintro e w3 ⟨r3,rfl,q3,cK⟩
 obtain⟨s3,p3,n3,c3,t3,x3,m3,d3,rfl⟩:=q3.form
 refine bA cK ?_
 intro iM _ bb3
 refine aX ?_;intro wz kz bz
 exact⟨_,rfl,(q3.kp kz).mono fN.size,bz⟩
theorem wT (v u:Value) (q r:Rat) (k l:Nat) (w:World) (hv:bE w v q k) (hu:bE w u r l) (hk:k<=33554432) (hl:l<=33554432):
  Calls Tryz.prog 79 #[v,u] w λe w'=>∃ x,e=.returned x/\bh w' w.heap.size x (q+r)/\ak w w':=by
 obtain⟨s,p,n,c,t,y,m,d,rfl⟩:=hv.form
 obtain⟨s',p',n',c',t',y',m',d',rfl⟩:=hu.form
 have zq:=hv.DM
 have zr:=hu.DM
 have uk:jm k<=33554432:=by unfold jm;omega
 have ul:jm l<=33554432:=by unfold jm;omega
 refine af (C:=aW Tryz.prog w _) (args:=[_,_]) Tryz.func79 rfl Tryz.ntmps79 (bP rfl) ?_
 refine ae ?_
 refine VO.cR rfl rfl (fk Tryz.func70) (λbo cj bD=>gO _ q k bo (hv.kp cj) aa) (λbo cj bD w1 s1 p1 n1 c1 t1 y1 m1 d1 q1 aL dh _ bb1=>wV rfl ?_)
 refine ae ?_
 refine VO.cR rfl rfl (fk Tryz.func70) (λcA dG cV=>gO _ r l cA (hu.kp (dh.aw dG)) aa) (λcA dG cV w2 s2 p2 n2 c2 t2 y2 m2 d2 q2 aY eU _ bb2=>wV rfl ?_)
 refine ae ?_
 obtain⟨a1,a2⟩:=q1.parts
 obtain⟨b1,b2⟩:=q2.parts
 refine VO.cI rfl rfl (fk Tryz.func141) (λeD eW fN=>wG _ _ q.num r.den _ _ eD ((a1.kp (eU.aw eW)).to zq.1) ((b2.kp eW).to zr.2) aa aa) (λeD eW fN w3 s3 p3 n3 c3 q3 cK iM _ bb3=>wV rfl ?_)
 refine ae ?_
 refine VO.cI rfl rfl (fk Tryz.func141) (λiP jA jX=>wG _ _ r.num q.den _ _ iP ((b1.kp (iM.aw jA)).to zr.1) ((a2.kp (eU.aw (iM.aw jA))).to zq.2) aa aa) (λiP jA jX w4 s4 p4 n4 c4 q4 gj nD _ Ah=>wV rfl ?_)
 refine ae ?_
 refine VO.cI rfl rfl (fk Tryz.func140) (λjj jk kD=>qW _ _ (q.num*r.den) (r.num*q.den) (jm k+jm l) (jm l+jm k) jj ((q3.kp (nD.aw jk)).in (zq.1.mul zr.2)) ((q4.kp jk).in (zr.1.mul zq.2)) aa aa) (λjj jk kD w5 s5 p5 n5 c5 q5 iR mE _ xT=>wV rfl ?_)
 refine ae ?_
 refine VO.cI rfl rfl (fk Tryz.func141) (λpZ oZ zd=>wG _ _ q.den r.den _ _ pZ ((a2.kp (eU.aw (iM.aw (nD.aw (mE.aw oZ))))).to zq.2) ((b2.kp (iM.aw (nD.aw (mE.aw oZ)))).to zr.2) aa aa) (λpZ oZ zd w6 s6 p6 n6 c6 q6 og uy _ Gw=>wV rfl ?_)
 refine ae ?_
 refine VO.call rfl rfl (fk Tryz.func139) (λAj Ak uW=>(wS _ _ (q.num*r.den+r.num*q.den) ((q.den:Int)*r.den) (jm k+jm l+1) (jm k+jm l) Aj ((q5.kp (uy.aw Ak)).in (Sz.add (zq.1.mul zr.2) (zr.1.mul zq.2) (m:=jm k+jm l) aa aa)) ((q6.kp Ak).in (zq.2.mul zr.2)) aa aa).mono ?_)
 rintro e w7 ⟨r7,rfl,q7,DK⟩
 obtain⟨s7,p7,n7,c7,t7,y7,m7,d7,rfl⟩:=q7.form
 refine bA DK ?_
 intro DL _ bb7
 refine aX ?_;intro wz kz bz
 exact⟨_,rfl,bh.cast ((q7.kp kz).mono uW.size) (uX q r).symm,bz⟩
theorem Fa (v:Value) (q:Rat) (k:Nat) (w:World) (hv:bE w v q k) (hk:k<=134217728):
  Calls Tryz.prog 235 #[v] w λe w'=>∃ x,e=.returned x/\dB w' x (-q)/\ak w w':=by
 obtain⟨s,p,n,c,t,y,m,d,rfl⟩:=hv.form
 refine af (C:=aW Tryz.prog w _) (args:=[_]) Tryz.func235 rfl Tryz.ntmps235 (bP rfl) ?_
 refine ae ?_
 refine VO.cR rfl rfl (fk Tryz.func70) (λbo cj bD=>gO _ q k bo (hv.kp cj) hk) (λbo cj bD w1 s1 p1 n1 c1 t1 y1 m1 d1 q1 aL dh _ bb1=>wV rfl ?_)
 refine ae ?_
 obtain⟨a1,a2⟩:=q1.parts
 refine VO.cI rfl rfl (fk Tryz.func194) (λcA dG cV=>qV _ q.num _ cA ((a1.kp dG).to hv.DM.1) (by unfold jm;omega)) (λcA dG cV w2 s2 p2 n2 c2 q2 aY eU _ bb2=>wV rfl ?_)
 refine ae ?_
 refine aX ?_;intro wz kz bz
 refine⟨_,rfl,⟨_,_,_,_,_,_,_,_,rfl,?_,?_⟩,bz⟩
 ·rw[Rat.neg_num];exact (q2.kp kz).rd
 ·rw[Rat.neg_den];exact a2.kp (eU.aw kz)
theorem Fb (v u:Value) (q r:Rat) (k l:Nat) (w:World) (hv:bE w v q k) (hu:bE w u r l) (hk:k<=33554432) (hl:l<=33554431):
  Calls Tryz.prog 179 #[v,u] w λe w'=>∃ x,e=.returned x/\bh w' w.heap.size x (q-r)/\ak w w':=by
 obtain⟨s,p,n,c,t,y,m,d,rfl⟩:=hv.form
 obtain⟨s',p',n',c',t',y',m',d',rfl⟩:=hu.form
 refine af (C:=aW Tryz.prog w _) (args:=[_,_]) Tryz.func179 rfl Tryz.ntmps179 (bP rfl) ?_
 refine ae ?_
 refine VO.cR rfl rfl (fk Tryz.func235) (λbo cj bD=>Fa _ r l bo (hu.kp cj) aa) (λbo cj bD w1 s1 p1 n1 c1 t1 y1 m1 d1 q1 aL dh _ bb1=>wV rfl ?_)
 refine ae ?_
 refine VO.cR rfl rfl (fk Tryz.func79) (λcA dG cV=>wT _ _ q (-r) k (jm l) cA (hv.kp (dh.aw dG)) ((q1.kp dG).to hu.DM.neg) hk (by unfold jm;omega)) (λcA dG cV w2 s2 p2 n2 c2 t2 y2 m2 d2 q2 aY eU _ bb2=>wV rfl ?_)
 refine ae ?_
 refine aX ?_;intro wz kz bz
 exact⟨_,rfl,bh.cast ((q2.kp kz).mono cV.size) (Rat.sub_eq_add_neg q r).symm,bz⟩
theorem CX (v:Value) (q:Rat) (k:Nat) (w:World) (hv:bE w v q k) (hk:k<=134217728):
  Calls Tryz.prog 203 #[v] w λe w'=>e=.returned (.int .i64 (rf q 0))/\ak w w':=by
 obtain⟨s,p,n,c,t,y,m,d,rfl⟩:=hv.form
 refine af (C:=aW Tryz.prog w _) (args:=[_]) Tryz.func203 rfl Tryz.ntmps203 (bP rfl) ?_
 refine ae ?_
 refine VO.cR rfl rfl (fk Tryz.func70) (λbo cj bD=>gO _ q k bo (hv.kp cj) hk) (λbo cj bD w1 s1 p1 n1 c1 t1 y1 m1 d1 q1 aL dh _ bb1=>wV rfl ?_)
 refine ae ?_
 refine VO.call rfl rfl (fk Tryz.func191) (λcA dG cV=>(bW _ q.num _ cA ((q1.parts.1.kp dG).to hv.DM.1) (by unfold jm;omega)).mono ?_)
 rintro e w2 ⟨rfl,aY⟩
 rw[ze]
 refine bA aY ?_
 intro eU _ bb2
 refine aX ?_;intro wz kz bz
 exact⟨rfl,bz⟩
theorem Fc (v u:Value) (q r:Rat) (k l:Nat) (w:World) (hv:bE w v q k) (hu:bE w u r l) (hk:k<=33554431) (hl:l<=33554431):
  Calls Tryz.prog 143 #[v,u] w λe w'=>e=.returned (.int .i64 (rf q r))/\ak w w':=by
 obtain⟨s,p,n,c,t,y,m,d,rfl⟩:=hv.form
 obtain⟨s',p',n',c',t',y',m',d',rfl⟩:=hu.form
 have uk:jm k<=33554431:=by unfold jm;omega
 have ul:jm l<=33554431:=by unfold jm;omega
 refine af (C:=aW Tryz.prog w _) (args:=[_,_]) Tryz.func143 rfl Tryz.ntmps143 (bP rfl) ?_
 refine ae ?_
 refine VO.cR rfl rfl (fk Tryz.func179) (λbo cj bD=>Fb _ _ q r k l bo (hv.kp cj) (hu.kp cj) aa hl) (λbo cj bD w1 s1 p1 n1 c1 t1 y1 m1 d1 q1 aL dh _ bb1=>wV rfl ?_)
 refine ae ?_
 refine VO.call rfl rfl (fk Tryz.func203) (λcA dG cV=>(CX _ (q-r) (jm k+jm l+1) cA ((q1.kp dG).in (hv.DM.sub hu.DM)) aa).mono ?_)
 rintro e w2 ⟨rfl,aY⟩
 rw[LI]
 refine bA aY ?_
 intro eU _ bb2
 refine aX ?_;intro wz kz bz
 exact⟨rfl,bz⟩
theorem IK {q r:Rat}:(rf q r == 0)=decide (q=r):=by
 unfold rf
 by_cases h1:q<r
 ·rw[if_pos h1,decide_eq_false (λe=>by rw[e] at h1;exact absurd h1 Rat.lt_irrefl)];rfl
 ·rw[if_neg h1]
  by_cases h2:q=r
  ·rw[if_pos h2,decide_eq_true h2];rfl
  ·rw[if_neg h2,decide_eq_false h2];rfl
theorem CY (v u:Value) (q r:Rat) (k l:Nat) (w:World) (hv:bE w v q k) (hu:bE w u r l) (hk:k<=33554431) (hl:l<=33554431):
  Calls Tryz.prog 82 #[v,u] w λe w'=>e=.returned (.bool (decide (q=r)))/\ak w w':=by
 obtain⟨s,p,n,c,t,y,m,d,rfl⟩:=hv.form
 obtain⟨s',p',n',c',t',y',m',d',rfl⟩:=hu.form
 refine af (C:=aW Tryz.prog w _) (args:=[_,_]) Tryz.func82 rfl Tryz.ntmps82 (bP rfl) ?_
 refine ae ?_
 refine VO.cB rfl rfl (fk Tryz.func143) (λbo cj bD=>Fc _ _ q r k l bo (hv.kp cj) (hu.kp cj) hk hl) (λbo cj bD w1 aL dh _ bb1=>wV rfl ?_)
 refine ae ?_
 refine aX ?_;intro wz kz bz
 exact⟨by rw[<-IK];rfl,bz⟩
theorem sS (v u:Value) (q r:Rat) (k l:Nat) (w:World) (hv:bE w v q k) (hu:bE w u r l) (hk:k<=67108864) (hl:l<=67108864) (c:Int) (hc:rf q r=c):
 Calls Tryz.prog 43 #[v,u] w λe w'=>e=.returned (.int .i64 c)/\ak w w':=hc▸EZ v u q r k l w hv hu hk hl
inductive iU (w:World) (k:Nat):List Rat->List (List Value)->Prop
 | nil:iU w k [] []
 | cons {s:Bool} {p:Option Addr} {n c:Nat} {t:Bool} {r:Option Addr} {m d:Nat} {q:Rat} {qs:List Rat} {vs:List (List Value)}:bE w (.agg #[.bool s,.slice p n c,.bool t,.slice r m d]) q k->iU w k qs vs->iU w k (q::qs) ([.bool s,.slice p n c,.bool t,.slice r m d]::vs)
theorem iU.four {w:World} {k:Nat} {qs:List Rat} {vs:List (List Value)} (h:iU w k qs vs):∀ v∈vs,v.length=4:=by
 induction h with
 | nil=>intro v hv;cases hv
 | cons _ _ ih=>
   intro v hv
   rcases List.mem_cons.1 hv with rfl|e
   ·rfl
   ·exact ih v e
theorem iU.at {w:World} {k:Nat} {qs:List Rat} {vs:List (List Value)} (h:iU w k qs vs):∀ (j:Nat) (q:Rat),qs[j]? =some q->∃ s p' n' c' t r m d,vs[j]? =some [Value.bool s,.slice p' n' c',.bool t,.slice r m d]/\bE w (.agg #[.bool s,.slice p' n' c',.bool t,.slice r m d]) q k:=by
 induction h with
 | nil=>intro j q hq;simp at hq
 | cons h1 _ ih=>
   intro j q hq
   cases j with
   | zero=>cases hq;exact⟨_,_,_,_,_,_,_,_,rfl,h1⟩
   | succ j=>exact ih j q (by simpa using hq)
theorem flat_at:∀ (vs:List (List Value)) (j:Nat) (v:List Value),(∀ v∈vs,v.length=4)->vs[j]? =some v->∀ (o:Nat) (u:Value),v[o]? =some u->vs.flatten[j*4+o]? =some u:=by
 intro vs
 induction vs with
 | nil=>intro j v _ h;simp at h
 | cons x r ih=>
   intro j v hl h o u hu
   have hx:x.length=4:=hl x dU
   cases j with
   | zero=>
     simp at h
     subst h
     have ho:o<4:=by have:=(List.getElem?_eq_some_iff.1 hu).1;omega
     rw[List.flatten_cons,List.getElem?_append_left aa]
     simpa using hu
   | succ j=>
     have h':r[j]? =some v:=by simpa using h
     rw[List.flatten_cons,List.getElem?_append_right aa,hx,show (j+1)*4+o-4=j*4+o by omega]
     exact ih j v (λv hv=>hl v (by simp[hv])) h' o u hu
theorem zh {C:Cx} {β:Nat->Nat} {w:World} {i:Nat} {t:TypeId} {cs:List AV} {qs:List Rat} {k:Nat} {vs:List (List Value)} {n c:Nat} (h:lQ C β w i t cs) (spare:List AV) (hcs:cs=vs.flatten.map .val++spare) (hn:n=qs.length) (hq:iU w k qs vs) (hc:n<=c) (fm:c<=maxLen):
  sR w (.slice (some ⟨β i,0,none⟩) n c) qs k:=by
 subst hn
 refine⟨_,_,rfl,hc,fm,λj q hj=> ?_⟩
 obtain⟨s,p',n',c',t',r,m,d,hvj,tp⟩:=hq.at j q hj
 refine⟨β i,0,s,p',n',c',t',r,m,d,rfl,λo u hu=> ?_,tp⟩
 refine h.cls.cell ?_
 have:=flat_at vs j _ hq.four hvj o u hu
 rw[hcs,List.map_append,aV,List.getElem?_toArray,Nat.zero_add,List.getElem?_append_left (List.getElem?_eq_some_iff.1 this).1]
 exact this
theorem wU (v:Value) (q:Rat) (k:Nat) (w:World) (hv:bE w v q k) (hk:k<=536870912) (c:Int) (hc:rf q 0=c):
 Calls Tryz.prog 57 #[v] w λe w'=>e=.returned (.int .i64 c)/\ak w w':=hc▸CT v q k w hv hk
theorem dJ.in {w:World} {v:Value} {s t:Bool} {xs ys:List Nat} {k:Nat} (h:dJ w v s xs t ys) (hx:xs.length<=k) (hy:ys.length<=k):bE w v (rq s xs t ys) k:=⟨s,xs,t,ys,h,rfl,hx,hy⟩
theorem dJ.Gz {w:World} {v:Value} {s t:Bool} {xs ys:List Nat} (h:dJ w v s xs t ys):∃ p c r d,v=.agg #[.bool s,.slice p xs.length c,.bool t,.slice r ys.length d]/\True:=by
 obtain⟨p,c,r,d,rfl,_⟩:=h
 exact⟨_,_,_,_,rfl,trivial⟩
end
section
open Go.RowKit
abbrev jB (T:TypeId->Bool) (w w':World):Prop:=aF ⟨UU,λ_=>True,T⟩ w w'
structure gp {α:Type} (E:World->List Value->α->Prop) (sz:Nat):Prop where
 kp:∀ {w w':World} {cs:List Value} {a:α},E w cs a->Kp UU w w'->E w' cs a
 len:∀ {w:World} {cs:List Value} {a:α},E w cs a->cs.length=sz
 ok:∀ {w:World} {cs:List Value} {a:α},E w cs a->cs.all aZ=true
theorem jB.plain {T:TypeId->Bool} {w w':World} (h:jB T w w'):Kp UU w w':=h.eH
inductive dW {α:Type} (E:World->List Value->α->Prop) (w:World):List α->List (List Value)->Prop
 | nil:dW E w [] []
 | cons {a:α} {es:List α} {cs:List Value} {vs:List (List Value)}:E w cs a->dW E w es vs->dW E w (a::es) (cs::vs)
section
variable {α:Type} {E:World->List Value->α->Prop} {sz:Nat} {w w':World} {es:List α} {vs:List (List Value)}
theorem dW.len (h:dW E w es vs):vs.length=es.length:=by
 induction h with
 | nil=>rfl
 | cons _ _ ih=>simp[ih]
theorem dW.kp (hE:gp E sz) (h:dW E w es vs) (k:Kp UU w w'):dW E w' es vs:=by
 induction h with
 | nil=>exact .nil
 | cons h1 _ ih=>exact .cons (hE.kp h1 k) ih
theorem dW.at (h:dW E w es vs):∀ (j:Nat) (a:α),es[j]? =some a->∃ cs,vs[j]? =some cs/\E w cs a:=by
 induction h with
 | nil=>intro j q hq;simp at hq
 | cons h1 _ ih=>
   intro j q hq
   cases j with
   | zero=>cases hq;exact⟨_,rfl,h1⟩
   | succ j=>exact ih j q (by simpa using hq)
theorem dW.append {es':List α} {vs':List (List Value)} (h:dW E w es vs) (h':dW E w es' vs'):dW E w (es++es') (vs++vs'):=by
 induction h with
 | nil=>exact h'
 | cons h1 _ ih=>exact .cons h1 ih
theorem dW.snoc {a:α} {cs:List Value} (h:dW E w es vs) (h':E w cs a):dW E w (es++[a]) (vs++[cs]):=h.append (.cons h' .nil)
theorem dW.ok (hE:gp E sz) (h:dW E w es vs):vs.flatten.all aZ=true/\vs.flatten.length=es.length*sz:=by
 induction h with
 | nil=>exact⟨rfl,by simp⟩
 | cons h1 _ ih=>
   refine⟨?_,?_⟩
   ·rw[List.flatten_cons,List.all_append,ih.1,hE.ok h1];rfl
   ·rw[List.flatten_cons,List.length_append,ih.2,hE.len h1,List.length_cons,Nat.add_mul,Nat.one_mul,Nat.add_comm]
theorem dW.cell (hE:gp E sz) (h:dW E w es vs):∀ (j:Nat) (cs:List Value),vs[j]? =some cs->∀ (o:Nat) (u:Value),cs[o]? =some u->vs.flatten[j*sz+o]? =some u:=by
 induction h with
 | nil=>intro j v h;simp at h
 | @cons a es cs vs h1 _ ih=>
   intro j v h o u hu
   have hx:=hE.len h1
   cases j with
   | zero=>
     simp at h
     subst h
     have ho:o<sz:=by have:=(List.getElem?_eq_some_iff.1 hu).1;omega
     rw[List.flatten_cons,Nat.zero_mul,Nat.zero_add,List.getElem?_append_left aa]
     exact hu
   | succ j=>
     rw[List.flatten_cons,List.getElem?_append_right (by rw[Nat.add_mul];omega)]
     have:=ih j v (by simpa using h) o u hu
     rw[<-this]
     congr 1
     rw[Nat.add_mul]
     omega
def aO (E:World->List Value->α->Prop) (sz:Nat) (w:World) (v:Value) (es:List α):Prop:=
 ∃ p c,v=.slice p es.length c/\es.length<=c/\c<=maxLen/\∀ (i:Nat) (a:α),es[i]? =some a->∃ b off cs,p=some ⟨b,off,none⟩/\(∀ (j:Nat) (u:Value),cs[j]? =some u->w.cell? ⟨b,off+i*sz+j,none⟩=some u)/\E w cs a
theorem aO.form {v:Value} (h:aO E sz w v es):∃ p c,v=.slice p es.length c/\es.length<=c/\c<=9223372036854775807:=by
 obtain⟨p,c,hv,h1,h2,_⟩:=h
 exact⟨p,c,hv,h1,by simpa [maxLen] using h2⟩
theorem aO.at {p:Option Addr} {n c i:Nat} {a:α} (h:aO E sz w (.slice p n c) es) (hq:es[i]? =some a):∃ b off cs,p=some ⟨b,off,none⟩/\(∀ (j:Nat) (u:Value),cs[j]? =some u->w.cell? ⟨b,off+i*sz+j,none⟩=some u)/\E w cs a:=by
 obtain⟨p',c',hv,h1,h2,h3⟩:=h
 cases hv
 exact h3 i a hq
theorem aO.aB (hE:gp E sz) {v:Value} (h:aO E sz w v es) (hb:ak w w'):aO E sz w' v es:=by
 obtain⟨p,c,hv,h1,h2,h3⟩:=h
 refine⟨p,c,hv,h1,h2,λi q hq=> ?_⟩
 obtain⟨b,off,cs,hp,hc,hr⟩:=h3 i q hq
 exact⟨b,off,cs,hp,λj u hj=>hb.cell (hc j u hj),hE.kp hr (Kp.of hb)⟩
theorem aO.mono {E':World->List Value->α->Prop} {v:Value} (h:aO E sz w v es) (hm:∀ (i:Nat) (a:α) (cs:List Value),es[i]? =some a->E w cs a->E' w cs a):aO E' sz w v es:=by
 obtain⟨p,c,hv,h1,h2,h3⟩:=h
 refine⟨p,c,hv,h1,h2,λi q hq=> ?_⟩
 obtain⟨b,off,cs,hp,hc,hr⟩:=h3 i q hq
 exact⟨b,off,cs,hp,hc,hm i q cs hq hr⟩
theorem aO.nil (w:World) (E:World->List Value->α->Prop) (sz:Nat):aO E sz w (.slice none 0 0) []:=⟨none,0,rfl,Nat.le_refl _,by decide,λi q hq=>by simp at hq⟩
theorem dW.lens (hE:gp E sz) (h:dW E w es vs):∀ v∈vs,v.length=sz:=by
 induction h with
 | nil=>intro v hv;cases hv
 | cons h1 _ ih=>
   intro v hv
   rcases List.mem_cons.1 hv with rfl|e
   ·exact hE.len h1
   ·exact ih v e
theorem lg (hE:gp E sz) {b n c:Nat} {t:TypeId} {spare:List Value} (h:aE w b t (vs.flatten++spare).toArray) (hr:dW E w es vs) (hn:n=es.length) (hc:n<=c) (hm:c<=9223372036854775807):aO E sz w (.slice (some ⟨b,0,none⟩) n c) es:=by
 subst hn
 refine⟨_,_,rfl,hc,by simpa [maxLen] using hm,λi a ha=> ?_⟩
 obtain⟨cs,h1,h2⟩:=hr.at i a ha
 refine⟨b,0,cs,rfl,λj u hj=> ?_,h2⟩
 have:=hr.cell hE i cs h1 j u hj
 refine h.cell ?_
 rw[List.getElem?_toArray,Nat.zero_add,List.getElem?_append_left (List.getElem?_eq_some_iff.1 this).1]
 exact this
def aC (E:World->List Value->α->Prop) (sz:Nat) (t:TypeId) (B:Nat) (w:World) (v:Value) (es:List α):Prop:=
 (v=.slice none 0 0/\es=[])\/∃ b c vs spare,v=.slice (some ⟨b,0,none⟩) es.length c/\B<=b/\aE w b t (vs.flatten++spare).toArray/\dW E w es vs/\spare.all aZ=true/\es.length<=c/\c<=9223372036854775807/\(vs.flatten++spare).length=c*sz
theorem aC.sl (hE:gp E sz) {t:TypeId} {B:Nat} {v:Value} (h:aC E sz t B w v es):aO E sz w v es:=by
 rcases h with ⟨rfl,rfl⟩|⟨b,c,vs,spare,rfl,_,h1,h2,_,h3,h4,_⟩
 ·exact aO.nil _ _ _
 ·exact lg hE h1 h2 rfl h3 h4
theorem aC.form {t:TypeId} {B:Nat} {v:Value} (h:aC E sz t B w v es):∃ p c,v=.slice p es.length c:=by
 rcases h with ⟨rfl,rfl⟩|⟨b,c,vs,spare,rfl,_⟩
 ·exact⟨_,_,rfl⟩
 ·exact⟨_,_,rfl⟩
theorem aC.kp (hE:gp E sz) {t:TypeId} {B:Nat} {v:Value} {T:TypeId->Bool} (h:aC E sz t B w v es) (k:jB T w w') (ht:T t=true):aC E sz t B w' v es:=by
 rcases h with ⟨rfl,rfl⟩|⟨b,c,vs,spare,rfl,h0,h1,h2,h3⟩
 ·exact .inl ⟨rfl,rfl⟩
 ·refine .inr ⟨b,c,vs,spare,rfl,h0,k.block t b _ ?_ trivial h1,h2.kp hE k.plain,h3⟩
  show (Nat.beq t UU || T t)=true
  rw[ht]
  simp
theorem aC.mono {t:TypeId} {B B':Nat} {v:Value} (h:aC E sz t B w v es) (hB:B'<=B):aC E sz t B' w v es:=by
 rcases h with h|⟨b,c,vs,spare,hv,h0,h1⟩
 ·exact .inl h
 ·exact .inr ⟨b,c,vs,spare,hv,Nat.le_trans hB h0,h1⟩
end
section
variable {C:Cx} {F:Fr} {H:Hp} {w:World} {m:Option (List FuncId)} {full:Array Oper} {K:Fr->Hp->World->Prop} {o:Oper} {r:List Oper}
end
theorem qd {α:Type} {E:World->List Value->α->Prop} {sz:Nat} {C:Cx} {β:Nat->Nat} {w:World} {i n c:Nat} {t:TypeId} {es:List α} {vs:List (List Value)} {spare:List AV} (h:lQ C β w i t (vs.flatten.map .val++spare)) (hr:dW E w es vs) (hn:n=es.length) (hc:n<=c) (hm:c<=9223372036854775807) (hl:(vs.flatten.map AV.val++spare).length=c*sz)
  (hnw:∀ i g,C.uM i g->C.w0.heap.size<=g:=by exact λ_ _ h=>h):aC E sz t C.w0.heap.size w (.slice (some ⟨β i,0,none⟩) n c) es:=by
 subst hn
 have hk:=h.ok
 rw[List.all_append,Bool.and_eq_true] at hk
 refine .inr ⟨β i,c,vs,spare.map (AV.leaf β),rfl,hnw _ _ h.new,?_,hr,dZ hk.2,hc,hm,by rw[<-hl];simp only[List.length_append,List.length_map]⟩
 have:=h.cls
 rw[List.map_append,aV] at this
 exact this
theorem dD {n d:Int} (h0: -9223372036854775808<=n) (h1:n<=9223372036854775807) (g0: -9223372036854775808<=d) (g1:d<=9223372036854775807):gn (Rat.divInt n d) 2:=by
 by_cases hd:d=0
 ·rw[hd,Rat.divInt_zero];exact gn.zero.mono aa
 ·exact sQ (Sz.of_lt aa) (Sz.of_lt aa) hd
end
set_option maxRecDepth 4000
section
open Go.RowKit
attribute [local irreducible] ar VS
theorem jn (xs:List Nat) (v:Value) (n:Nat) (w:World) (hr:Rd w 1 v n (ints .u32 xs)) (hn:n<=1073741824):
  Calls Tryz.prog 69 #[v] w λe w'=>∃ p c,e=.returned (.slice p n c)/\w'.ownsRow w.heap.size UU 1 (.slice p n c) n (ints .u32 xs)/\ak w w':=by
 obtain⟨p,c,rfl,ky⟩:∃ p c,v=.slice p n c/\True:=by
  obtain⟨p,c,hv,_⟩:=hr
  exact⟨p,c,hv,trivial⟩
 refine af (C:=aW Tryz.prog w _) (args:=[_]) Tryz.func69 rfl Tryz.ntmps69 (bP rfl) ?_
 refine ae ?_
 refine VO.appU (bO _ _) (t:=23) (e:=78) (n:=n) (news:=ints .u32 xs) rfl rfl rfl rfl rfl (kK .u32 xs) aa (λw1 k1 b1=>hr.below b1) (λw2 p2 c2 k2 b2 ho=>wV rfl ?_)
 refine ae ?_
 refine aX ?_;intro wz kz bz
 exact⟨_,_,rfl,Own.kp ho kz,bz⟩
theorem eM.GA {w:World} {s:Bool} {p:Option Addr} {xs:List Nat} {c:Nat} (h:eM w (.agg #[.bool s,.slice p xs.length c]) s xs):Rd w 1 (.slice p xs.length c) xs.length (ints .u32 xs)/\bS xs:=by
 obtain⟨p',c',hv,hr,hl⟩:=h
 simp only[Value.agg.injEq,Array.mk.injEq,List.cons.injEq,and_true,true_and,Value.slice.injEq] at hv
 obtain⟨rfl,rfl⟩:=hv
 exact⟨hr,hl⟩
def mf (w:World) (B:Nat) (v:Value) (s:Bool) (xs:List Nat) (t:Bool) (ys:List Nat):Prop:=
 ∃ p c r d,v=.agg #[.bool s,.slice p xs.length c,.bool t,.slice r ys.length d]/\w.ownsRow B UU 1 (.slice p xs.length c) xs.length (ints .u32 xs)/\w.ownsRow B UU 1 (.slice r ys.length d) ys.length (ints .u32 ys)/\bS xs/\bS ys
theorem mf.raw {w:World} {B:Nat} {v:Value} {s:Bool} {xs:List Nat} {t:Bool} {ys:List Nat} (h:mf w B v s xs t ys):dJ w v s xs t ys:=by
 obtain⟨p,c,r,d,hv,h1,h2,h3,h4⟩:=h
 exact⟨p,c,r,d,hv,⟨_,_,rfl,Rd.own h1,h3⟩,⟨_,_,rfl,Rd.own h2,h4⟩⟩
theorem mf.kp {T:TypeId->Bool} {w w':World} {B:Nat} {v:Value} {s:Bool} {xs:List Nat} {t:Bool} {ys:List Nat} (h:mf w B v s xs t ys) (k:aF ⟨UU,λ_=>True,T⟩ w w'):mf w' B v s xs t ys:=by
 obtain⟨p,c,r,d,hv,h1,h2,h3,h4⟩:=h
 exact⟨p,c,r,d,hv,Own.kp h1 k,Own.kp h2 k,h3,h4⟩
theorem mf.own {w:World} {B:Nat} {v:Value} {q:Rat} (h:mf w B v (decide (q.num<0)) (limbs q.num.natAbs) (decide ((q.den:Int)<0)) (limbs (q.den:Int).natAbs)):bh w B v q:=by
 obtain⟨p,c,r,d,rfl,h1,h2,h3,h4⟩:=h
 exact⟨_,p,_,c,_,r,_,d,rfl,⟨_,_,rfl,h1⟩,⟨_,_,rfl,h2⟩⟩
theorem wW (s t:Bool) (xs ys:List Nat) (v:Value) (w:World) (h:dJ w v s xs t ys) (hx:xs.length<=1073741824) (hy:ys.length<=1073741824):
  Calls Tryz.prog 21 #[v] w λe w'=>∃ r,e=.returned r/\mf w' w.heap.size r s xs t ys/\ak w w':=by
 obtain⟨p,c,r,d,rfl,h1,h2⟩:=h
 refine af (C:=aW Tryz.prog w _) (args:=[_]) Tryz.func21 rfl Tryz.ntmps21 (bP rfl) ?_
 refine ae ?_
 refine VO.call rfl rfl (fk Tryz.func69) (λbo cj bD=>(jn xs _ _ bo (h1.aB bD).GA.1 hx).mono ?_)
 rintro e w1 ⟨p1,c1,rfl,q1,aL⟩
 skip
 refine bA aL ?_
 intro dh _ bb1
 refine VO.call rfl rfl (fk Tryz.func69) (λcA dG cV=>(jn ys _ _ cA (h2.aB cV).GA.1 hy).mono ?_)
 rintro e w2 ⟨p2,c2,rfl,q2,aY⟩
 skip
 refine bA aY ?_
 intro eU _ bb2
 refine aX ?_;intro wz kz bz
 exact⟨_,rfl,⟨_,_,_,_,rfl,Own.kp (Own.mono q1 bD.size) (eU.aw kz),Own.kp (Own.mono q2 cV.size) kz,h1.GA.2,h2.GA.2⟩,bz⟩
theorem IL (s t:Bool) (xs ys:List Nat) (v:Value) (w:World) (h:dJ w v s xs t ys) (hx:xs.length<=1073741824) (hy:ys.length<=1073741824):
  Calls Tryz.prog 105 #[v] w λe w'=>∃ r,e=.returned r/\mf w' w.heap.size r s xs t ys/\ak w w':=by
 obtain⟨p,c,r,d,rfl,h1,h2⟩:=h
 refine af (C:=aW Tryz.prog w _) (args:=[_]) Tryz.func105 rfl Tryz.ntmps105 (bP rfl) ?_
 refine ae ?_
 refine VO.call rfl rfl (fk Tryz.func69) (λbo cj bD=>(jn xs _ _ bo (h1.aB bD).GA.1 hx).mono ?_)
 rintro e w1 ⟨p1,c1,rfl,q1,aL⟩
 skip
 refine bA aL ?_
 intro dh _ bb1
 refine VO.call rfl rfl (fk Tryz.func69) (λcA dG cV=>(jn ys _ _ cA (h2.aB cV).GA.1 hy).mono ?_)
 rintro e w2 ⟨p2,c2,rfl,q2,aY⟩
 skip
 refine bA aY ?_
 intro eU _ bb2
 refine aX ?_;intro wz kz bz
 exact⟨_,rfl,⟨_,_,_,_,rfl,Own.kp (Own.mono q1 bD.size) (eU.aw kz),Own.kp (Own.mono q2 cV.size) kz,h1.GA.2,h2.GA.2⟩,bz⟩
theorem eS {K:KC} {w w':World} (h:aF K w w':=by (with_reducible (repeat (first|assumption|exact kU _|exact kR _|exact Kp.of (U:=UU) (by assumption)|exact aF.of (by assumption)|refine kT ?_ (by assumption))))):aF K w w':=h
theorem ek (n d:Int) (w:World) (h0: -9223372036854775808<=n) (h1:n<=9223372036854775807) (g0: -9223372036854775808<=d) (g1:d<=9223372036854775807):
  Calls Tryz.prog 45 #[.int .i64 n,.int .i64 d] w λe w'=>∃ r,e=.returned r/\bh w' w.heap.size r (Rat.divInt n d)/\ak w w':=by
 refine af (C:=aW Tryz.prog w _) (args:=[_,_]) Tryz.func45 rfl Tryz.ntmps45 (bP rfl) ?_
 refine ae ?_
 refine VO.call rfl rfl (fk Tryz.func104) (λbo cj bD=>(IJ n d bo h0 h1 g0 g1).mono ?_)
 rintro e w1 ⟨r1,rfl,q1,aL⟩
 obtain⟨s1,p1,n1,c1,t1,y1,m1,d1,rfl⟩:=q1.form
 refine bA aL ?_
 intro dh _ bb1
 have hsz:(limbs (Rat.divInt n d).num.natAbs).length<=4/\(limbs ((Rat.divInt n d).den:Int).natAbs).length<=4:=by
  by_cases hd:d=0
  ·rw[hd,Rat.divInt_zero];exact⟨gn.zero.1.mono aa,gn.zero.2.mono aa⟩
  ·have h:=sQ (X:=n) (Y:=d) (k:=2) (l:=2) (Sz.of_lt aa) (Sz.of_lt aa) hd
   exact⟨h.1.mono aa,h.2.mono aa⟩
 refine VO.call rfl rfl (fk Tryz.func105) (λcA dG cV=>(IL _ _ _ _ _ cA (q1.kp eS).rd.raw aa aa).mono ?_)
 rintro e w2 ⟨r2,rfl,q2,aY⟩
 obtain⟨p2,c2,y2,d2,rfl,_⟩:=q2.raw.Gz
 refine bA aY ?_
 intro eU _ bb2
 refine aX ?_;intro wz kz bz
 exact⟨_,rfl,((q2.kp kz).own).mono cV.size,bz⟩
theorem wY (xs:List Nat) (v u:Value) (n:Nat) (w:World) (hr:Rd w 1 v n (ints .u32 xs)) (hs:Rd w 1 u n (ints .u32 xs)) (rW:n=xs.length):
  Calls Tryz.prog 71 #[v,u] w λe w'=>e=.returned (.bool true)/\ak w w':=by
 subst rW
 obtain⟨n,hn⟩:∃ n,n=xs.length:=⟨_,rfl⟩
 rw[<-hn] at hr hs
 obtain⟨p,c,rfl,eV,fm,ed⟩:=hr.u32
 obtain⟨q,d,rfl,Hm,DC,_⟩:=hs.u32
 refine af (C:=aW Tryz.prog w _) (args:=[_,_]) Tryz.func71 rfl Tryz.ntmps71 (bP rfl) ?_
 refine ae ?_
 refine VS.aP rfl dU ?_
 refine ae ?_
 refine VS.loop (J:=λms L M w'=>∃ (k:Nat),k<=n/\ms=n-k/\L=[(0,.val (.slice p n c)),(1,.val (.slice q n d)),(5,.val (.int .i64 (k:Int)))]/\M=[]) n ⟨_,_,?_,?_,?_,?_,⟨0,by omega,rfl,rfl,rfl⟩⟩ ?_
 ·exact ew
 ·exact ew
 ·rfl
 ·exact kH
 rintro ms L M w' ⟨k,hk,hms,rfl,rfl⟩
 refine ae ?_
 by_cases hkn:k<n
 ·refine VS.aR rfl (decide_eq_true (Int.ofNat_lt.2 hkn)) ?_
  refine ae ?_
  obtain⟨b1,o1,x,rfl,aL,fq,ku⟩:=hr.cellAt hkn
  obtain⟨b2,o2,y,rfl,aY,mo,xH⟩:=hs.cellAt hkn
  obtain rfl:x=y:=by rw[fq] at mo;exact Option.some.inj mo
  refine VO.cond rfl dc (wV rfl ?_)
  refine VO.read rfl [.int .u32 (x:Int)] rfl (ja rfl ku) (wV rfl ?_)
  refine VO.cond rfl dc (wV rfl ?_)
  refine VO.read rfl [.int .u32 (x:Int)] rfl (ja rfl xH) (wV rfl ?_)
  refine ae ?_
  refine VS.aP rfl dU ?_
  refine ae ?_
  refine VS.back (n-(k+1)) aa ⟨_,_,?_,?_,?_,?_,⟨k+1,by omega,rfl,rfl,rfl⟩⟩
  ·refine⟨rfl,rfl,?_,trivial⟩
   rw[<-aD aa];rfl
  ·exact ew
  ·rfl
  ·exact kH
 ·refine VS.aP rfl (decide_eq_false (λe=>hkn (Int.ofNat_lt.1 e))) ?_
  refine ae ?_
  refine aX ?_;intro wz kz bz
  exact⟨rfl,bz⟩
theorem zi (s t:Bool) (xs ys:List Nat) (v u:Value) (w:World) (hv:dJ w v s xs t ys) (hu:dJ w u s xs t ys):
  Calls Tryz.prog 25 #[v,u] w λe w'=>e=.returned (.bool true)/\ak w w':=by
 obtain⟨p,c,r,d,rfl,v1,v2⟩:=hv
 obtain⟨p',c',r',d',rfl,u1,u2⟩:=hu
 refine af (C:=aW Tryz.prog w _) (args:=[_,_]) Tryz.func25 rfl Tryz.ntmps25 (bP rfl) ?_
 refine ae ?_
 refine VO.fix 12 rfl (congrArg (λb=>AV.val (.bool b)) (show (s == s)=true by simp)) ?_
 refine ae ?_
 refine VO.fix 21 rfl (congrArg (λb=>AV.val (.bool b)) (show (t == t)=true by simp)) ?_
 refine ae ?_
 refine VO.cB rfl rfl (fk Tryz.func71) (λbo cj bD=>wY xs _ _ _ bo (v1.aB bD).GA.1 (u1.aB bD).GA.1 rfl) (λbo cj bD w1 aL dh _ bb1=>wV rfl ?_)
 refine ae ?_
 refine VO.cB rfl rfl (fk Tryz.func71) (λcA dG cV=>wY ys _ _ _ cA (v2.aB cV).GA.1 (u2.aB cV).GA.1 rfl) (λcA dG cV w2 aY eU _ bb2=>wV rfl ?_)
 refine ae ?_
 refine aX ?_;intro wz kz bz
 exact⟨rfl,bz⟩
theorem IM (q:Rat) (v u:Value) (w:World) (hv:dB w v q) (hu:dB w u q):
 Calls Tryz.prog 25 #[v,u] w λe w'=>e=.returned (.bool true)/\ak w w':=zi _ _ _ _ v u w hv.raw hu.raw
end
section
open Go.RowKit
section
variable {T:TypeId->Bool} {w w':World} {v:Value} {q:Rat} {X:Int} {B n:Nat}
theorem bh.k (h:bh w B v q) (k:aF ⟨UU,λ_=>True,T⟩ w w':=by exact eS):bh w' B v q:=h.kp k
theorem bh.kr (h:bh w B v q) (k:aF ⟨UU,λ_=>True,T⟩ w w':=by exact eS):dB w' v q:=(h.kp k).rd
theorem bh.ki (h:bh w B v q) (hs:gn q n) (k:aF ⟨UU,λ_=>True,T⟩ w w':=by exact eS):bE w' v q n:=(h.kp k).in hs
end
end
section
open Go.RowKit
attribute [local irreducible] ar VS
theorem CZ {a b:Int} (h:a≠b):(a != b)=true:=by simpa using h
theorem tQ {a b:Int} (h:a=b):(a != b)=false:=by simpa using h
theorem GB {a b:Int} (h:a=b):(a == b)=true:=by simpa using h
theorem GC {a b:Int} (h:a≠b):(a == b)=false:=by simpa using h
structure dE {α:Type} (E:World->List Value->α->Prop) (sz:Nat) (w:World) (n c:Nat) (vs:List (List Value)) (sp:List AV) (es:List α):Prop where
 len:n=es.length
 el:dW E w es vs
 so:sp.all aJ=true
 sl:aH sp=[]
 le:n<=c
 cm:c<=9223372036854775807
 fl:(vs.flatten.map AV.val++sp).length=c*sz
section
variable {α:Type} {E:World->List Value->α->Prop} {sz n c:Nat} {w w':World} {vs:List (List Value)} {sp:List AV} {es:List α}
theorem dE.kp (hE:gp E sz) (h:dE E sz w n c vs sp es) (k:Kp UU w w'):dE E sz w' n c vs sp es:=⟨h.len,h.el.kp hE k,h.so,h.sl,h.le,h.cm,h.fl⟩
theorem dE.DN {M:List (Nat×(TypeId×List AV))} (h:dE E sz w n c vs sp es):aA M (vs.flatten.map AV.val++sp):=.append (.vals _) (.none h.sl)
end
section
variable {C:Cx} {F:Fr} {H:Hp} {w:World} {m:Option (List FuncId)} {full:Array Oper} {K:Fr->Hp->World->Prop} {o:Oper} {r:List Oper}
theorem VO.lh (hC:C.Ok) {α:Type} {E:World->List Value->α->Prop} {sz:Nat} (hE:gp E sz) {t e te:TypeId} {it ie:TI} {x y:Operand} {s:Nat} {cs:List Value} {a:α} {dst:Nat}
  (e0:stepOf C full F H o=.call (.op o [.val (.slice none 0 0),.row s 0 1 1])) (ho:o.op=.call { callee:=.builtin .append,args:=#[x,y],argTypes:=#[t,t] })
  (KS:C.ti t=some it) (gr:it.elem=some (e,sz)) (pK:C.ti e=some ie) (hU:C.K.fz e=false) (hzo:ie.zero.cells.toList.all aZ=true)
  (hd:o.dst=some dst) (hN:dst<C.N) (hl:lvl C.SU m o=2) (fQ:H dst=none) (hs:H s=some (te,cs.map .val)) (hcs:E w cs a) (gA:24*sz<=140737488355328)
  (hK:∀ w2 cap sp,aF C.K w w2->C.Old w2->dE E sz w2 1 cap [cs] sp [a]->ar C m full r K (F.bC o.dst (.row dst 0 1 cap)) (H.put dst (e,[cs].flatten.map AV.val++sp)) w2)
  (hkp:∀ w w',aF C.K w w'->Kp UU w w':=by first|exact λ_ _ h=>h|exact λ_ _ h=>h.eH):ar C m full (o::r) K F H w:=by
 have hlen:=hE.len hcs
 refine VO.app hC e0 ho KS gr pK hU hzo hd hN hl (known:=[]) (spare:=[]) (del:=none) (n:=0) (c:=0) (mm:=1) (news:=cs.map .val) (.inl ⟨rfl,rfl,rfl,rfl,rfl,rfl,by omega⟩) (.inl fQ) dU dU aa aa ⟨rfl,rfl,ah _⟩ ⟨rfl,rfl,cE (hE.ok hcs)⟩ (by rw[List.length_map,hlen];omega) aa
  (λw1 β k1 b1 ho=>⟨_,_,rfl,.inr ⟨β s,0,rfl,gN (rest:=[]) (ho.own s (.base (List.mem_append_right _ (List.mem_singleton.2 rfl))) _ _ hs) (by rw[List.append_nil])⟩⟩) (λw2 cap sp ρ k2 b2 fv h1 h2 h3 h4 h5=> ?_)
 have:=hK w2 cap sp k2 b2 ⟨rfl,.cons (hE.kp hcs (hkp _ _ k2)) .nil,h4,h5,by omega,h2,by simpa using h3⟩
 have e':([cs].flatten.map AV.val++sp)=([]++cs.map .val)++sp:=by simp
 rw[e'] at this
 exact this
theorem VO.lj (hC:C.Ok) {α:Type} {E:World->List Value->α->Prop} {sz:Nat} (hE:gp E sz) {t e te:TypeId} {it ie:TI} {x y:Operand} {s i n c:Nat} {cs:List Value} {a:α} {vs:List (List Value)} {sp:List AV} {es:List α} {dst:Nat}
  (e0:stepOf C full F H o=.call (.op o [.row i 0 n c,.row s 0 1 1])) (ho:o.op=.call { callee:=.builtin .append,args:=#[x,y],argTypes:=#[t,t] })
  (KS:C.ti t=some it) (gr:it.elem=some (e,sz)) (pK:C.ti e=some ie) (hU:C.K.fz e=false) (hzo:ie.zero.cells.toList.all aZ=true)
  (hd:o.dst=some dst) (hN:dst<C.N) (hl:lvl C.SU m o=2) (fQ:H dst=none\/some i=some dst) (hi:H i=some (e,vs.flatten.map .val++sp)) (hr:dE E sz w n c vs sp es) (hs:H s=some (te,cs.map .val)) (hcs:E w cs a) (gA:(n+1)*(24*sz)<=140737488355328)
  (hK:∀ w2 cap zj ρ,aF C.K w w2->C.Old w2->(∀ x,aZ (ρ x)=true)->dE E sz w2 (n+1) cap (vs++[cs]) zj (es++[a])->ar C m full r K ((F.forget (some i) ρ).bC o.dst (.row dst 0 (n+1) cap)) ((H.forget (some i) ρ).put dst (e,(vs++[cs]).flatten.map AV.val++zj)) w2)
  (hkp:∀ w w',aF C.K w w'->Kp UU w w':=by first|exact λ_ _ h=>h|exact λ_ _ h=>h.eH):ar C m full (o::r) K F H w:=by
 have hlen:=hE.len hcs
 obtain⟨k1,k2⟩:=hr.el.ok hE
 have Ht:=hr.len
 refine VO.app hC e0 ho KS gr pK hU hzo hd hN hl (known:=vs.flatten.map .val) (spare:=sp) (del:=some i) (n:=n) (c:=c) (mm:=1) (news:=cs.map .val) (.inr ⟨i,rfl,hi,rfl⟩) fQ (by rw[List.length_map,k2,Ht]) hr.fl hr.le hr.cm ⟨ah _,hr.sl,ah _⟩ ⟨cE k1,hr.so,cE (hE.ok hcs)⟩ (by rw[List.length_map,hlen];omega) gA
  (λw1 β k1 b1 ho=>⟨_,_,rfl,.inr ⟨β s,0,rfl,gN (rest:=[]) (ho.own s (.base (List.mem_append_right _ (List.mem_singleton.2 rfl))) _ _ hs) (by rw[List.append_nil])⟩⟩) (λw2 cap zj ρ k2 b2 fv h1 h2 h3 h4 h5=> ?_)
 have e:(vs.flatten.map AV.val++cs.map .val)=(vs++[cs]).flatten.map AV.val:=by simp
 have:=hK w2 cap zj ρ k2 b2 fv ⟨by rw[List.length_append,hr.len];rfl,(hr.el.kp hE (hkp _ _ k2)).snoc (hE.kp hcs (hkp _ _ k2)),h4,h5,by omega,h2,by rw[<-e];exact h3⟩
 rw[<-e] at this
 exact this
end
end
section
open Go.RowKit
theorem IP {w:World} {a:Option Addr} {len cap:Nat} {zs:List Int}
  (h:(a=none/\len=0/\cap=0/\zs=[])\/∃ x,a=some x/\len<=cap/\cap<=maxLen/\zs.length=cap/\(∀ i,i<zs.length->w.cell? (x.add i)=some (.int .u32 (zs.getD i 0)))/\∀ n∈zs,(Lit.int .u32 n).wf=true):
  ∃ xs:List Nat,bS xs/\Rd w 1 (.slice a len cap) len (ints .u32 xs):=by
 rcases h with ⟨rfl,rfl,rfl,rfl⟩|⟨x,rfl,h1,h2,h3,h4,h5⟩
 ·exact⟨[],bS.nil,Rd.nil w 1⟩
 ·have hb:∀ n∈zs,0<=n/\n<4294967296:=λn hn=>by
   have:=h5 n hn
   simp[Lit.wf,IntKind.min,IntKind.max,IntKind.signed,IntKind.bits] at this
   omega
  refine⟨(zs.take len).map Int.toNat,?_,?_⟩
  ·intro y hy
   obtain⟨z,hz,rfl⟩:=List.mem_map.1 hy
   have:=hb z (List.mem_of_mem_take hz)
   omega
  ·refine⟨_,cap,rfl,h1,h2,by simp;omega,λhn=> ?_⟩
   have kP:0<zs.length:=by omega
   have h0:=h4 0 kP
   have hsp:x.spot=none:=by
    have:x.add 0=x:=by simp[Addr.add]
    rw[this] at h0
    unfold World.cell? at h0
    split at h0
    ·split at h0
     ·cases h0
     ·rename_i hs;simpa using hs
    ·cases h0
   obtain⟨b,off,sp⟩:=x
   simp only at hsp
   subst hsp
   refine⟨b,off,rfl,λj u hj=> ?_⟩
   simp only[ints,List.map_map,List.getElem?_map,List.getElem?_take] at hj
   split at hj
   ·rename_i hjl
    have hjz:j<zs.length:=by omega
    rw[List.getElem?_eq_getElem hjz] at hj
    simp at hj
    subst hj
    have h6:=h4 j hjz
    have h7:=hb _ (List.getElem_mem hjz)
    rw[show (⟨b,off,none⟩:Addr).add j=⟨b,off+j,none⟩ by unfold Addr.add;split <;> simp_all] at h6
    rw[h6]
    simp[List.getD,hjz]
    omega
   ·cases hj
theorem Ar {α:Type} {l:List α} (h:l.length=2):∃ a b,l=[a,b]:=by
 match l,h with
 | [a,b],_=>exact⟨a,b,rfl⟩
theorem LK {α:Type} {l:List α} (h:l.length=4):∃ a b c d,l=[a,b,c,d]:=by
 match l,h with
 | [a,b,c,d],_=>exact⟨a,b,c,d,rfl⟩
section
variable {H:Type} {enc:TypeId×Value->H} {w:World} {held:Bool}
theorem Ff {fuel:Nat} {cs:List Value} {x:DataW H×List MemPlace} (h:DataW.trod enc Tryz.prog w 0 (λ_=>true) held fuel 23 cs=some x):∃ p n c xs,cs=[.slice p n c]/\Rd w 1 (.slice p n c) n (ints .u32 xs)/\bS xs:=by
 rcases ChangeShapes.open_ints Tryz.underlying23 Tryz.underlying78 (by kernel_rfl) h with ⟨rfl,_⟩|⟨a,len,cap,zs,rfl,_,hl,hc,hz,_,hcell,hwf⟩
 ·exact⟨none,0,0,[],rfl,Rd.nil w 1,bS.nil⟩
 ·rw[if_pos rfl] at hz
  obtain⟨xs,xP,rT⟩:=IP (w:=w) (.inr ⟨a,rfl,hl,hc,hz,hcell,hwf⟩)
  exact⟨some a,len,cap,xs,rfl,rT,xP⟩
theorem Da {fuel:Nat} {cs:List Value} {x:DataW H×List MemPlace} (h:DataW.trod enc Tryz.prog w 0 (λ_=>true) held fuel 25 cs=some x):∃ s p c xs,cs=[.bool s,.slice p xs.length c]/\eM w (.agg #[.bool s,.slice p xs.length c]) s xs:=by
 obtain⟨ys,n,rfl,rfl,hl,ju,hf⟩:=DataW.trod_struct Tryz.underlying25 h
 have xQ:cs.length=2:=by
  have c:Tryz.prog.cellsOf 25=2:=by kernel_rfl
  rw[c] at hl;exact hl
 have LL:ys.length=2:=ju
 obtain⟨a,b,rfl⟩:∃ a b,cs=[a,b]:=by
  exact Ar xQ
 obtain⟨y0,y1,rfl⟩:∃ a b,ys=[a,b]:=by
  exact Ar LL
 have c0:Tryz.prog.cellsOf 4=1:=by kernel_rfl
 have c1:Tryz.prog.cellsOf 23=1:=by kernel_rfl
 have h0:=hf 0 _ rfl
 have h1:=hf 1 _ rfl
 change DataW.trod enc Tryz.prog w 0 (λ_=>true) held n 4 (([a,b].drop 0).take (Tryz.prog.cellsOf 4))=some y0 at h0
 change DataW.trod enc Tryz.prog w 0 (λ_=>true) held n 23 (([a,b].drop 1).take (Tryz.prog.cellsOf 23))=some y1 at h1
 rw[c0] at h0
 rw[c1] at h1
 obtain⟨s,hs,_⟩:=DataW.trod_bool Tryz.underlying4 h0
 obtain⟨p,m,c,xs,hp,hr,hx⟩:=Ff h1
 simp only[List.drop_zero,List.take_succ_cons,List.take_zero,List.cons.injEq,and_true] at hs
 simp only[List.drop_succ_cons,List.drop_zero,List.take_succ_cons,List.take_zero,List.cons.injEq,and_true] at hp
 subst hs hp
 obtain⟨_,_,hv,_,_,ed⟩:=hr.u32
 subst ed
 exact⟨s,p,c,xs,rfl,p,c,rfl,hr,hx⟩
theorem LM {fuel:Nat} {cs:List Value} {x:DataW H×List MemPlace} (h:DataW.trod enc Tryz.prog w 0 (λ_=>true) held fuel 27 cs=some x):∃ s p n c t r m d xs ys,cs=[.bool s,.slice p n c,.bool t,.slice r m d]/\dJ w (.agg #[.bool s,.slice p n c,.bool t,.slice r m d]) s xs t ys:=by
 obtain⟨zs,n,rfl,rfl,hl,ju,hf⟩:=DataW.trod_struct Tryz.underlying27 h
 have xQ:cs.length=4:=by
  have c:Tryz.prog.cellsOf 27=4:=by kernel_rfl
  rw[c] at hl;exact hl
 have LL:zs.length=2:=ju
 obtain⟨a,b,a',b',rfl⟩:∃ a b a' b',cs=[a,b,a',b']:=by
  exact LK xQ
 obtain⟨y0,y1,rfl⟩:∃ a b,zs=[a,b]:=by
  exact Ar LL
 have c0:Tryz.prog.cellsOf 25=2:=by kernel_rfl
 have h0:=hf 0 _ rfl
 have h1:=hf 1 _ rfl
 change DataW.trod enc Tryz.prog w 0 (λ_=>true) held n 25 (([a,b,a',b'].drop 0).take (Tryz.prog.cellsOf 25))=some y0 at h0
 change DataW.trod enc Tryz.prog w 0 (λ_=>true) held n 25 (([a,b,a',b'].drop 2).take (Tryz.prog.cellsOf 25))=some y1 at h1
 rw[c0] at h0 h1
 obtain⟨s,p,c,xs,e0,n0⟩:=Da h0
 obtain⟨t,r,d,ys,e1,n1⟩:=Da h1
 simp only[List.drop_zero,List.take_succ_cons,List.take_zero,List.cons.injEq,and_true] at e0
 simp only[List.drop_succ_cons,List.drop_zero,List.take_succ_cons,List.take_zero,List.cons.injEq,and_true] at e1
 obtain⟨rfl,rfl⟩:=e0
 obtain⟨rfl,rfl⟩:=e1
 exact⟨_,_,_,_,_,_,_,_,xs,ys,rfl,_,_,_,_,rfl,n0,n1⟩
theorem Fg {α:Type} {p:Nat->α->Prop}:∀ (n:Nat),(∀ i,i<n->∃ q,p i q)->∃ qs:List α,qs.length=n/\∀ (i:Nat) (q:α),qs[i]? =some q->p i q
 | 0,_=>⟨[],rfl,λi q h=>by simp at h⟩
 | n+1,h=>by
   obtain⟨qs,hl,hq⟩:=Fg n (λi hi=>h i aa)
   obtain⟨q,hqn⟩:=h n aa
   refine⟨qs++[q],by simp[hl],λi x hx=> ?_⟩
   by_cases hi:i<n
   ·rw[List.getElem?_append_left aa] at hx
    exact hq i x hx
   ·rw[List.getElem?_append_right aa,hl] at hx
    have:i=n:=by
     have:=(List.getElem?_eq_some_iff.1 hx).1
     simp at this
     omega
    subst this
    simp at hx
    subst hx
    exact hqn
end
section
variable {H:Type} {enc:TypeId×Value->H} {w:World} {held:Bool}
set_option maxRecDepth 100000 in
theorem open_sl {α:Type} {E:World->List Value->α->Prop} {sz:Nat} {t e:TypeId} (hu:Tryz.prog.underlying t=some (.slice e)) (hc:Tryz.prog.cellsOf e=sz) (oH:0<sz)
  (gr:∀ {fuel:Nat} {cs:List Value} {x:DataW H×List MemPlace},DataW.trod enc Tryz.prog w 0 (λ_=>true) held fuel e cs=some x->∃ a,E w cs a)
  {v:Value} {d:DataW H} {ps:List MemPlace} {r:_root_.Go.Reach} {b0:Nat} (hv:Value.okWide Tryz.prog w r b0 t v) (h:DataW.Trod enc Tryz.prog w 0 (λ_=>true) held t v d ps):∃ es:List α,aO E sz w v es:=by
 obtain⟨p,len,cap,rfl⟩:=WideShapes.okWide_slice hu hv
 obtain⟨fuel,hf⟩:=h
 rcases DataW.trod_slice hu hf with ⟨e,_⟩|⟨a,len',cap',elems,rest,n,_,e,_,_,hl,hm,hle,uK,_⟩
 ·simp[Value.cells] at e
  obtain⟨rfl,rfl,rfl⟩:=e
  exact⟨[],aO.nil _ _ _⟩
 ·simp[Value.cells] at e
  obtain⟨rfl,rfl,rfl⟩:=e
  rw[hc] at uK
  have each:∀ i,i<len->∃ q,∃ b off cs,some a=some ⟨b,off,none⟩/\(∀ (j:Nat) (u:Value),cs[j]? =some u->w.cell? ⟨b,off+i*sz+j,none⟩=some u)/\E w cs q:=by
   intro i hi
   obtain⟨y,hy⟩:∃ y,elems[i]? =some y:=⟨_,List.getElem?_eq_getElem aa⟩
   have hb:=uK i hi
   rw[hy,Option.bind_eq_some_iff] at hb
   obtain⟨cs,hcs,ht⟩:=hb
   obtain⟨q,hq⟩:=gr ht
   obtain⟨_,hlen,hcell⟩:=World.cells?_some hcs
   obtain⟨b,off,spot⟩:=a
   have hspot:spot=none:=by
    obtain⟨y0,xE⟩:∃ y,elems[0]? =some y:=⟨_,List.getElem?_eq_getElem aa⟩
    have mB:=uK 0 aa
    rw[xE,Option.bind_eq_some_iff] at mB
    obtain⟨cs0,hcs0,ht0⟩:=mB
    obtain⟨_,hlen0,Fh⟩:=World.cells?_some hcs0
    have h00:=Fh 0 oH
    rw[List.getElem?_eq_getElem aa] at h00
    have g0:=World.cell?_spot h00
    simpa [Addr.add] using g0
   subst hspot
   refine⟨q,b,off,cs,rfl,λj u hj=> ?_,hq⟩
   have hjl:j<sz:=by have:=(List.getElem?_eq_some_iff.1 hj).1;omega
   have:=hcell j hjl
   rw[WideShapes.add_plain,WideShapes.add_plain] at this
   rw[this]
   exact hj
  obtain⟨qs,hql,hqs⟩:=Fg len each
  subst hql
  exact⟨qs,_,_,rfl,hl,hm,λi q hq=>hqs i q hq⟩
end
section
variable {C:Cx} {β:Nat->Nat} {F:Fr} {H:Hp} {a:Act} {w:World} {Q:Exit->Act->World->Prop} {k:List It}
end
theorem nJ {b:Nat} {ty:TypeId}:∀ (vs:List Value) (o:Nat) (w:World) (cur:Array Value),w.heap[b]? =some (Obj.cells cur ty (0,0))->∃ rh,(w.setCells b o vs).heap[b]? =some (Obj.cells rh ty (0,0))/\rh.size=cur.size
 | [],_,_,cur,h=>⟨cur,h,rfl⟩
 | v::r,o,w,cur,h=>by
   obtain⟨c,h1,h2⟩:=nJ r (o+1) (w.setCell ⟨b,o,none⟩ v) (cur.setIfInBounds o v) (aE.set (b:=b) (t:=ty) (cs:=cur) h v)
   exact⟨c,h1,by rw[h2];simp⟩
end
set_option maxRecDepth 4000
section
open Go.RowKit
attribute [local irreducible] ar VS
theorem dB.in {w:World} {v:Value} {q:Rat} {k:Nat} (h:dB w v q) (hs:gn q k):bE w v q k:=h.to hs
end
set_option maxRecDepth 4000
section
open Go.RowKit
end
section
open Go.RowKit
attribute [local irreducible] ar VS
end
section
open Go.RowKit
theorem Db {α:Type} {vs:List α} {i:Nat} {x:α} (h:vs[i]? =some x):vs=vs.take i++x::vs.drop (i+1)/\(vs.take i).length=i:=by
 obtain⟨hi,rfl⟩:=List.getElem?_eq_some_iff.1 h
 refine⟨?_,by rw[List.length_take];omega⟩
 rw[<-List.drop_eq_getElem_cons hi,List.take_append_drop]
theorem nK {α:Type}:∀ (vs:List (List α)) (sz:Nat),(∀ v∈vs,v.length=sz)->vs.flatten.length=vs.length*sz
 | [],_,_=>by simp
 | x::r,sz,h=>by
   rw[List.flatten_cons,List.length_append,nK r sz (λv hv=>h v (by simp[hv])),h x dU,List.length_cons,Nat.add_mul];omega
theorem LN {α:Type} (A C B N:List α) (o off:Nat) (ho:o+N.length<=C.length) (e:off=A.length+o):
  (A++(C++B)).take off++(N++(A++(C++B)).drop (off+N.length))=A++((C.take o++(N++C.drop (o+N.length)))++B):=by
 subst e
 rw[List.take_append,List.drop_append,List.take_of_length_le aa,List.drop_of_length_le aa,List.nil_append,show A.length+o-A.length=o by omega,show A.length+o+N.length-A.length=o+N.length by omega,
  List.take_append_of_le_length aa,List.drop_append_of_le_length aa]
 simp only[List.append_assoc]
theorem IQ {vs:List (List Value)} {sz:Nat} (hl:∀ v∈vs,v.length=sz) {i:Nat} {cs:List Value} (hv:vs[i]? =some cs) (o:Nat) (new:List Value) (ho:o+new.length<=sz) (spare:List AV) (off:Nat) (e:off=i*sz+o) (m:Nat) (hm:m=new.length):
  (vs.flatten.map AV.val++spare).take off++(new.map AV.val++(vs.flatten.map AV.val++spare).drop (off+m))=(vs.set i (cs.take o++(new++cs.drop (o+new.length)))).flatten.map AV.val++spare:=by
 subst hm
 obtain⟨h1,h2⟩:=Db hv
 have hc:=hl cs (List.mem_of_getElem? hv)
 have hA:((vs.take i).flatten.map AV.val).length=i*sz:=by
  rw[List.length_map,nK _ sz (λv hv=>hl v (List.mem_of_mem_take hv)),h2]
 have hset:vs.set i (cs.take o++(new++cs.drop (o+new.length)))=vs.take i++(cs.take o++(new++cs.drop (o+new.length)))::vs.drop (i+1):=by
  rw[List.set_eq_take_append_cons_drop,if_pos (List.getElem?_eq_some_iff.1 hv).1]
 have key:=LN ((vs.take i).flatten.map AV.val) (cs.map AV.val) ((vs.drop (i+1)).flatten.map AV.val++spare) (new.map AV.val) o off (by simpa [hc] using ho) (by rw[hA];exact e)
 have uu:vs.flatten.map AV.val++spare=(vs.take i).flatten.map AV.val++(cs.map AV.val++((vs.drop (i+1)).flatten.map AV.val++spare)):=by
  conv=>lhs;rw[h1]
  simp only[List.flatten_append,List.flatten_cons,List.map_append,List.append_assoc]
 rw[uu,hset]
 rw[List.length_map] at key
 rw[key]
 simp only[List.flatten_append,List.flatten_cons,List.map_append,List.append_assoc,List.map_take,List.map_drop]
section
variable {α:Type} {E:World->List Value->α->Prop} {sz:Nat} {w w':World} {es:List α} {vs:List (List Value)}
theorem Fi (hl:∀ v∈vs,v.length=sz) (spare:List AV) {i:Nat} {cs:List Value} (hv:vs[i]? =some cs) (o:Nat) (ds:List Value) (hd:ds <+:cs.drop o) (off:Nat) (e:off=i*sz+o):∀ (j:Nat) (u:AV),(ds.map AV.val)[j]? =some u->(vs.flatten.map AV.val++spare)[off+j]? =some u:=by
 intro j u hj
 obtain⟨h1,h2⟩:=Db hv
 obtain⟨t,ht⟩:=hd
 have hA:(vs.take i).flatten.length=i*sz:=by rw[nK _ sz (λv hv=>hl v (List.mem_of_mem_take hv)),h2]
 rw[List.getElem?_map] at hj
 obtain⟨x,hx,rfl⟩:=Option.map_eq_some_iff.1 hj
 have Jv:cs[o+j]? =some x:=by
  rw[<-List.getElem?_drop,<-ht,List.getElem?_append_left (List.getElem?_eq_some_iff.1 hx).1];exact hx
 have hlt:=(List.getElem?_eq_some_iff.1 Jv).1
 have uu:vs.flatten[off+j]? =some x:=by
  conv=>lhs;rw[h1]
  rw[List.flatten_append,List.flatten_cons,List.getElem?_append_right aa,hA,List.getElem?_append_left aa,show off+j-i*sz=o+j by omega]
  exact Jv
 rw[List.getElem?_append_left (by rw[List.length_map];exact (List.getElem?_eq_some_iff.1 uu).1),List.getElem?_map,uu]
 rfl
theorem dW.mono {E':World->List Value->α->Prop} (h:dW E w es vs) (hm:∀ cs a,E w cs a->E' w cs a):dW E' w es vs:=by
 induction h with
 | nil=>exact .nil
 | cons h1 _ ih=>exact .cons (hm _ _ h1) ih
end
end
section
open Go.RowKit
attribute [local irreducible] ar VS
theorem bQ {w:World} {b o:Nat} {u:Value} (h:w.cell? ⟨b,o,none⟩=some u):∀ j x,[u][j]? =some x->w.cell? ((⟨b,o,none⟩:Addr).add j)=some x:=by
 intro j x hj
 cases j with
 | zero=>cases hj;rw[Addr.add_mid,Nat.add_zero];exact h
 | succ j=>simp at hj
end
section
open Go.RowKit
attribute [local irreducible] ar VS
end
section
open Go.RowKit
attribute [local irreducible] ar VS
theorem Dc (q:Rat):wQ [q]=q:=by show 0+q=q;grind
end
set_option maxRecDepth 4000
section
open Go.RowKit
attribute [local irreducible] ar VS
end
section
open Go.RowKit
attribute [local irreducible] ar VS
theorem er {w:World} {b off i sz:Nat} {cs:List Value} (hc:∀ (j:Nat) (u:Value),cs[j]? =some u->w.cell? ⟨b,off+i*sz+j,none⟩=some u) (k:Nat) (ds:List Value) (hd:ds <+:cs.drop k):∀ (j:Nat) (u:Value),ds[j]? =some u->w.cell? ((⟨b,off+((i:Nat):Int).toNat*sz+k,none⟩:Addr).add j)=some u:=by
 intro j u hj
 obtain⟨t,ht⟩:=hd
 rw[Addr.add_mid,Int.toNat_natCast,Nat.add_assoc]
 refine hc (k+j) u ?_
 rw[<-List.getElem?_drop,<-ht,List.getElem?_append_left (List.getElem?_eq_some_iff.1 hj).1]
 exact hj
end
section
open Go.RowKit
attribute [local irreducible] ar VS
end
section
open Go.RowKit
attribute [local irreducible] ar VS
end
section
open Go.RowKit
attribute [local irreducible] ar VS
end
section
open Go.RowKit
def Hp.ads:Nat->List (TypeId×List AV)->Hp
 | _,[]=>λ_=>none
 | i,c::r=>λn=>bif Nat.beq n i then some c else Hp.ads (i+1) r n
theorem Hp.wZ:∀ (l:List (TypeId×List AV)) (i n:Nat),Hp.ads i l n=if i<=n then l[n-i]? else none
 | [],i,n=>by unfold Hp.ads;simp
 | c::r,i,n=>by
   unfold Hp.ads
   rw[Hp.wZ r (i+1) n]
   by_cases h:n=i
   ·subst h;simp
   ·have hb:Nat.beq n i=false:=by rw[<-Bool.not_eq_true,Nat.beq_eq];exact h
    rw[hb,cond_false]
    by_cases h1:i<=n
    ·rw[if_pos h1,if_pos aa,show n-i=(n-(i+1))+1 by omega];rfl
    ·rw[if_neg h1,if_neg aa]
def adB (N:Nat) (ad:List Nat):Nat->Nat:=λi=>ad.getD (i-2*N) 0
structure et (K:KC) (N:Nat) (ad:List Nat) (l:List (TypeId×List AV)) (w:World):Prop where
 len:ad.length=l.length
 nodup:ad.Nodup
 cls:∀ (j:Nat) (g:Nat) (c:TypeId×List AV),ad[j]? =some g->l[j]? =some c->aE w g c.1 (c.2.map (AV.leaf (adB N ad))).toArray
 ok:∀ c∈l,K.fz c.1=false/\c.2.all aJ=true
 ids:∀ c∈l,∀ k∈aH c.2,2*N<=k/\k<2*N+l.length
theorem et.ad {K:KC} {N:Nat} {ad:List Nat} {l:List (TypeId×List AV)} {w:World} (h:et K N ad l w):gm K ad w:=λg hg=>by
 obtain⟨j,hj⟩:=List.mem_iff_getElem?.1 hg
 have hlt:=(List.getElem?_eq_some_iff.1 hj).1
 obtain⟨c,hc⟩:∃ c,l[j]? =some c:=⟨_,List.getElem?_eq_getElem (by rw[<-h.len];exact hlt)⟩
 obtain⟨h1,h2⟩:=h.ok c (List.mem_of_getElem? hc)
 exact⟨c.1,_,h.cls j g c hj hc,h1,dZ h2⟩
theorem qe {P:Program} {w w':World} {N:Nat} {K:KC} {SU:TypeId->Bool} {ti:TypeId->Option TI} {keep:∀ b,b<w.heap.size->K.S b} {ad:List Nat} {hd:ad.Nodup} {ha:gm K ad w} {β:Nat->Nat} {i:Nat} {t:TypeId} {cs:List AV} (h:lQ (pQ P w N K SU ti keep ad hd ha) β w' i t cs) (j g:Nat) (hi:i=2*N+j) (hj:ad[j]? =some g):β i=g/\aE w' g t (cs.map (AV.leaf β)).toArray:=by
 have h1:fG N ad w i (β i):=h.new
 unfold fG at h1
 rw[if_pos aa,hi,Nat.add_sub_cancel_left,hj] at h1
 have h2:g=β i:=by rw[hi];simpa using h1
 exact⟨h2.symm,h2▸h.cls⟩
section
variable {C:Cx} {F:Fr} {H:Hp} {w:World} {m:Option (List FuncId)} {full:Array Oper} {K:Fr->Hp->World->Prop} {o:Oper} {r:List Oper} {Q:Exit->Act->World->Prop} {k:List It}
def sU (F:Fr) (β:Nat->Nat):List (Nat×AV)->Prop
 | []=>True
 | p::r=>(∃ u x,F p.1=some u/\u.aI β=x/\p.2=.val x)/\sU F β r
theorem sU.mem {β:Nat->Nat}:∀ {L:List (Nat×AV)} {d:Nat} {v:AV},sU F β L->(d,v)∈L->∃ u x,F d=some u/\u.aI β=x/\v=.val x
 | p::r,d,v,h,hm=>by
   rcases List.mem_cons.1 hm with rfl|hm
   ·exact h.1
   ·exact sU.mem h.2 hm
theorem VS.nL (D:World->Cx) (hP:∀ w,(D w).pd=C.pd) (hN:∀ w,(D w).N=C.N) (hO:∀ w,(D w).Old w)
  (h:∀ w' β,aF C.K w w'->C.Old w'->Ends C β H w'->∃ L:List (Nat×AV),sU F β L/\VS (D w') Q k (Fr.of L) (λ_=>none) w'):VS C Q k F H w:=λβ a w' hr hk=>by
 obtain⟨L,hL,hv⟩:=h w' β hk hr.old ⟨hr.own,hr.apart⟩
 have:=hv β a w' ⟨hr.defers.trans (congrArg Prod.snd (hP w')).symm,by rw[hN];exact hr.size,λd v hd=> ?_,λi t cs hi=>(by cases hi),λi j hi=>absurd rfl hi,λd v hd i hi=> ?_,λd v hd=> ?_,⟨λi t cs hi=>(by cases hi),λi t cs hi=>(by cases hi),λi hi=>rfl⟩,hO w'⟩ (aF.refl _ _)
 ·rw[show (D w').P=C.P from congrArg Prod.fst (hP w')] at this
  exact this
 ·obtain⟨u,x,h1,rfl,rfl⟩:=hL.mem (Fr.fe hd)
  exact hr.tmp d u h1
 ·obtain⟨u,x,h1,rfl,rfl⟩:=hL.mem (Fr.fe hd)
  cases hi
 ·obtain⟨u,x,h1,rfl,rfl⟩:=hL.mem (Fr.fe hd)
  rw[hN];exact hr.fits d u h1
end
end
section
open Go.RowKit
attribute [local irreducible] ar VS
section
variable {F F':Fr} {H H':Hp} {w w1:World} {N:Nat} {l':List Oper} {Q:Exit->Act->World->Prop} {k:List It} {id:Nat} {ops:Array Oper}
end
theorem LO (q:Rat):rq (decide (q.num<0)) (limbs q.num.natAbs) (decide ((q.den:Int)<0)) (limbs (q.den:Int).natAbs)=q:=by
 unfold rq;rw[iC,iC,zc]
end
section
open Go.RowKit
abbrev Kls:=Nat×Rat
set_option maxRecDepth 4000
def ElB {α:Type} (E:World->List Value->α->Prop):Prop:=∀ {w w':World} {cs:List Value} {a:α},E w cs a->ak w w'->E w' cs a
theorem gp.b {α:Type} {E:World->List Value->α->Prop} {sz:Nat} (h:gp E sz):ElB E:=λhE hb=>h.kp hE (Kp.of hb)
theorem aO.cP {α:Type} {E:World->List Value->α->Prop} {sz:Nat} {w w':World} {v:Value} {es:List α} (hE:ElB E) (h:aO E sz w v es) (hb:ak w w'):aO E sz w' v es:=by
 obtain⟨p,c,hv,h1,h2,h3⟩:=h
 refine⟨p,c,hv,h1,h2,λi q hq=> ?_⟩
 obtain⟨b,off,cs,hp,hc,hr⟩:=h3 i q hq
 exact⟨b,off,cs,hp,λj u hj=>hb.cell (hc j u hj),hE hr hb⟩
def sV (kk:Nat) (w:World) (cs:List Value) (q:Rat):Prop:=∃ s p n c t y m d,cs=[.bool s,.slice p n c,.bool t,.slice y m d]/\bE w (.agg #[.bool s,.slice p n c,.bool t,.slice y m d]) q kk
theorem xc (kk:Nat):gp (sV kk) 4 where
 kp:=λh k=>by
  obtain⟨s,p,n,c,t,y,m,d,hv,h2⟩:=h
  exact⟨_,_,_,_,_,_,_,_,hv,h2.kp k⟩
 len:=λh=>by
  obtain⟨s,p,n,c,t,y,m,d,rfl,_⟩:=h
  rfl
 ok:=λh=>by
  obtain⟨s,p,n,c,t,y,m,d,rfl,_⟩:=h
  rfl
def cM (kk:Nat) (w:World) (cs:List Value) (r:List Rat):Prop:=∃ v,cs=[v]/\aO (sV kk) 4 w v r
def yg (kk:Nat) (w:World) (cs:List Value) (t:List (List Rat)):Prop:=∃ v,cs=[v]/\aO (cM kk) 1 w v t
theorem bG (kk:Nat):ElB (cM kk):=λh hb=>by
 obtain⟨v,hv,h1⟩:=h
 exact⟨v,hv,h1.cP (xc kk).b hb⟩
theorem xd (kk:Nat):ElB (yg kk):=λh hb=>by
 obtain⟨v,hv,h1⟩:=h
 exact⟨v,hv,h1.cP (bG kk) hb⟩
theorem aO.sl {α:Type} {E:World->List Value->α->Prop} {sz:Nat} {w:World} {v:Value} {es:List α} (h:aO E sz w v es):∃ p c,v=.slice p es.length c:=by
 obtain⟨p,c,hv,_⟩:=h
 exact⟨p,c,hv⟩
attribute [local irreducible] ar VS
end
set_option maxRecDepth 4000
section
open Go.RowKit
attribute [local irreducible] ar VS
def fH {α:Type} (E:World->List Value->α->Prop) (sz:Nat) (t:TypeId) (i:Nat) (X:AV) (M:List (Nat×(TypeId×List AV))) (w:World) (es:List α):Prop:=
 (es=[]/\X=.val (.slice none 0 0)/\M=[])\/∃ n c vs sp,X=.row i 0 n c/\M=[(i,(t,vs.flatten.map .val++sp))]/\dE E sz w n c vs sp es
theorem fH.kp {α:Type} {E:World->List Value->α->Prop} {sz:Nat} {t:TypeId} {i:Nat} {X:AV} {M:List (Nat×(TypeId×List AV))} {w w':World} {es:List α} (hE:gp E sz) (h:fH E sz t i X M w es) (k:Kp UU w w'):fH E sz t i X M w' es:=by
 rcases h with h|⟨n,c,vs,sp,h1,h2,h3⟩
 ·exact .inl h
 ·exact .inr ⟨n,c,vs,sp,h1,h2,h3.kp hE k⟩
def Hp.mask (l:List Nat) (H:Hp):Hp:=λi=>bif l.any (Nat.beq i) then none else H i
def zk (H:Hp):List Nat->Prop
 | []=>True
 | i::r=>H i=none/\zk H r
theorem zk.eq {H:Hp}:∀ {l:List Nat},zk H l->∀ i,l.any (Nat.beq i)=true->H i=none
 | [],_,i,h=>by cases h
 | j::r,hn,i,h=>by
   rw[List.any_cons,Bool.or_eq_true] at h
   rcases h with h|h
   ·rw[Nat.eq_of_beq_eq_true h];exact hn.1
   ·exact zk.eq hn.2 i h
theorem Hp.mask_eq {H:Hp} {l:List Nat} (h:zk H l):Hp.mask l H=H:=by
 funext i
 unfold Hp.mask
 cases hb:l.any (Nat.beq i) with
 | true=>exact (h.eq i hb).symm
 | false=>rfl
theorem VS.mask {C:Cx} {Q:Exit->Act->World->Prop} {F:Fr} {H:Hp} {w:World} {stk:List It} (l:List Nat) (h:zk H l) (k:VS C Q stk F (Hp.mask l H) w):VS C Q stk F H w:=by rw[Hp.mask_eq h] at k;exact k
section
variable {C:Cx} {β:Nat->Nat} {H:Hp} {w w1:World} {ids:List Nat} {X:AV} {M:List (Nat×(TypeId×List AV))}
end
def mJ (kk:Nat) (w:World) (cs:List Value) (q:Rat):Prop:=∃ s p n c t y m d,cs=[.bool s,.slice p n c,.bool t,.slice y m d]/\dB w (.agg #[.bool s,.slice p n c,.bool t,.slice y m d]) q/\gn q kk
theorem ba (kk:Nat):gp (mJ kk) 4 where
 kp:=λh k=>by
  obtain⟨s,p,n,c,t,y,m,d,hv,h1,h2⟩:=h
  exact⟨_,_,_,_,_,_,_,_,hv,h1.kp k,h2⟩
 len:=λh=>by
  obtain⟨s,p,n,c,t,y,m,d,rfl,_⟩:=h
  rfl
 ok:=λh=>by
  obtain⟨s,p,n,c,t,y,m,d,rfl,_⟩:=h
  rfl
theorem mJ.mk {kk:Nat} {w:World} {s t:Bool} {p y:Option Addr} {n c m d:Nat} {q:Rat} (h:dB w (.agg #[.bool s,.slice p n c,.bool t,.slice y m d]) q) (hs:gn q kk):mJ kk w [.bool s,.slice p n c,.bool t,.slice y m d] q:=⟨_,_,_,_,_,_,_,_,rfl,h,hs⟩
set_option maxRecDepth 4000
section
variable {F F':Fr} {H H':Hp} {w w1:World} {N:Nat} {l':List Oper} {Q:Exit->Act->World->Prop} {k:List It} {id:Nat} {ops:Array Oper}
end
theorem sV.mk {kk:Nat} {w:World} {s t:Bool} {p y:Option Addr} {n c m d:Nat} {q:Rat} (h:bE w (.agg #[.bool s,.slice p n c,.bool t,.slice y m d]) q kk):sV kk w [.bool s,.slice p n c,.bool t,.slice y m d] q:=⟨_,_,_,_,_,_,_,_,rfl,h⟩
set_option maxRecDepth 4000
theorem mJ.tot {kk:Nat} {w:World} {cs:List Value} {q:Rat} (h:mJ kk w cs q):sV kk w cs q:=by
 obtain⟨s,p,n,c,t,y,m,d,rfl,h1,h2⟩:=h
 exact .mk (h1.to h2)
end
section
open Go.RowKit
abbrev nM:Nat:=9223372036854775807
section
variable {H:Type} {enc:TypeId×Value->H} {w:World} {held:Bool}
end
section
variable {H:Type} {enc:TypeId×Value->H} {w:World} {held:Bool}
set_option maxRecDepth 100000 in
theorem Dd {α:Type} {E:World->List Value->α->Prop} {sz:Nat} {t e:TypeId} (hu:Tryz.prog.underlying t=some (.slice e)) (hc:Tryz.prog.cellsOf e=sz) (oH:0<sz)
  (gr:∀ {fuel:Nat} {cs:List Value} {x:DataW H×List MemPlace},DataW.trod enc Tryz.prog w 0 (λ_=>true) held fuel e cs=some x->∃ a,E w cs a)
  {fuel:Nat} {cs:List Value} {x:DataW H×List MemPlace} (hf:DataW.trod enc Tryz.prog w 0 (λ_=>true) held fuel t cs=some x):∃ (p:Option Addr) (n c:Nat) (es:List α),cs=[.slice p n c]/\aO E sz w (.slice p n c) es:=by
 rcases DataW.trod_slice hu hf with ⟨e,_⟩|⟨a,len',cap',elems,rest,n,_,e,_,_,hl,hm,hle,uK,_⟩
 ·exact⟨none,0,0,[],e,aO.nil _ _ _⟩
 ·refine⟨some a,len',cap',?_⟩
  rw[hc] at uK
  have each:∀ i,i<len'->∃ q,∃ b off cs,some a=some ⟨b,off,none⟩/\(∀ (j:Nat) (u:Value),cs[j]? =some u->w.cell? ⟨b,off+i*sz+j,none⟩=some u)/\E w cs q:=by
   intro i hi
   obtain⟨y,hy⟩:∃ y,elems[i]? =some y:=⟨_,List.getElem?_eq_getElem aa⟩
   have hb:=uK i hi
   rw[hy,Option.bind_eq_some_iff] at hb
   obtain⟨cs,hcs,ht⟩:=hb
   obtain⟨q,hq⟩:=gr ht
   obtain⟨_,hlen,hcell⟩:=World.cells?_some hcs
   obtain⟨b,off,spot⟩:=a
   have hspot:spot=none:=by
    obtain⟨y0,xE⟩:∃ y,elems[0]? =some y:=⟨_,List.getElem?_eq_getElem aa⟩
    have mB:=uK 0 aa
    rw[xE,Option.bind_eq_some_iff] at mB
    obtain⟨cs0,hcs0,ht0⟩:=mB
    obtain⟨_,hlen0,Fh⟩:=World.cells?_some hcs0
    have h00:=Fh 0 oH
    rw[List.getElem?_eq_getElem aa] at h00
    have g0:=World.cell?_spot h00
    simpa [Addr.add] using g0
   subst hspot
   refine⟨q,b,off,cs,rfl,λj u hj=> ?_,hq⟩
   have hjl:j<sz:=by have:=(List.getElem?_eq_some_iff.1 hj).1;omega
   have:=hcell j hjl
   rw[WideShapes.add_plain,WideShapes.add_plain] at this
   rw[this]
   exact hj
  obtain⟨qs,hql,hqs⟩:=Fg len' each
  subst hql
  exact⟨qs,e,_,_,rfl,hl,hm,λi q hq=>hqs i q hq⟩
end
end
set_option maxRecDepth 4000
section
open Go.RowKit
attribute [local irreducible] ar VS
theorem VS.hop {C:Cx} {Q:Exit->Act->World->Prop} {F:Fr} {H:Hp} {w:World} {P:Fr->Hp->World->Prop} {stk0 stk1:List It} (h1:(∀ F' H' w',P F' H' w'->VS C Q stk1 F' H' w')->VS C Q stk0 F H w) (h2:∀ F' H' w',P F' H' w'->VS C Q stk1 F' H' w'):VS C Q stk0 F H w:=h1 h2
theorem ax {w:World} {b off z:Nat} {v:Value} (hc:∀ (j:Nat) (u:Value),[v][j]? =some u->w.cell? ⟨b,off+z*1+j,none⟩=some u):∀ (j:Nat) (u:Value),[v][j]? =some u->w.cell? ((⟨b,off+((z:Nat):Int).toNat*1,none⟩:Addr).add j)=some u:=λj u hj=>by rw[Addr.add_mid,Int.toNat_natCast];exact hc j u hj
set_option maxRecDepth 4000
theorem has_any (v:Value) (t:List (List Rat)) (xs:List Rat) (e c:Nat) (kk:Nat) (w:World) (hv:aO (cM kk) 1 w v t) (hx:t[e]? =some xs) (hc:c<xs.length):
  Calls Tryz.prog 63 #[.agg #[v],.agg #[.int .i64 (e:Int),.int .i64 (c:Int)]] w λo w'=>o=.returned (.bool true)/\ak w w':=by
 obtain⟨p,cp,rfl⟩:=hv.sl
 have gr:e<t.length:=(List.getElem?_eq_some_iff.1 hx).1
 obtain⟨b,off,Jx,rfl,hcc,⟨xv,rfl,xP⟩⟩:=hv.at hx
 obtain⟨p3,c3,rfl⟩:=xP.sl
 refine af (C:=aW Tryz.prog w _) (args:=[_,_]) Tryz.func63 rfl Tryz.ntmps63 (bP rfl) ?_
 refine ae ?_
 refine VO.fix 8 rfl (congrArg (λb=>AV.val (.bool b)) (decide_eq_true (show (e:Int)>=0 by omega))) ?_
 refine ae ?_
 refine VO.fix 16 rfl (congrArg (λb=>AV.val (.bool b)) (decide_eq_true (show (e:Int)<(t.length:Int) by omega))) ?_
 refine ae ?_
 refine VO.fix 21 rfl (congrArg (λb=>AV.val (.bool b)) (decide_eq_true (show (c:Int)>=0 by omega))) ?_
 refine ae ?_
 refine VO.cond rfl dc (wV rfl ?_)
 refine ae ?_
 refine VO.read rfl [.slice p3 xs.length c3] rfl (ax hcc) (wV rfl ?_)
 refine ae ?_
 refine aX ?_;intro wz kz bz
 exact⟨congrArg (λb=>Ending.returned (.bool b)) (decide_eq_true (show (c:Int)<(xs.length:Int) by omega)),bz⟩
theorem at_any (v:Value) (t:List (List Rat)) (xs:List Rat) (x:Rat) (e c:Nat) (kk:Nat) (w:World) (hv:aO (cM kk) 1 w v t) (hx:t[e]? =some xs) (hc:xs[c]? =some x) (hk:kk<=1000):
  Calls Tryz.prog 30 #[.agg #[v],.int .i64 (e:Int),.int .i64 (c:Int)] w λo w'=>∃ r,o=.returned r/\bh w' w.heap.size r x/\ak w w':=by
 obtain⟨p,cp,rfl⟩:=hv.sl
 have gr:e<t.length:=(List.getElem?_eq_some_iff.1 hx).1
 have gU:c<xs.length:=(List.getElem?_eq_some_iff.1 hc).1
 refine af (C:=aW Tryz.prog w _) (args:=[_,_,_]) Tryz.func30 rfl Tryz.ntmps30 (bP rfl) ?_
 refine ae ?_
 refine VO.cB rfl rfl (fk Tryz.func63) (λbo cj bD=>has_any _ t xs e c kk bo (hv.cP (bG kk) bD) hx gU) (λbo cj bD w1 aL dh _ bb1=>wV rfl ?_)
 refine ae ?_
 obtain⟨b,off,Jx,rfl,hcc,⟨xv,rfl,xP⟩⟩:=hv.at hx
 obtain⟨b2,rj,csx2,hp3,nG,⟨s,pp,n,cx,tt,y,mm,d,rfl,hrt⟩⟩:∃ b off cs,xv=.slice (some ⟨b,off,none⟩) xs.length (match xv with | .slice _ _ c=>c|_=>0)/\(∀ (j:Nat) (u:Value),cs[j]? =some u->w.cell? ⟨b,off+c*4+j,none⟩=some u)/\sV kk w cs x:=by
  obtain⟨p3,c3,rfl⟩:=xP.sl
  obtain⟨b2,rj,cs2,rfl,h1,h2⟩:=xP.at hc
  exact⟨b2,rj,cs2,rfl,h1,h2⟩
 rw[hp3] at hcc
 generalize (match xv with | .slice _ _ c=>c|_=>0)=c3 at hcc hp3
 refine VO.cond rfl dc (wV rfl ?_)
 refine VO.read rfl [.slice (some ⟨b2,rj,none⟩) xs.length c3] rfl (ax hcc) (wV rfl ?_)
 refine ae ?_
 refine VO.cond rfl dc (wV rfl ?_)
 refine VO.read rfl [.bool s,.slice pp n cx,.bool tt,.slice y mm d] rfl (er nG 0 _ ⟨[],rfl⟩) (wV rfl ?_)
 refine ae ?_
 refine VO.wq rfl (fk Tryz.func39) (λcA β dG cV ho=>((wR _ [x] kk cA (zh (ho.own 22 (.base (List.mem_singleton.2 rfl)) _ _ rfl) [] (vs:=[[.bool s,.slice pp n cx,.bool tt,.slice y mm d]]) (by rfl) rfl (iU.cons (hrt.kp (Kp.of (U:=UU) cV)) iU.nil) (bP rfl) bZ) (by unfold fS jm;simp;omega)).mono (λo w2 h=>And.intro h cV.size)).mono ?_)
 rintro o w2 ⟨⟨r2,rfl,q2,-,aY⟩,hsz2⟩
 rw[Dc] at q2
 obtain⟨s2,p2,n2,c2,t2,y2,m2,d2,rfl⟩:=q2.form
 refine bA aY ?_
 intro eU _ bb2
 refine aX ?_;intro wz kz bz
 exact⟨_,rfl,(q2.kp kz).mono hsz2,bz⟩
end
section
open Go.RowKit
def cS (o:Oper):Bool:=match o.op with | .defer _=>false|_=>true
def cw (F:Fence):Prop:=F=Fence.wide\/∃ l,F=Fence.wide.inRound l
theorem cw.wide:cw Fence.wide:=.inl rfl
theorem cw.round (l:Nat):cw (Fence.wide.inRound l):=.inr ⟨l,rfl⟩
section
variable {Fe:Fence} {n:Nat} {P:Program} {o:Oper} {a:Act} {w:World} {K:Act->World->Prop} {Q:Exit->Act->World->Prop}
theorem cw.fn (h:cw Fe) (f:FuncId):Fe.fn f:=by rcases h with rfl|⟨l,rfl⟩ <;> trivial
theorem cw.depth (h:cw Fe):Fe.depth=none:=by rcases h with rfl|⟨l,rfl⟩ <;> rfl
theorem cw.calls (h:cw Fe) {f:FuncId} {args:Array Value} {R:Ending->World->Prop} (hc:Calls P f args w R):CallsIn Fe n P f args w R:=by
 have:=(callsIn_wide (n:=n)).2 hc
 rcases h with rfl|⟨l,rfl⟩
 ·exact this
 ·exact this
theorem cw.rows (h:cw Fe) {r:String} {args:Array Value} {R:Value->World->Prop} (hc:Rows P r args w R):RowsIn Fe n P r args w R:=by
 have:RowsIn Fence.wide n P r args w R:=λc cs _=>let ⟨v,w',r,s⟩:=hc c cs;⟨v,w',r,stepsIn_wide.2 s⟩
 rcases h with rfl|⟨l,rfl⟩
 ·exact this
 ·exact this
theorem cw.upon (h:cw Fe) {r:Result Next} (hu:o.upon P a K Q r):o.uponIn Fe n P a K Q r:=by
 have hd:Fe.depth.isSome=true->1<=n:=λe=>by rw[h.depth] at e;cases e
 cases r with
 | ok x w'=>
   cases x with
   | value v=>exact hu
   | skip=>exact hu
   | defer d=>exact hu
   | enter f args=>exact⟨hd,h.calls hu⟩
   | row r args=>exact⟨hd,h.rows hu⟩
   | round l f tmps assign body=>exact hu.elim
   | _=>exact hu.elim
 | halt x w'=>
   cases x with
   | panic v=>exact hu
   | _=>exact hu.elim
theorem cw.sem (h:cw Fe) (hd:cS o=true):o.semAt Fe.round a.eval=execOp a.eval o:=by
 rcases h with rfl|⟨l,rfl⟩
 ·rfl
 ·exact Oper.semAt_some l _ _ λc e=>by unfold cS at hd;rw[e] at hd;cases hd
theorem cw.op (h:cw Fe) (hd:cS o=true) (hw:o.wp P a w K Q):o.wpIn Fe n P a w K Q:=by
 refine⟨λf _=>h.fn f,?_⟩
 rw[h.sem hd]
 exact h.upon hw
theorem cw.opAt (h:cw Fe) {ops:Array Oper} (De:¬ LetsOut Q) (hd:ops.toList.all cS=true) {i:Nat} (hw:wpOp P ops Q i K a w):wpOpIn Fe n P ops Q i K a w:=by
 unfold wpOp at hw
 unfold wpOpIn
 cases ho:ops[i]? with
 | none=>rw[ho] at hw;exact hw
 | some o=>
   rw[ho] at hw
   simp only at hw ⊢
   have hd':cS o=true:=List.all_eq_true.1 hd o (by rw[<-Array.getElem?_toList] at ho;exact List.mem_of_getElem? ho)
   split at hw
   ·rename_i h1;rw[if_pos h1];exact h.op hd' (hw.resolve_right λe=>De e.2)
   ·rename_i h1;rw[if_neg h1];exact⟨λf _=>h.fn f,hw⟩
theorem cw.any (h:cw Fe) {md:Region.Mode} {ops:Array Oper} (De:¬ LetsOut Q) (hd:ops.toList.all cS=true):∀ (fuel:Nat) (listed:Array Bool) (a:Act) (w:World),wpAny P md ops Q fuel listed a w->wpAnyIn Fe n P md ops Q fuel listed a w
 | 0,_,_,_,hw=>hw
 | fuel+1,listed,a,w,hw=>⟨hw.1,λi hi=>wpOpIn_mono (λa w hh=>cw.any h De hd fuel _ a w hh) (h.opAt De hd (hw.2 i hi))⟩
end
section
variable {Fe:Fence} {n:Nat} {C:Cx} {Q:Exit->Act->World->Prop} {ml:List FuncId} {full:Array Oper}
theorem gh (hB:cw Fe) (hC:C.Ok) {m:Option (List FuncId)} {K:Fr->Hp->World->Prop} {tl:List Oper} (hQ:∀ β F H w a w',K F H w->Rel C β F H a w'->aF C.K w w'->wpListIn Fe n C.P full Q tl a w'):
  ∀ (l:List Oper),l.all cS=true->∀ (β:Nat->Nat) (F:Fr) (H:Hp) (w:World) (a:Act) (w':World),ar C m full l K F H w->Rel C β F H a w'->aF C.K w w'->wpListIn Fe n C.P full Q (l++tl) a w'
 | [],_,β,F,H,w,a,w',h,hr,hk=>hQ β F H w a w' h hr hk
 | o::r,hd,β,F,H,w,a,w',h,hr,hk=>by
   rw[List.all_cons,Bool.and_eq_true] at hd
   show wpListIn Fe n C.P full Q (o::(r++tl)) a w'
   refine wpListIn_step λK' hK'=> ?_
   have:=ld hC (next:=K') (Q:=Q) (k:=ar C m full r K) h hr hk λbu F' H' w1 a' dp h1 h2 h3=>hK' _ _ (gh hB hC hQ r hd.2 bu F' H' w1 a' dp h1 h2 h3)
   split at this
   ·rename_i hw;rw[if_pos hw];exact hB.op hd.1 this
   ·rename_i hw;rw[if_neg hw];exact⟨λf _=>hB.fn f,this⟩
theorem LP (hB:cw Fe) (De:¬ LetsOut Q) (hC:C.Ok) (hm:C.P.follows .mixedOrders=true) (jh:ij C.SU ml full=true) (hd:full.toList.all cS=true) {K:Fr->Hp->World->Prop} (hQ:∀ β F H w a w',K F H w->Rel C β F H a w'->aF C.K w w'->Q .normal a w')
  {id:Nat} {β:Nat->Nat} {F:Fr} {H:Hp} {w:World} {a:Act} {w':World} (h:ar C (some ml) full full.toList K F H w) (hr:Rel C β F H a w') (hk:aF C.K w w'):(Code.region id full true).wpIn Fe n C.P Q a w':=by
 refine wpIn_region_any hm (hB.any De hd _ _ _ _ ?_)
 refine yQ hC jh hQ full.size (Array.replicate full.size false) (List.range full.size) β F H w a w'.drew dU List.pairwise_lt_range ?_ dU ?_ ?_ hr.drew hk.drew
 ·intro x
  rw[List.mem_range]
  constructor
  ·intro hx
   refine⟨hx,?_⟩
   simp[Array.getD_eq_getD_getElem?,Array.getElem?_replicate,hx]
  ·exact λh=>h.1
 ·intro j hj hl
  simp[Array.getD_eq_getD_getElem?,Array.getElem?_replicate,hj] at hl
 ·have:(List.range full.size).filterMap (full[·]?)=full.toList:=by
   rw[List.range_eq_range',<-Array.length_toList]
   exact sH full.toList 0 (λj=>by simp)
  rw[this]
  exact h
end
def rk (Fe:Fence) (P:Program) (Q:Exit->Act->World->Prop):List It->Exit->Act->World->Prop
 | []=>Q
 | .code c::k=>Exit.then (λa w=>c.wpIn Fe 0 P (rk Fe P Q k) a w) (rk Fe P Q k)
 | .du id::k=>Exit.inBlock id (rk Fe P Q k)
 | .back _::k=>rk Fe P Q k
 | .scope::k=>rk Fe P Q k
def fB (Fe:Fence) (C:Cx) (Q:Exit->Act->World->Prop) (stk:List It) (F:Fr) (H:Hp) (w:World):Prop:=
 ∀ β a w',Rel C β F H a w'->aF C.K w w'->rk Fe C.P Q stk .normal a w'
section
variable {Fe:Fence} {C:Cx} {Q:Exit->Act->World->Prop} {k:List It} {F F':Fr} {H H':Hp} {w:World} {id:Nat} {ops:Array Oper} {l':List Oper}
theorem fB.seq {x y:Code} (h:fB Fe C Q (.code x::.code y::k) F H w):fB Fe C Q (.code (.seq x y)::k) F H w:=λβ a w' hr hk=>wpIn_seq (h β a w' hr hk)
theorem fB.block {c:Code} (h:fB Fe C Q (.code c::.du id::k) F H w):fB Fe C Q (.code (.block id c)::k) F H w:=λβ a w' hr hk=>wpIn_block (h β a w' hr hk)
theorem fB.du (h:fB Fe C Q k F H w):fB Fe C Q (.du id::k) F H w:=λβ a w' hr hk=>h β a w' hr hk
theorem fB.region (hB:cw Fe) (hC:C.Ok) (hd:ops.toList.all cS=true) (e:gl C ops 80 ops.toList F H=(l',F',H')) (h:ar C none ops l' (fB Fe C Q k) F' H' w):fB Fe C Q (.code (.region id ops false)::k) F H w:=λβ a w' hr hk=>by
 refine wpIn_region_list ?_
 rw[<-List.append_nil ops.toList]
 exact gh hB hC (tl:=[]) (λβ F H w a w' h hr hk=>h β a w' hr hk) ops.toList hd β F H w a w' (VO.run 80 e h) hr hk
theorem fB.draw (hB:cw Fe) (De:¬ LetsOut (rk Fe C.P Q k)) (hC:C.Ok) (hm:C.P.follows .mixedOrders=true) (hd:ops.toList.all cS=true) (e:gl C ops 80 ops.toList F H=(l',F',H')) (h:ar C (some []) ops l' (fB Fe C Q k) F' H' w) (jh:ij C.SU [] ops=true:=by kernel_rfl):fB Fe C Q (.code (.region id ops true)::k) F H w:=λβ a w' hr hk=>
 LP hB De hC hm jh hd (λβ F H w a w' h hr hk=>h β a w' hr hk) (VO.run 80 e h) hr hk
theorem fB.start {β:Nat->Nat} {a:Act} {w':World} {c:Code} (h:fB Fe C Q [.code c] F H w) (hr:Rel C β F H a w') (hk:aF C.K w w'):c.wpIn Fe 0 C.P Q a w':=h β a w' hr hk
theorem fB.done (h:∀ β a w',Rel C β F H a w'->aF C.K w w'->Q .normal a w'):fB Fe C Q [] F H w:=h
end
def Fr.vals (L:List (Nat×Value)):Fr:=Fr.of (L.map λp=>(p.1,.val p.2))
def Au (F:Fr):List (Nat×Value)->Prop
 | []=>True
 | p::r=>F p.1=some (.val p.2)/\Au F r
theorem Au.mem {F:Fr}:∀ {L:List (Nat×Value)} {p:Nat×Value},Au F L->p∈L->F p.1=some (.val p.2)
 | q::r,p,h,hm=>by
   rcases List.mem_cons.1 hm with rfl|hm
   ·exact h.1
   ·exact Au.mem h.2 hm
theorem rn {L:List (Nat×Value)} {d:Nat} {v:AV} (h:Fr.vals L d=some v):∃ u,v=.val u/\(d,u)∈L:=by
 have:=Fr.fe h
 obtain⟨p,hp,e⟩:=List.mem_map.1 this
 cases e
 exact⟨p.2,rfl,hp⟩
structure Knows (N:Nat) (L:List (Nat×Value)) (a:Act) (ds:List Deferred:=[]):Prop where
 defers:a.defers=ds
 size:a.tmps.size=N
 tmp:∀ p∈L,p.1<N/\a.tmps.getD p.1 undef=p.2
theorem Knows.rel {C:Cx} {L:List (Nat×Value)} {a:Act} {w:World} (h:Knows C.N L a C.ds) (ho:C.Old w):Rel C (λ_=>0) (Fr.vals L) (λ_=>none) a w:=
 ⟨h.defers,h.size,λd v hd=>by obtain⟨u,rfl,hm⟩:=rn hd;exact (h.tmp _ hm).2,λi t cs hi=>(by cases hi),λi j hi=>absurd rfl hi,λd v hd i hi=>(by obtain⟨u,rfl,hm⟩:=rn hd;cases hi),λd v hd=>(by obtain⟨u,rfl,hm⟩:=rn hd;exact (h.tmp _ hm).1),⟨λi t cs hi=>(by cases hi),λi t cs hi=>(by cases hi),λi hi=>rfl⟩,ho⟩
theorem Rel.knows {C:Cx} {β:Nat->Nat} {F:Fr} {H:Hp} {a:Act} {w:World} {L:List (Nat×Value)} (hr:Rel C β F H a w) (hL:Au F L):Knows C.N L a C.ds:=
 ⟨hr.defers,hr.size,λp hp=>⟨hr.fits _ _ (hL.mem hp),hr.tmp _ _ (hL.mem hp)⟩⟩
def zl (N:Nat) (J:Nat->List (Nat×Value)->World->Prop) (n:Nat) (a:Act) (w:World) (ds:List Deferred:=[]):Prop:=∃ L,J n L w/\Knows N L a ds
section
variable {C:Cx} {Q:Exit->Act->World->Prop} {k:List It} {F:Fr} {H:Hp} {w:World} {J:Nat->List (Nat×Value)->World->Prop}
theorem VS.loopR (D:World->Cx) (hP:∀ w,(D w).pd=C.pd) (hN:∀ w,(D w).N=C.N) (hO:∀ w,(D w).Old w) (n0:Nat) {body:Code} (h0:∀ w',aF C.K w w'->C.Old w'->∃ L,Au F L/\J n0 L w')
  (round:∀ n L W,J n L W->VS (D W) Q (.code body::.back (λa w=>∃ m,m<n/\zl C.N J m a w C.ds)::k) (Fr.vals L) (λ_=>none) W):VS C Q (.code (.loop body)::k) F H w:=λβ a w' hr hk=>by
 obtain⟨L,h1,h2⟩:=h0 w' hk hr.old
 refine wp_loop_ghost (λn a w=>zl C.N J n a w C.ds) n0 ⟨L,h2,hr.knows h1⟩ ?_
 rintro n a1 w1 ⟨L1,hJ,hkn⟩
 have EH:Knows (D w1).N L1 a1 (D w1).ds:=by rw[hN,show (D w1).ds=C.ds from congrArg Prod.snd (hP w1)];exact hkn
 have:=round n L1 w1 hJ _ a1 w1 (EH.rel (hO w1)) (aF.refl _ _)
 rw[show (D w1).P=C.P from congrArg Prod.fst (hP w1)] at this
 exact this
theorem VS.backR {ds:List Deferred} {n N:Nat} (hN:C.N=N) (m:Nat) (hm:m<n) (L:List (Nat×Value)) (hL:Au F L) (h:∀ w',aF C.K w w'->C.Old w'->J m L w') (kQ:C.ds=ds:=by rfl):VS C Q (.back (λa w=>∃ m,m<n/\zl N J m a w ds)::k) F H w:=λβ a w' hr hk=>by
 subst hN
 subst kQ
 exact⟨m,hm,L,h w' hk hr.old,hr.knows hL⟩
theorem VS.endA (hC:C.Ok) {fn:Func} {R:Ending->World->Prop} {vs:List AV} (h:gX C F H fn.results.toList=some vs) (hR:∀ w' β,aF C.K w w'->C.Old w'->Ends C β H w'->R (.returned (ir (vs.map (AV.aI β)))) w') (kQ:C.ds=[]:=by rfl):VS C (bodyPost C.P fn R) [] F H w:=
 λβ a w' hr hk=>⟨hr.defers.trans kQ,_,nw hC hr h,hR w' β hk hr.old ⟨hr.own,hr.apart⟩⟩
end
theorem aF.put {K:KC} {W:World} {l:Nat} {r r':Loop} (h:W.heap[l]? =some (.loop r)):aF K W (W.putObj l (.loop r')):=by
 have hg:=grownBy_putObj' W l (.loop r')
 have hne:∀ g o,W.heap[g]? =some o->(∀ q,o≠Obj.loop q)->(W.putObj l (.loop r')).heap[g]? =some o:=λg o ho hq=>by
  refine (hg.block g (Array.getElem?_eq_some_iff.1 ho).1 λe=> ?_).trans ho
  cases e
  rw[h] at ho;cases ho
  exact hq _ rfl
 refine⟨hg.size,λa x _ hx=> ?_,λt g cur _ _ hc=>hne g _ hc λq e=>(by cases e),λg es c hc=>hne g _ hc λq e=>(by cases e)⟩
 have hlt:=World.block_lt_of_cell? W a hx
 obtain⟨o,ho⟩:∃ o,W.heap[a.block]? =some o:=⟨_,Array.getElem?_eq_getElem hlt⟩
 rw[World.cell?_of_block (w:=W) ((hne _ o ho λq e=> ?_).trans ho.symm)]
 ·exact hx
 ·subst e
  simp only[World.cell?,ho] at hx
  cases hx
theorem eK.put {ad:List Nat} {w W:World} (h:eK ad w W) {l:Nat} (hl:w.heap.size<=l) (o:Obj):eK ad w (W.putObj l o):=by
 have hg:=grownBy_putObj' W l o
 refine⟨hg.os.trans h.os,hg.tape.trans h.tape,hg.output.trans h.output,Nat.le_trans h.size hg.size,λg xy hn=>(hg.block g (Nat.lt_of_lt_of_le xy h.size) λe=> ?_).trans (h.du g xy hn)⟩
 cases e;omega
theorem aE.put {W:World} {b:Nat} {t:TypeId} {cs:Array Value} (h:aE W b t cs) {l:Nat} {r:Loop} (hl:W.heap[l]? =some (.loop r)) (o:Obj):aE (W.putObj l o) b t cs:=by
 have hg:=grownBy_putObj' W l o
 refine (hg.block b h.lt λe=> ?_).trans h
 cases e
 have:=hl.symm.trans h
 cases this
section
variable {C:Cx} {F:Fr} {H:Hp} {w:World} {Q:Exit->Act->World->Prop} {k:List It}
theorem tR {f:FuncId} {fn:Func} {c:Code} {args:List Value} {R:Ending->World->Prop} (hf:C.P.funcs[f]? =some fn) (hb:fn.body=some c) (hN:fn.ntmps=C.N) (ha:args.length<=C.N)
  (h:VS C (bodyPostM Fence.wide 0 C.P fn R) [.code c] (Fr.args 0 args) (λ_=>none) C.w0) (kQ:C.ds=[]:=by rfl):Calls C.P f args.toArray C.w0 R:=by
 refine (callsIn_wide (n:=0)).1 (callsIn_of_wp_marks hf hb trivial ((wpIn_wide (n:=0)).2 ?_))
 refine h (λ_=>0) _ C.w0 ⟨kQ.symm,?_,λd v hd=> ?_,λi t cs hi=>(by cases hi),λi j hi=>absurd rfl hi,λd v hd i hi=> ?_,λd v hd=> ?_,⟨λi t cs hi=>(by cases hi),λi t cs hi=>(by cases hi),λi hi=>rfl⟩,C.jg⟩ (aF.refl _ _)
 ·simp[hN];omega
 ·obtain⟨u,rfl,_,h2⟩:=Fr.args_at args 0 d v hd
  rw[Nat.sub_zero] at h2
  show (args.toArray++_).getD d undef=u
  have hlt:=(List.getElem?_eq_some_iff.1 h2).1
  rw[Array.getD_eq_getD_getElem?,Array.getElem?_append_left (by simpa using hlt)]
  simp[h2]
 ·obtain⟨u,rfl,_⟩:=Fr.args_at args 0 d _ hd
  cases hi
 ·obtain⟨u,rfl,_,h2⟩:=Fr.args_at args 0 d _ hd
  rw[Nat.sub_zero] at h2
  have:=(List.getElem?_eq_some_iff.1 h2).1
  omega
theorem VS.retM (hC:C.Ok) {fn:Func} {R:Ending->World->Prop} {vs:List AV} {us:List Value} (h:gX C F H fn.results.toList=some vs) (hv:dV vs=some us) (hR:∀ w',aF C.K w w'->C.Old w'->R (.returned (ir us)) w') (kQ:C.ds=[]:=by rfl):VS C (bodyPostM Fence.wide 0 C.P fn R) (.code .ret::k) F H w:=
 λβ a w' hr hk=>wp_ret (iJ (by
  obtain⟨_,v,h1,h2⟩:=Gh hC h hv hR kQ β a w' hr hk
  show LeavesInM Fence.wide 0 C.P fn a.tmps R a.defers .returning w'
  rw[hr.defers.trans kQ]
  exact⟨v,h1,h2⟩))
end
theorem Rel.aB {C:Cx} {β:Nat->Nat} {F:Fr} {H:Hp} {a:Act} {w w':World} (hr:Rel C β F H a w) (hb:ak w w'):Rel C β F H a w':=
 ⟨hr.defers,hr.size,hr.tmp,λi t cs h=>⟨(hr.own i t cs h).new,(hr.own i t cs h).ty,(hr.own i t cs h).cls.aB hb,(hr.own i t cs h).ok⟩,hr.apart,hr.closed,hr.fits,hr.hp,C.aw hr.old hb⟩
def CK (C:Cx) (Q:Exit->Act->World->Prop) (k:List It) (full:Array Oper) (o:Oper) (F:Fr) (H:Hp) (w:World):Prop:=
 ∃ g args vs,stepOf C full F H o=.call (.fn g args)/\dV args=some vs/\ng C.P g/\
   ∀ w1,aF C.K w w1->C.Old w1->Calls C.P g vs.toArray w1 λe w2=>∃ v,e=.returned v/\ak w1 w2/\∀ β a a',Rel C β F H a w1->Rel C β (F.bC o.dst (.val v)) H a' w2->aF C.K w w2->post C.P Q k .normal a' w2
theorem VS.GD {C:Cx} {F:Fr} {H:Hp} {w:World} {Q:Exit->Act->World->Prop} {k:List It} (hC:C.Ok) {id:Nat} {ops:Array Oper} (j:Nat) {o:Oper} (hj:ops.toList.drop j=[o]) (hd:ops.toList.all cS=true) (ho:cS o=true)
  (h:ar C none ops (ops.toList.take j) (CK C Q k ops o) F H w):VS C Q (.code (.region id ops false)::k) F H w:=λβ a w' hr hk=>by
 refine (wpIn_wide (n:=0)).1 (wpIn_region_list ?_)
 rw[<-List.take_append_drop j ops.toList,hj]
 refine gh cw.wide hC (tl:=[o]) (λβ F H w a w' h hr hk=> ?_) (ops.toList.take j) (List.all_eq_true.2 λo ho=>List.all_eq_true.1 hd o (List.mem_of_mem_take ho)) β F H w a w' h hr hk
 obtain⟨g,args,vs,e,hv,hf,gU⟩:=h
 refine wpListIn_step λK hK=> ?_
 have hb:stepOf C ops F H o≠.bad:=λe'=>by rw[e] at e';cases e'
 obtain⟨fQ,⟨hw,hs⟩|⟨hw,hs⟩⟩:=fR hb
 ·rw[hs] at e;cases e
 ·rw[fW hr hw,if_pos rfl]
  refine cw.wide.op ho (uR hr (hs.symm.trans e) ?_)
  refine⟨hf,?_⟩
  rw[ey hv,eP]
  refine (gU w' hk hr.old).mono ?_
  rintro e w2 ⟨v,rfl,aY,Df⟩
  refine⟨v,rfl,hK _ _ ?_⟩
  show post C.P Q k .normal _ w2
  exact Df β a _ hr ((hr.aB aY).put fQ (v:=.val v) (λ_ hi=>by cases hi)) (hk.aw (aF.of aY))
theorem eK.aB {w w1 W:World} {ad:List Nat} (h:ak w w1) (k:eK ad w1 W) (hg:∀ g∈ad,w.heap.size<=g):ak w W:=
 Below.trans h ⟨k.os,k.tape,k.output,k.size,λg xy=>k.du g (Nat.lt_of_lt_of_le xy h.size) λhm=>by have:=hg g hm;omega⟩
theorem Av {P:Program} {w:World} {N:Nat} {K:KC} {SU:TypeId->Bool} {ti:TypeId->Option TI} {keep:∀ b,b<w.heap.size->K.S b} {g:Nat} {t:TypeId} {cs:List Value} {ha:gm K [g] w} {a:Act} (L:List (Nat×Value)) (d:Nat)
  (hkn:Knows N ((d,.pointer (some ⟨g,0,none⟩))::L) a) (hc:aE w g t cs.toArray) (ht:K.fz t=false) (hk:cs.all aZ=true):
  Rel (pQ P w N K SU ti keep [g] (fX g) ha) (λ_=>g) (Fr.put (Fr.vals L) d (.box (2*N) 0)) (Hp.one (2*N) t cs) a w:=by
 have hF:∀ q v,Fr.put (Fr.vals L) d (.box (2*N) 0) q=some v->(q=d/\v=.box (2*N) 0)\/∃ u,v=.val u/\(q,u)∈L:=λq v hq=>by
  rw[Fr.ct] at hq
  split at hq
  ·rename_i e;cases hq;exact .inl ⟨e,rfl⟩
  ·exact .inr (rn hq)
 have hH:∀ i t' gF,Hp.one (2*N) t cs i=some (t',gF)->i=2*N/\t'=t/\gF=cs.map .val:=λi t' gF hi=>by
  rw[Hp.Af] at hi
  split at hi
  ·rename_i e;cases hi;exact⟨e,rfl,rfl⟩
  ·cases hi
 refine⟨hkn.defers,hkn.size,λq v hq=> ?_,λi t' gF hi=> ?_,λi j hi hj _=> ?_,λq v hq i hi=> ?_,λq v hq=> ?_,⟨λi t' gF hi=> ?_,λi t' gF hi=> ?_,λi hi=> ?_⟩,?_⟩
 ·rcases hF q v hq with ⟨rfl,rfl⟩|⟨u,rfl,hm⟩
  ·exact (hkn.tmp _ (List.mem_cons_self ..)).2
  ·exact (hkn.tmp _ (List.mem_cons_of_mem _ hm)).2
 ·obtain⟨rfl,rfl,rfl⟩:=hH i t' gF hi
  refine⟨?_,ht,by rw[aV];exact hc,cE hk⟩
  show fG N [g] w (2*N) g
  unfold fG
  rw[if_pos aa,Nat.sub_self]
  rfl
 ·rw[Hp.Af] at hi hj
  split at hi
  ·split at hj
   ·omega
   ·exact absurd rfl hj
  ·exact absurd rfl hi
 ·rcases hF q v hq with ⟨rfl,rfl⟩|⟨u,rfl,hm⟩
  ·have:i=2*N:=by simpa [AV.ids] using hi
   rw[Hp.Af,if_pos this];simp
  ·cases hi
 ·rcases hF q v hq with ⟨rfl,rfl⟩|⟨u,rfl,hm⟩
  ·exact (hkn.tmp _ (List.mem_cons_self ..)).1
  ·exact (hkn.tmp _ (List.mem_cons_of_mem _ hm)).1
 ·obtain⟨rfl,rfl,rfl⟩:=hH i t' gF hi
  exact⟨ht,cE hk⟩
 ·obtain⟨rfl,rfl,rfl⟩:=hH i t' gF hi
  intro j hj
  rw[ah] at hj;cases hj
 ·rw[Hp.Af,if_neg]
  intro e
  have:(2*N+[g].length)<=i:=hi
  simp at this
  omega
 ·exact⟨⟨rfl,rfl,rfl,Nat.le_refl _,λ_ _ _=>rfl⟩,ha⟩
theorem ik {P:Program} {w:World} {N:Nat} {K:KC} {SU:TypeId->Bool} {ti:TypeId->Option TI} {keep:∀ b,b<w.heap.size->K.S b} {g:Nat} {ha:gm K [g] w} {x:Addr} {u:Value} (hb:x.block≠g) (h:w.cell? x=some u):Cx.At (pQ P w N K SU ti keep [g] (fX g) ha) x u:=λw1 rV=>by
 have h1:eK [g] w w1:=rV.1
 have hlt:=World.block_lt_of_cell? w x h
 rw[World.cell?_of_block (w:=w) (h1.du _ hlt (λhm=>hb (List.mem_singleton.1 hm)))]
 exact h
section
variable {C:Cx} {F:Fr} {H:Hp} {w:World} {m:Option (List FuncId)} {full:Array Oper} {K:Fr->Hp->World->Prop} {o:Oper} {r:List Oper} {Q:Exit->Act->World->Prop} {k:List It}
def rp (F:Fr) (β bu:Nat->Nat) (lo hi:Nat):List (Nat×AV)->Prop
 | []=>True
 | p::r=>(∃ u,F p.1=some u/\p.2.aI bu=u.aI β/\∀ i∈p.2.ids,lo<=i/\i<hi)/\rp F β bu lo hi r
theorem rp.mem {β bu:Nat->Nat} {lo hi:Nat}:∀ {L:List (Nat×AV)} {d:Nat} {v:AV},rp F β bu lo hi L->(d,v)∈L->∃ u,F d=some u/\v.aI bu=u.aI β/\∀ i∈v.ids,lo<=i/\i<hi
 | p::r,d,v,h,hm=>by
   rcases List.mem_cons.1 hm with rfl|hm
   ·exact h.1
   ·exact rp.mem h.2 hm
theorem VS.ea (K:KC) (SU:TypeId->Bool) (ti:TypeId->Option TI) (keep:∀ (w':World) b,b<w'.heap.size->K.S b)
  (h:∀ w' β,aF C.K w w'->C.Old w'->Ends C β H w'->∃ (ad:List Nat) (l:List (TypeId×List AV)) (hl:et K C.N ad l w') (L:List (Nat×AV)),rp F β (adB C.N ad) (2*C.N) (2*C.N+l.length) L/\
   VS (pQ C.P w' C.N K SU ti (keep w') ad hl.nodup hl.ad) Q k (Fr.of L) (Hp.ads (2*C.N) l) w') (kQ:C.ds=[]:=by rfl):VS C Q k F H w:=λβ a w' hr hk=>by
 obtain⟨ad,l,hl,L,hL,hv⟩:=h w' β hk hr.old ⟨hr.own,hr.apart⟩
 have uK:∀ i c,Hp.ads (2*C.N) l i=some c->2*C.N<=i/\l[i-2*C.N]? =some c:=λi c hi=>by
  rw[Hp.wZ] at hi
  split at hi
  ·exact⟨by assumption,hi⟩
  ·cases hi
 have hsome:∀ i,Hp.ads (2*C.N) l i≠none->2*C.N<=i/\i-2*C.N<l.length:=λi hi=>by
  cases hh:Hp.ads (2*C.N) l i with
  | none=>exact absurd hh hi
  | some c=>
    obtain⟨h1,h2⟩:=uK i c hh
    exact⟨h1,(List.getElem?_eq_some_iff.1 h2).1⟩
 have hval:∀ k,k<ad.length->ad[k]? =some (ad.getD k 0):=λk hk=>by simp[List.getD_eq_getElem?_getD,hk]
 refine hv (adB C.N ad) a w' ⟨hr.defers.trans kQ,hr.size,λd v hd=> ?_,λi t cs hi=> ?_,λi j hi hj e=> ?_,λd v hd i hi=> ?_,λd v hd=> ?_,⟨λi t cs hi=> ?_,λi t cs hi=> ?_,λi hi=> ?_⟩,(pQ C.P w' C.N K SU ti (keep w') ad hl.nodup hl.ad).jg⟩ (aF.refl _ _)
 ·obtain⟨u,h1,h2,_⟩:=hL.mem (Fr.fe hd)
  rw[h2]
  exact hr.tmp d u h1
 ·obtain⟨h1,h2⟩:=uK i _ hi
  have hlt:=(List.getElem?_eq_some_iff.1 h2).1
  obtain⟨g1,g2⟩:=hl.ok _ (List.mem_of_getElem? h2)
  have hv:=hval (i-2*C.N) (by rw[hl.len];exact hlt)
  refine⟨?_,g1,hl.cls _ _ _ hv h2,g2⟩
  show fG C.N ad w' i (adB C.N ad i)
  unfold fG
  rw[if_pos h1]
  exact hv
 ·obtain⟨h1,h2⟩:=hsome i hi
  obtain⟨h3,h4⟩:=hsome j hj
  have e1:=hval (i-2*C.N) (by rw[hl.len];exact h2)
  have e2:=hval (j-2*C.N) (by rw[hl.len];exact h4)
  have e':ad.getD (i-2*C.N) 0=ad.getD (j-2*C.N) 0:=e
  rw[<-e'] at e2
  have:=(List.getElem?_inj (by rw[hl.len];exact h2) hl.nodup).1 (e1.trans e2.symm)
  omega
 ·obtain⟨u,h1,h2,h3⟩:=hL.mem (Fr.fe hd)
  obtain⟨h4,h5⟩:=h3 i hi
  rw[Hp.wZ,if_pos h4,List.getElem?_eq_getElem aa]
  simp
 ·obtain⟨u,h1,h2,h3⟩:=hL.mem (Fr.fe hd)
  exact hr.fits d u h1
 ·obtain⟨h1,h2⟩:=uK i _ hi
  exact hl.ok _ (List.mem_of_getElem? h2)
 ·obtain⟨h1,h2⟩:=uK i _ hi
  intro j hj
  obtain⟨h3,h4⟩:=hl.ids _ (List.mem_of_getElem? h2) j hj
  rw[Hp.wZ,if_pos h3,List.getElem?_eq_getElem aa]
  simp
 ·have sx:2*C.N+ad.length<=i:=hi
  rw[Hp.wZ]
  split
  ·exact List.getElem?_eq_none (by rw[<-hl.len];omega)
  ·rfl
def MK (C:Cx) (Q:Exit->Act->World->Prop) (k:List It) (full:Array Oper) (o:Oper) (F:Fr) (H:Hp) (w:World):Prop:=
 ∃ (g:FuncId) (args:List AV) (vs:List Value) (D:World->Cx),stepOf C full F H o=.call (.fn g args)/\dV args=some vs/\ng C.P g/\(∀ w,(D w).pd=C.pd)/\(∀ w,(D w).N=C.N)/\(∀ w,Cx.Old (D w) w)/\
   ∀ w1,aF C.K w w1->C.Old w1->Calls C.P g vs.toArray w1 λe w2=>∃ v L,e=.returned v/\Au F L/\(∀ p∈L,o.dst≠some p.1)/\VS (D w2) Q k (Fr.vals L) (λ_=>none) w2
theorem VS.ry (hC:C.Ok) {id:Nat} {ops:Array Oper} (j:Nat) {o:Oper} (hj:ops.toList.drop j=[o]) (hd:ops.toList.all cS=true) (ho:cS o=true)
  (h:ar C none ops (ops.toList.take j) (MK C Q k ops o) F H w):VS C Q (.code (.region id ops false)::k) F H w:=λβ a w' hr hk=>by
 refine (wpIn_wide (n:=0)).1 (wpIn_region_list ?_)
 rw[<-List.take_append_drop j ops.toList,hj]
 refine gh cw.wide hC (tl:=[o]) (λβ F H w a w' h hr hk=> ?_) (ops.toList.take j) (List.all_eq_true.2 λo ho=>List.all_eq_true.1 hd o (List.mem_of_mem_take ho)) β F H w a w' h hr hk
 obtain⟨g,args,vs,D,e,hv,hf,hP,hN,hO,gU⟩:=h
 refine wpListIn_step λK hK=> ?_
 have hb:stepOf C ops F H o≠.bad:=λe'=>by rw[e] at e';cases e'
 obtain⟨fQ,⟨hw,hs⟩|⟨hw,hs⟩⟩:=fR hb
 ·rw[hs] at e;cases e
 ·rw[fW hr hw,if_pos rfl]
  refine cw.wide.op ho (uR hr (hs.symm.trans e) ?_)
  refine⟨hf,?_⟩
  rw[ey hv,eP]
  refine (gU w' hk hr.old).mono ?_
  rintro e w2 ⟨v,L,rfl,hL,hLd,Df⟩
  refine⟨v,rfl,hK _ _ ?_⟩
  show post C.P Q k .normal _ w2
  have yu:=hr.knows hL
  have hkn:Knows (D w2).N L (a.put o.dst v) (D w2).ds:=by
   rw[hN,show (D w2).ds=C.ds from congrArg Prod.snd (hP w2)]
   cases hod:o.dst with
   | none=>exact yu
   | some d=>
     refine⟨yu.defers,by simp[Act.put];exact yu.size,λp hp=>⟨(yu.tmp p hp).1,?_⟩⟩
     have hne:d≠p.1:=λe=>hLd p hp (by rw[hod,e])
     have:=(yu.tmp p hp).2
     simp[Act.put,Array.getD_eq_getD_getElem?,Array.getElem?_setIfInBounds,hne] at this ⊢
     exact this
  have:=Df _ _ w2 (hkn.rel (hO w2)) (aF.refl _ _)
  rw[show (D w2).P=C.P from congrArg Prod.fst (hP w2)] at this
  exact this
end
section
variable {C:Cx} {Q:Exit->Act->World->Prop} {k:List It} {F:Fr} {H:Hp} {w:World} {J:Nat->List (Nat×Value)->World->Prop}
def rz (F:Fr) (β:Nat->Nat) (L:List (Nat×Value)):Prop:=sU F β (L.map λp=>(p.1,AV.val p.2))
theorem Rel.qf {β:Nat->Nat} {a:Act} {L:List (Nat×Value)} (hr:Rel C β F H a w) (hL:rz F β L):Knows C.N L a C.ds:=
 ⟨hr.defers,hr.size,λp hp=>by
  obtain⟨u,x,h1,h2,h3⟩:=hL.mem (List.mem_map.2 ⟨p,hp,rfl⟩)
  cases h3
  exact⟨hr.fits _ u h1,by rw[hr.tmp _ u h1,h2]⟩⟩
theorem VS.rA (D:World->Cx) (hP:∀ w,(D w).pd=C.pd) (hN:∀ w,(D w).N=C.N) (hO:∀ w,(D w).Old w) (n0:Nat) {body:Code} (h0:∀ w' β,aF C.K w w'->C.Old w'->Ends C β H w'->∃ L,rz F β L/\J n0 L w')
  (round:∀ n L W,J n L W->VS (D W) Q (.code body::.back (λa w=>∃ m,m<n/\zl C.N J m a w C.ds)::k) (Fr.vals L) (λ_=>none) W):VS C Q (.code (.loop body)::k) F H w:=λβ a w' hr hk=>by
 obtain⟨L,h1,h2⟩:=h0 w' β hk hr.old ⟨hr.own,hr.apart⟩
 refine wp_loop_ghost (λn a w=>zl C.N J n a w C.ds) n0 ⟨L,h2,hr.qf h1⟩ ?_
 rintro n a1 w1 ⟨L1,hJ,hkn⟩
 have EH:Knows (D w1).N L1 a1 (D w1).ds:=by rw[hN,show (D w1).ds=C.ds from congrArg Prod.snd (hP w1)];exact hkn
 have:=round n L1 w1 hJ _ a1 w1 (EH.rel (hO w1)) (aF.refl _ _)
 rw[show (D w1).P=C.P from congrArg Prod.fst (hP w1)] at this
 exact this
theorem VS.kc {ds:List Deferred} {n N:Nat} (hN:C.N=N) (m:Nat) (hm:m<n) (h:∀ w' β,aF C.K w w'->C.Old w'->Ends C β H w'->∃ L,rz F β L/\J m L w') (kQ:C.ds=ds:=by rfl):VS C Q (.back (λa w=>∃ m,m<n/\zl N J m a w ds)::k) F H w:=λβ a w' hr hk=>by
 subst hN
 subst kQ
 obtain⟨L,h1,h2⟩:=h w' β hk hr.old ⟨hr.own,hr.apart⟩
 exact⟨m,hm,L,h2,hr.qf h1⟩
end
end
section
open Go.RowKit
attribute [local irreducible] ar VS
section
variable {F F':Fr} {H H':Hp} {w w1:World} {N:Nat} {l':List Oper} {Q:Exit->Act->World->Prop} {k:List It} {id:Nat} {ops:Array Oper}
end
theorem fH.told {α:Type} {E:World->List Value->α->Prop} {sz i:Nat} {t:TypeId} {es:List α} {C:Cx} {β:Nat->Nat} {H:Hp} {w w1:World} {X:AV} {M:List (Nat×(TypeId×List AV))} (h:fH E sz t i X M w es) (hE:gp E sz) (en:Ends C β H w1) (hM:∀ x∈M,H x.1=some x.2) (k:Kp UU w w1) (B:Nat) (hB:C.uM i (β i)->B<=β i):aC E sz t B w1 (X.aI β) es:=by
 rcases h with ⟨rfl,rfl,rfl⟩|⟨n,c,vs,sp,rfl,rfl,h3⟩
 ·exact .inl ⟨rfl,rfl⟩
 ·have o:=en.own i _ _ (hM _ (List.mem_singleton.2 rfl))
  have hk:=o.ok
  rw[List.all_append,Bool.and_eq_true] at hk
  have hn:=h3.len
  subst hn
  refine .inr ⟨β i,c,vs,sp.map (AV.leaf β),rfl,hB o.new,?_,h3.el.kp hE k,dZ hk.2,h3.le,h3.cm,by rw[<-h3.fl];simp only[List.length_append,List.length_map]⟩
  have:=o.cls
  rw[List.map_append,aV] at this
  exact this
set_option maxRecDepth 4000
set_option maxRecDepth 4000 in
theorem ll (v:Value) (t:List (List Rat)) (xs:List Rat) (x:Rat) (e c:Nat) (kk:Nat) (w:World) (hv:aO (cM kk) 1 w v t) (hx:t[e]? =some xs) (hc:xs[c]? =some x) (hk:kk<=1000):
  Calls Tryz.prog 31 #[.agg #[v],.int .i64 (e:Int),.int .i64 (c:Int)] w λo w'=>∃ r,o=.returned r/\dB w' r x/\ak w w':=by
 obtain⟨p,cp,rfl⟩:=hv.sl
 have gr:e<t.length:=(List.getElem?_eq_some_iff.1 hx).1
 have gU:c<xs.length:=(List.getElem?_eq_some_iff.1 hc).1
 obtain⟨b,off,Jx,rfl,hcc,⟨xv,rfl,xP⟩⟩:=hv.at hx
 obtain⟨b2,rj,csx2,hp3,nG,⟨s,pp,n,cx,tt,y,mm,d,rfl,hrt⟩⟩:∃ b off cs,xv=.slice (some ⟨b,off,none⟩) xs.length (match xv with | .slice _ _ c=>c|_=>0)/\(∀ (j:Nat) (u:Value),cs[j]? =some u->w.cell? ⟨b,off+c*4+j,none⟩=some u)/\sV kk w cs x:=by
  obtain⟨p3,c3,rfl⟩:=xP.sl
  obtain⟨b2,rj,cs2,rfl,h1,h2⟩:=xP.at hc
  exact⟨b2,rj,cs2,rfl,h1,h2⟩
 rw[hp3] at hcc
 generalize (match xv with | .slice _ _ c=>c|_=>0)=c3 at hcc hp3
 refine af (C:=aW Tryz.prog w _) (args:=[_,_,_]) Tryz.func31 rfl Tryz.ntmps31 (bP rfl) ?_
 refine ae ?_
 refine VO.fix 9 rfl (congrArg (λb=>AV.val (.bool b)) (decide_eq_false (show ¬ (e:Int)<0 by omega))) ?_
 refine ae ?_
 refine VO.fix 16 rfl (congrArg (λb=>AV.val (.bool b)) (decide_eq_false (show ¬ (e:Int)>=(t.length:Int) by omega))) ?_
 refine ae ?_
 refine VO.fix 20 rfl (congrArg (λb=>AV.val (.bool b)) (decide_eq_false (show ¬ (c:Int)<0 by omega))) ?_
 refine ae ?_
 refine VO.cond rfl dc (wV rfl ?_)
 refine VO.read rfl [.slice (some ⟨b2,rj,none⟩) xs.length c3] rfl (ax hcc) (wV rfl ?_)
 refine ae ?_
 refine VS.aP rfl (decide_eq_false (show ¬ (c:Int)>=(xs.length:Int) by omega)) ?_
 refine ae ?_
 refine VO.cond rfl dc (wV rfl ?_)
 refine VO.read rfl [.slice (some ⟨b2,rj,none⟩) xs.length c3] rfl (ax hcc) (wV rfl ?_)
 refine ae ?_
 refine VO.cond rfl dc (wV rfl ?_)
 refine VO.read rfl [.bool s,.slice pp n cx,.bool tt,.slice y mm d] rfl (er nG 0 _ ⟨[],rfl⟩) (wV rfl ?_)
 refine ae ?_
 refine VO.call rfl rfl (fk Tryz.func70) (λcA dG cV=>(gO _ x kk cA (hrt.kp (Kp.of (U:=UU) cV)) aa).mono ?_)
 rintro o w2 ⟨r2,rfl,q2,aY⟩
 obtain⟨s2,p2,n2,c2,t2,y2,m2,d2,rfl⟩:=q2.form
 refine bA aY ?_
 intro eU _ bb2
 refine aX ?_;intro wz kz bz
 exact⟨_,rfl,q2.kp kz,bz⟩
set_option maxRecDepth 4000
def VE (_:World) (cs:List Value) (v:Value):Prop:=cs=[v]/\∃ p n c,v=.slice p n c
theorem bB:gp VE 1 where
 kp:=λh _=>h
 len:=λh=>by rw[h.1];rfl
 ok:=λh=>by
  obtain⟨rfl,p,n,c,rfl⟩:=h
  rfl
theorem aC.nil' {α:Type} {E:World->List Value->α->Prop} {sz B:Nat} {t:TypeId} {w:World}:aC E sz t B w (.slice none 0 0) []:=.inl ⟨rfl,rfl⟩
set_option maxRecDepth 4000
abbrev rX:KC:=⟨UU,λ_=>True,λt=>Nat.beq t 38⟩
abbrev cxU (P:Program) (w:World) (N:Nat) (ad:List Nat) (hd:ad.Nodup) (ha:gm rX ad w):Cx:=pQ P w N rX (λt=>Nat.beq t 23) table (λ_ _=>trivial) ad hd ha
theorem qg (w:World) (N:Nat) {ad:List Nat} {hd:ad.Nodup} {ha:gm rX ad w}:(cxU Tryz.prog w N ad hd ha).Ok:=dA
section
variable {F F':Fr} {H H':Hp} {w w1:World} {N:Nat} {l':List Oper} {Q:Exit->Act->World->Prop} {k:List It} {id:Nat} {ops:Array Oper}
theorem cxU_r {ad:List Nat} {hd:ad.Nodup} {ha:gm rX ad w1} (e:gl (cxU Tryz.prog w1 N ad hd ha) ops 80 ops.toList F H=(l',F',H')) (h:ar (cxU Tryz.prog w1 N ad hd ha) none ops l' (VS (cxU Tryz.prog w1 N ad hd ha) Q k) F' H' w):VS (cxU Tryz.prog w1 N ad hd ha) Q (.code (.region id ops false)::k) F H w:=VS.region (qg _ _) (VO.run 80 e h)
end
section
variable {F F':Fr} {H H':Hp} {w w1:World} {N:Nat} {l':List Oper} {Q:Exit->Act->World->Prop} {k:List It} {id:Nat} {ops:Array Oper}
end
theorem cZ {w:World} {g:Nat} {t t':TypeId} {a b:Array Value} (h:aE w g t a) (k:aE w g t' b):t=t':=by
 have:=(show w.heap[g]? =_ from h).symm.trans (show w.heap[g]? =_ from k)
 injection this with this
 injection this
theorem uY {α:Type} {E:World->List Value->α->Prop} {w:World} {v:Value} {vs:List Value} {es:List α} (h:aO VE 1 w v vs) (hl:vs.length=es.length) (hg:∀ (i:Nat) (u:Value) (a:α),vs[i]? =some u->es[i]? =some a->E w [u] a):aO E 1 w v es:=by
 obtain⟨p,c,rfl,h1,h2,h3⟩:=h
 refine⟨p,c,by rw[hl],by rw[<-hl];exact h1,h2,λi a ha=> ?_⟩
 obtain⟨u,hu⟩:∃ u,vs[i]? =some u:=⟨_,List.getElem?_eq_getElem (by rw[hl];exact (List.getElem?_eq_some_iff.1 ha).1)⟩
 obtain⟨b,off,cs,hp,hc,hE⟩:=h3 i u hu
 obtain⟨rfl,-⟩:=hE
 exact⟨b,off,_,hp,hc,hg i u a hu ha⟩
theorem aC.aB {α:Type} {E:World->List Value->α->Prop} {sz B:Nat} {t:TypeId} {w w':World} {v:Value} {es:List α} (hE:gp E sz) (h:aC E sz t B w v es) (hb:ak w w'):aC E sz t B w' v es:=h.kp hE (T:=λ_=>true) (aF.of hb) rfl
theorem iy {α:Type} {vs:List Value} {l:List α} {P:Value->α->Prop} {u:Value} {a:α} (h:∀ (i:Nat) (v:Value) (x:α),vs[i]? =some v->l[i]? =some x->P v x) (ha:l[vs.length]? =some a) (hu:P u a):∀ (i:Nat) (v:Value) (x:α),(vs++[u])[i]? =some v->l[i]? =some x->P v x:=λi v x hi hx=>by
 by_cases hil:i<vs.length
 ·rw[List.getElem?_append_left hil] at hi;exact h i v x hi hx
 ·rw[List.getElem?_append_right aa] at hi
  have:=(List.getElem?_eq_some_iff.1 hi).1
  rw[List.length_singleton] at this
  obtain rfl:i=vs.length:=by omega
  rw[Nat.sub_self] at hi
  cases hi
  rw[ha] at hx
  cases hx;exact hu
end
section
open Go.RowKit
def GF (D:Nat):Deferred:={ target:=.collected D,args:=#[] }
def marks (Ds:List Nat):List Deferred:=Ds.map GF
abbrev IU (C:Cx) (l:List Deferred):Cx:={ C with ds:=l }
structure Opn (Ds:List Nat) (w:World):Prop where
 nodup:Ds.Nodup
 at_:∀ D∈Ds,w.heap[D]? =some (.deferred (some []))
structure Shut (Ds:List Nat) (w w':World):Prop where
 os:w'.os=w.os
 tape:w'.tape=w.tape
 output:w'.output=w.output
 size:w.heap.size=w'.heap.size
 du:∀ g,g∉Ds->w'.heap[g]? =w.heap[g]?
theorem Shut.refl (Ds:List Nat) (w:World):Shut Ds w w:=⟨rfl,rfl,rfl,rfl,λ_ _=>rfl⟩
theorem Shut.aw {Ds:List Nat} {a b c:World} (h:Shut Ds a b) (k:Shut Ds b c):Shut Ds a c:=⟨k.os.trans h.os,k.tape.trans h.tape,k.output.trans h.output,h.size.trans k.size,λg hg=>(k.du g hg).trans (h.du g hg)⟩
theorem Shut.mono {Ds Es:List Nat} {a b:World} (h:Shut Ds a b) (hs:∀ d∈Ds,d∈Es):Shut Es a b:=⟨h.os,h.tape,h.output,h.size,λg hg=>h.du g (λq=>hg (hs g q))⟩
theorem LQ {w:World} {D:Nat} (h:D<w.heap.size):Shut [D] w (w.putObj D (.deferred none)):=by
 have hg:=grownBy_putObj' w D (.deferred none)
 refine⟨hg.os,hg.tape,hg.output,?_,λg hn=> ?_⟩
 ·simp[World.putObj]
 ·exact World.putObj_heap_other (λe=>hn (by simp[e]))
theorem Shut.aB {Ds:List Nat} {w0 w w':World} (h:Shut Ds w w') (hb:ak w0 w) (hD:∀ D∈Ds,w0.heap.size<=D):ak w0 w':=
 Below.trans hb ⟨h.os,h.tape,h.output,by rw[h.size];exact Nat.le_refl _,λg hg=>h.du g (λq=>by have:=hD g q;omega)⟩
theorem Shut.cls {Ds:List Nat} {w w':World} {b:Nat} {t:TypeId} {cs:Array Value} (h:Shut Ds w w') (ho:∀ D∈Ds,w.heap[D]? =some (.deferred (some []))) (hc:aE w b t cs):aE w' b t cs:=
 (h.du b (λq=>by
   have:=(ho b q).symm.trans hc
   cases this)).trans hc
theorem Shut.kps {K:KC} {Ds:List Nat} {w w':World} (h:Shut Ds w w') (ho:∀ D∈Ds,w.heap[D]? =some (.deferred (some []))):aF K w w':=by
 have hne:∀ (g:Nat) (o:Obj),w.heap[g]? =some o->o≠.deferred (some [])->w'.heap[g]? =some o:=λg o hg hn=>(h.du g (λq=>hn (by
  have:=(ho g q).symm.trans hg
  injection this with this
  exact this.symm))).trans hg
 refine⟨Nat.le_of_eq h.size,λa x _ hx=> ?_,λt g cur _ _ hc=>hne g _ hc (by intro e;cases e),λg es c hc=>hne g _ hc (by intro e;cases e)⟩
 have hlt:=World.block_lt_of_cell? w a hx
 obtain⟨o,ho'⟩:∃ o,w.heap[a.block]? =some o:=⟨_,Array.getElem?_eq_getElem hlt⟩
 rw[World.cell?_of_block (w:=w) ((hne _ o ho' λe=> ?_).trans ho'.symm)]
 ·exact hx
 ·subst e
  simp only[World.cell?,ho'] at hx
  cases hx
theorem rB {P:Program} {fn:Func} {tmps:Array Value} {R:Ending->World->Prop}:∀ (Ds:List Nat) (w:World),Opn Ds w->(∀ w',Shut Ds w w'->LeavesInM Fence.wide 0 P fn tmps R [] .returning w')->LeavesInM Fence.wide 0 P fn tmps R (marks Ds) .returning w
 | [],w,_,h=>h w (Shut.refl _ _)
 | D::r,w,ho,h=>by
   have hD:=ho.at_ D (List.mem_cons_self ..)
   have hlt:=(Array.getElem?_eq_some_iff.1 hD).1
   refine⟨by simp,.inl ⟨D,w.putObj D (.deferred none),rfl,run_takeDeferred hD,?_⟩⟩
   have s1:=LQ hlt
   refine rB r _ ⟨(List.nodup_cons.1 ho.nodup).2,λE hE=>(s1.du E (λq=>(List.nodup_cons.1 ho.nodup).1 (by rw[List.mem_singleton.1 q] at hE;exact hE))).trans (ho.at_ E (List.mem_cons_of_mem _ hE))⟩ (λw' hs=>h w' ((s1.mono (λd hd=>by rw[List.mem_singleton.1 hd];exact List.mem_cons_self ..)).aw (hs.mono (λd hd=>List.mem_cons_of_mem _ hd))))
abbrev Fj (C:Cx) (w:World) (hS:∀ b,C.K.S b):Cx where
 P:=C.P
 w0:=w
 N:=C.N
 K:=C.K
 SU:=C.SU
 ti:=C.ti
 keep:=λb _=>hS b
 uM:=λ_ _=>True
 Old:=λw1=>w.heap.size<=w1.heap.size
 top:=C.top
 Kv:=C.Kv
 vP:=λ_ _ _ _=>trivial
 BB:=λ_ _ _ _ _=>trivial
 jf:=λ_ h=>h
 jg:=Nat.le_refl _
 lP:=λ_ _ h _ k _=>Nat.le_trans h k.size
 qJ:=λ_ _ _ _ hn _=>absurd trivial (hn 0)
 lay:=λw1 H h hH hf=>by
  obtain⟨β,w2,k,o,r,s⟩:=nU (K:=C.K) (ak.refl w1) H hf
  exact⟨β,w2,k,Nat.le_trans h o.size,λi t cs hi=>⟨trivial,(r i t cs hi).2⟩,s⟩
 ds:=C.ds
theorem xe {C D:Cx} {F:Fr} {H:Hp} (h:D.ti=C.ti):∀ (l:List ResultVar),gX D F H l=gX C F H l
 | []=>rfl
 | .tmp t::r=>by unfold gX;rw[xe h r]
 | .cell x t::r=>by unfold gX;rw[xe h r,h]
section
variable {C:Cx} {F:Fr} {H:Hp} {w:World} {Q:Exit->Act->World->Prop} {k:List It}
theorem VS.retD (Ds:List Nat) (hC:C.Ok) {fn:Func} {R:Ending->World->Prop} {vs:List AV} {us:List Value} (kQ:C.ds=marks Ds) (h:gX C F H fn.results.toList=some vs) (hv:dV vs=some us) (ho:∀ w',C.Old w'->Opn Ds w') (hS:∀ b,C.K.S b)
 (hR:∀ w' w'',aF C.K w w'->C.Old w'->Shut Ds w' w''->R (.returned (ir us)) w''):VS C (bodyPostM Fence.wide 0 C.P fn R) (.code .ret::k) F H w:=λβ a w' hr hk=>wp_ret (iJ (by
 show LeavesInM Fence.wide 0 C.P fn a.tmps R a.defers .returning w'
 have hO:=ho w' hr.old
 rw[hr.defers,kQ]
 refine rB Ds w' hO (λw'' hs=> ?_)
 have ky:Rel (Fj C w'' hS) β F H a w'':=⟨hr.defers,hr.size,hr.tmp,λi t cs hi=>⟨trivial,(hr.own i t cs hi).ty,hs.cls hO.at_ (hr.own i t cs hi).cls,(hr.own i t cs hi).ok⟩,hr.apart,hr.closed,hr.fits,⟨hr.hp.ok,hr.hp.closed,hr.hp.few⟩,Nat.le_refl _⟩
 refine⟨_,nw (C:=Fj C w'' hS) hC ky ((xe (C:=C) (D:=Fj C w'' hS) rfl _).trans h),?_⟩
 rw[ey hv,eP]
 exact hR w' w'' hk hr.old hs))
theorem VS.goD {D:Cx} {β:Nat->Nat} {a:Act} {W w':World} {d:Nat} {L:List (Nat×Value)} (hpd:D.pd=(C.P,GF d::C.ds)) (hN:D.N=C.N) (hO:D.Old W) (hr:Rel C β F H a w') (hL:rz F β L) (h:VS D Q k (Fr.vals L) (λ_=>none) W):post C.P Q k .normal { a with defers:=GF d::a.defers } W:=by
 have hk:=hr.qf hL
 have hkn:Knows D.N L { a with defers:=GF d::a.defers } D.ds:=by
  rw[hN,show D.ds=GF d::C.ds from congrArg Prod.snd hpd]
  exact⟨by rw[<-hk.defers],hk.size,hk.tmp⟩
 have:=h _ _ W (hkn.rel hO) (aF.refl _ _)
 rw[show D.P=C.P from congrArg Prod.fst hpd] at this
 exact this
theorem Rel.LR {β:Nat->Nat} {a:Act} (h:Rel C β F H a w) (l:List Deferred):Rel (IU C l) β F H { a with defers:=l } w:=
 ⟨rfl,h.size,h.tmp,λi t cs e=>⟨(h.own i t cs e).new,(h.own i t cs e).ty,(h.own i t cs e).cls,(h.own i t cs e).ok⟩,h.apart,h.closed,h.fits,⟨h.hp.ok,h.hp.closed,h.hp.few⟩,h.old⟩
theorem VS.goA {β:Nat->Nat} {a:Act} {W w':World} {d:Nat} {L:List (Nat×Value)} {K:KC} {SU:TypeId->Bool} {ti:TypeId->Option TI} {keep:∀ b,b<W.heap.size->K.S b} {g:Nat} {t:TypeId} {cs:List Value} (q:Nat) (hr:Rel C β F H a w') (hL:rz F β ((q,.pointer (some ⟨g,0,none⟩))::L)) (hc:aE W g t cs.toArray) (ht:K.fz t=false) (hk:cs.all aZ=true)
  (h:VS (IU (pQ C.P W C.N K SU ti keep [g] (fX g) (ad1 hc ht hk)) (GF d::C.ds)) Q k (Fr.put (Fr.vals L) q (.box (2*C.N) 0)) (Hp.one (2*C.N) t cs) W):post C.P Q k .normal { a with defers:=GF d::a.defers } W:=by
 have xA:=hr.qf hL
 have hkn:Knows C.N ((q,.pointer (some ⟨g,0,none⟩))::L) { a with defers:=[] }:=⟨rfl,xA.size,xA.tmp⟩
 have h1:=(Av (P:=C.P) (SU:=SU) (ti:=ti) (keep:=keep) (ha:=ad1 hc ht hk) L q hkn hc ht hk).LR (GF d::C.ds)
 have:=h _ _ W h1 (aF.refl _ _)
 rw[show GF d::a.defers=GF d::C.ds by rw[xA.defers]]
 exact this
theorem VS.goAJ {β:Nat->Nat} {a:Act} {W w':World} {d:Nat} {L:List (Nat×Value)} {K:KC} {SU:TypeId->Bool} {ti:TypeId->Option TI} {keep:∀ b,b<W.heap.size->K.S b} {g:Nat} {t:TypeId} {cs:List Value} {c:Code} (q:Nat) (hr:Rel C β F H a w') (hL:rz F β ((q,.pointer (some ⟨g,0,none⟩))::L)) (hc:aE W g t cs.toArray) (ht:K.fz t=false) (hk:cs.all aZ=true)
  (h:VS (IU (pQ C.P W C.N K SU ti keep [g] (fX g) (ad1 hc ht hk)) (GF d::C.ds)) Q (.code c::k) (Fr.put (Fr.vals L) q (.box (2*C.N) 0)) (Hp.one (2*C.N) t cs) W):c.wpIn Fence.wide 0 C.P (post C.P Q k) { a with defers:=GF d::a.defers } W:=
 (wpIn_wide (n:=0)).2 (VS.goA (k:=.code c::k) q hr hL hc ht hk h)
def LS (N:Nat) (J:Nat->List (Nat×Value)->List Deferred->World->Prop) (n:Nat) (a:Act) (w:World):Prop:=∃ L ds,J n L ds w/\Knows N L a ds
theorem VS.loopD {J:Nat->List (Nat×Value)->List Deferred->World->Prop} (D:List Deferred->World->Cx) (hP:∀ l w,(D l w).pd=(C.P,l)) (hN:∀ l w,(D l w).N=C.N) (hO:∀ l w,(D l w).Old w) (n0:Nat) {body:Code} (h0:∀ w' β,aF C.K w w'->C.Old w'->Ends C β H w'->∃ L,rz F β L/\J n0 L C.ds w')
  (round:∀ n L ds W,J n L ds W->VS (D ds W) Q (.code body::.back (λa w=>∃ m,m<n/\LS C.N J m a w)::k) (Fr.vals L) (λ_=>none) W):VS C Q (.code (.loop body)::k) F H w:=λβ a w' hr hk=>by
 obtain⟨L,h1,h2⟩:=h0 w' β hk hr.old ⟨hr.own,hr.apart⟩
 refine wp_loop_ghost (LS C.N J) n0 ⟨L,C.ds,h2,hr.qf h1⟩ ?_
 rintro n a1 w1 ⟨L1,ds,hJ,hkn⟩
 have EH:Knows (D ds w1).N L1 a1 (D ds w1).ds:=by rw[hN,show (D ds w1).ds=ds from congrArg Prod.snd (hP ds w1)];exact hkn
 have:=round n L1 ds w1 hJ _ a1 w1 (EH.rel (hO ds w1)) (aF.refl _ _)
 rw[show (D ds w1).P=C.P from congrArg Prod.fst (hP ds w1)] at this
 exact this
theorem VS.backD {J:Nat->List (Nat×Value)->List Deferred->World->Prop} {n N:Nat} (hN:C.N=N) (m:Nat) (hm:m<n) (h:∀ w' β,aF C.K w w'->C.Old w'->Ends C β H w'->∃ L,rz F β L/\J m L C.ds w'):VS C Q (.back (λa w=>∃ m,m<n/\LS N J m a w)::k) F H w:=λβ a w' hr hk=>by
 subst hN
 obtain⟨L,h1,h2⟩:=h w' β hk hr.old ⟨hr.own,hr.apart⟩
 exact⟨m,hm,L,C.ds,h2,hr.qf h1⟩
end
structure Cb (w w':World):Prop where
 size:w.heap.size<=w'.heap.size
 du:∀ (g:Nat) (o:Obj),w.heap[g]? =some o->(∀ cs t x,o≠Obj.cells cs t x)->w'.heap[g]? =some o
theorem Cb.aB {w w':World} (h:ak w w'):Cb w w':=⟨h.size,λg o hg _=>(Below.block h g (Array.getElem?_eq_some_iff.1 hg).1).trans hg⟩
theorem Cb.aw {a b c:World} (h:Cb a b) (k:Cb b c):Cb a c:=⟨Nat.le_trans h.size k.size,λg o hg hn=>k.du g o (h.du g o hg hn) hn⟩
theorem Cb.but {w w':World} {ad:List Nat} (h:eK ad w w') (hc:∀ g∈ad,∃ t cs,aE w g t cs):Cb w w':=⟨h.size,λg o hg hn=>(h.du g (Array.getElem?_eq_some_iff.1 hg).1 (λq=>by
 obtain⟨t,cs,gU⟩:=hc g q
 have:=gU.symm.trans hg
 injection this with this
 exact hn _ _ _ this.symm)).trans hg⟩
theorem tS {P:Program} {g:Operand} {ps:Array Tmp} {assign body:Code} {Q:Exit->Act->World->Prop} {a:Act} {w:World} {gf:Nat} {lb:Array Value} (jc:Code) (je:Exit) (hje:(jc=.ret/\je=.ret)\/∃ id,jc=.exit id/\je=.exit id)
  (hg:a.eval g=.func (.func gf) #[] lb) (eg:∀ args w,(callFunc gf args).run P w=.ok (.enter gf args) w) {ι:Type} (i0:ι) (Mv:ι->ι->Prop) (J:ι->World->Prop) (JX:World->Prop) (Pr:ι->ι->Array Value->World->Prop) (Fin:ι->Prop)
  (hput:∀ i W l r r',J i W->w.heap.size<=l->W.heap[l]? =some (.loop r)->J i (W.putObj l (.loop r'))) (hputX:∀ W l r r',JX W->w.heap.size<=l->W.heap[l]? =some (.loop r)->JX (W.putObj l (.loop r'))) (hmv:∀ i i' W,Mv i i'->J i W->J i' W) (hbeh:∀ i W W',J i W->ak W W'->J i W') (hbehX:∀ W W',JX W->ak W W'->JX W') (h0:J i0 w) (hps:∀ i i' vs W,Pr i i' vs W->vs.size=ps.size)
  (hseq:∀ (l:Nat) (J':ι->World->Prop) (AP:World->Prop) (W:World),ak w W->(∀ i i' W,Mv i i'->J' i W->J' i' W)->(∀ i W W',J' i W->ak W W'->J' i W')->(∀ W W',AP W->ak W W'->AP W')->(∀ i W,J' i W->J i W)->
   (∀ i i' vs W1,J' i W1->Pr i i' vs W1->YieldAt Fence.wide 0 P l vs W1 λe W'=>(e=.returned (.bool true)/\J' i' W')\/(e=.returned (.bool false)/\AP W'))->J' i0 W->
   CallsIn Fence.wide 0 P gf (#[.func (.yield l) #[] #[]]++lb) W λe W'=>(∃ v,e=.returned v)/\((∃ i,Fin i/\J' i W')\/AP W'))
  (hround:∀ l i i' vs W,w.heap.size<=l->J i W->Pr i i' vs W->(∃ r,W.heap[l]? =some (.loop r))->
   assign.wpIn (Fence.wide.inRound l) 0 P (Exit.then (λa' W1=>ak W W1/\∀ r',body.wpIn (Fence.wide.inRound l) 0 P (λe _ W3=>Cb (W1.putObj l (.loop r')) W3/\((e=.normal/\J i' W3)\/(e=je/\JX W3))) a' (W1.putObj l (.loop r'))) (λ_ _ _=>False))
    { tmps:=(ps.zip vs).foldl (λt (p,v)=>t.setIfInBounds p v) a.tmps,defers:=[] } W)
  (hdone:∀ D i W,w.heap.size<=D->Fin i->J i W->W.heap[D]? =some (.deferred (some []))->Q .normal { a with defers:=GF D::a.defers } W)
  (hleave:∀ D W,w.heap.size<=D->JX W->W.heap[D]? =some (.deferred (some []))->jc.wpIn Fence.wide 0 P Q { a with defers:=GF D::a.defers } W):
  (Code.rangeFunc g ps assign body).wpIn Fence.wide 0 P Q a w:=by
 refine wpIn_rangeFunc λfn hfn=> ?_
 obtain⟨rec,yi⟩:∃ rec:LoopState->Option Code->Loop,rec=λst pe=>{ state:=st,pending:=pe,fn,tmps:=a.tmps,params:=ps,assign,body,defers:=w.heap.size }:=⟨_,rfl⟩
 obtain⟨W1,hW1⟩:∃ W1,(w.alloc (.deferred (some []))).alloc (.loop (rec .ready none))=W1:=⟨_,rfl⟩
 have hL1:W1.heap[w.heap.size+1]? =some (.loop (rec .ready none)):=by
  rw[<-hW1];have:=World.alloc_heap_new (w.alloc (.deferred (some []))) (.loop (rec .ready none));rwa [World.size_alloc] at this
 have hK1:W1.heap[w.heap.size]? =some (.deferred (some [])):=by
  rw[<-hW1];exact (Below.heap_alloc _ _ _ dU).trans (World.alloc_heap_new w _)
 have aL:ak w W1:=by rw[<-hW1];exact ((ak.refl w).alloc _).alloc _
 obtain⟨J',hJ'⟩:∃ J':ι->World->Prop,J'=λi W=>J i W/\W.heap[w.heap.size+1]? =some (.loop (rec .ready none))/\W.heap[w.heap.size]? =some (.deferred (some [])):=⟨_,rfl⟩
 obtain⟨AP,Fk⟩:∃ AP:World->Prop,AP=λW=>JX W/\W.heap[w.heap.size+1]? =some (.loop (rec .done (some jc)))/\W.heap[w.heap.size]? =some (.deferred (some [])):=⟨_,rfl⟩
 have hY:∀ i i' vs W,J' i W->Pr i i' vs W->YieldAt Fence.wide 0 P (w.heap.size+1) vs W λe W'=>(e=.returned (.bool true)/\J' i' W')\/(e=.returned (.bool false)/\AP W'):=by
  intro i i' vs W h hp
  rw[hJ'] at h ⊢
  rw[Fk]
  obtain⟨hi,hl,hk⟩:=h
  have hy:=run_yield (P:=P) (args:=vs) hl (by rw[yi,hps i i' vs W hp])
  rw[yi] at hy
  refine⟨fn,_,assign,body,hy,roundIn_of_wpIn hfn (wpIn_mono (hround _ i i' vs W aa hi hp ⟨_,hl⟩) ?_)⟩
  rintro e a' Wa he
  cases e with
  | normal=>
    obtain⟨Lr,hbody⟩:=he
    have Eh:Wa.heap[w.heap.size+1]? =some (.loop (rec .ready none)):=(Below.block Lr _ (Array.getElem?_eq_some_iff.1 hl).1).trans hl
    have hka:Wa.heap[w.heap.size]? =some (.deferred (some [])):=(Below.block Lr _ (Array.getElem?_eq_some_iff.1 hk).1).trans hk
    have hlt:=(Array.getElem?_eq_some_iff.1 Eh).1
    refine⟨_,run_beginRound Eh (by rw[yi]),wpIn_mono (hbody _) ?_⟩
    have xQ:(Wa.putObj (w.heap.size+1) (.loop { rec .ready none with state:=.busy })).heap[w.heap.size+1]? =some (.loop { rec .ready none with state:=.busy }):=World.putObj_heap_same hlt
    have Gu:(Wa.putObj (w.heap.size+1) (.loop { rec .ready none with state:=.busy })).heap[w.heap.size]? =some (.deferred (some [])):=(World.putObj_heap_other aa).trans hka
    rintro e a3 W3 ⟨hcb,hJ3⟩
    have hl3:=hcb.du _ _ xQ (by intro _ _ _ e;cases e)
    have hk3:=hcb.du _ _ Gu (by intro _ _ _ e;cases e)
    rcases hJ3 with ⟨rfl,hJ3⟩|⟨rfl,hJ3⟩
    ·have hr:=run_endRound (P:=P) none hl3
     refine⟨_,_,hr,.inl ⟨rfl,hput _ _ _ _ _ hJ3 aa hl3,?_,(World.putObj_heap_other aa).trans hk3⟩⟩
     rw[World.putObj_heap_same (Array.getElem?_eq_some_iff.1 hl3).1,yi]
     rfl
    ·have hr:=run_endRound (P:=P) (some jc) hl3
     have Kf:∃ v w',(Instr.endRound (w.heap.size+1) (some jc)).run P W3=.ok v w'/\((Ending.returned v=.returned (.bool true)/\J i' w'/\w'.heap[w.heap.size+1]? =some (.loop (rec .ready none))/\w'.heap[w.heap.size]? =some (.deferred (some [])))\/(Ending.returned v=.returned (.bool false)/\JX w'/\w'.heap[w.heap.size+1]? =some (.loop (rec .done (some jc)))/\w'.heap[w.heap.size]? =some (.deferred (some [])))):=by
      refine⟨_,_,hr,.inr ⟨rfl,hputX _ _ _ _ hJ3 aa hl3,?_,(World.putObj_heap_other aa).trans hk3⟩⟩
      rw[World.putObj_heap_same (Array.getElem?_eq_some_iff.1 hl3).1,yi]
      rfl
     rcases hje with ⟨rfl,rfl⟩|⟨id,rfl,rfl⟩
     ·exact Kf
     ·exact Kf
  | _=>exact he.elim
 have key:=hseq (w.heap.size+1) J' AP W1 aL (by rw[hJ'];exact λi i' W hm h=>⟨hmv i i' W hm h.1,h.2⟩) (by
   rw[hJ']
   exact λi W W' h k=>⟨hbeh i W W' h.1 k,(Below.block k _ (Array.getElem?_eq_some_iff.1 h.2.1).1).trans h.2.1,(Below.block k _ (Array.getElem?_eq_some_iff.1 h.2.2).1).trans h.2.2⟩)
  (by
   rw[Fk]
   exact λW W' h k=>⟨hbehX W W' h.1 k,(Below.block k _ (Array.getElem?_eq_some_iff.1 h.2.1).1).trans h.2.1,(Below.block k _ (Array.getElem?_eq_some_iff.1 h.2.2).1).trans h.2.2⟩)
  (by rw[hJ'];exact λi W h=>h.1) hY (by rw[hJ'];exact⟨hbeh i0 w W1 h0 aL,hL1,hK1⟩)
 refine⟨w.heap.size+1,[{ target:=.collected w.heap.size,args:=#[] }],W1,{ target:=.fn (.func gf) lb,args:=#[.func (.yield (w.heap.size+1)) #[] #[]] },W1,gf,
  #[.func (.yield (w.heap.size+1)) #[] #[]]++lb,W1,?_,?_,?_,?_,?_,?_⟩
 ·rw[<-hW1,yi];exact run_enterLoop_outer _ _ _ _ _
 ·simp only[resolve,hg]
  simp[go_sem]
 ·intro f' _
  trivial
 ·simp[invoke,go_sem,eg]
 ·intro e
  cases e
 ·refine key.mono ?_
  rintro e W2 ⟨⟨v,rfl⟩,⟨i,hF,hJi⟩|hJx⟩
  ·rw[hJ'] at hJi
   obtain⟨hi,hl,hk⟩:=hJi
   have hr:=run_endLoop (P:=P) hl (by rw[yi];simp)
   refine⟨none,_,by rw[hr,yi],hdone _ i _ (Nat.le_refl _) hF (hput i _ _ _ _ hi aa hl) ((World.putObj_heap_other aa).trans hk)⟩
  ·rw[Fk] at hJx
   obtain⟨hi,hl,hk⟩:=hJx
   have hr:=run_endLoop (P:=P) hl (by rw[yi];simp)
   refine⟨some jc,_,by rw[hr,yi],hleave _ _ (Nat.le_refl _) (hputX _ _ _ _ hi aa hl) ((World.putObj_heap_other aa).trans hk)⟩
def YKX (C:Cx) (Q:Exit->Act->World->Prop) (k:List It) (x:Operand) (ys:Array Operand) (d1 d2:Nat) (F:Fr) (H:Hp) (w:World):Prop:=
 ∃ (l:Nat) (us:List Value) (D:World->Cx),ev F x=some (.val (.func (.yield l) #[] #[]))/\evs F ys.toList=some us/\(∀ w,(D w).pd=C.pd)/\(∀ w,(D w).N=C.N)/\(∀ w,Cx.Old (D w) w)/\d1<C.N/\d2<C.N/\
   ∀ w1,aF C.K w w1->C.Old w1->YieldAt Fence.wide 0 C.P l us.toArray w1 λe w2=>∃ b:Bool,e=.returned (.bool b)/\∃ L,Au F L/\(L.all λp=> !Nat.beq p.1 d1 && !Nat.beq p.1 d2)=true/\VS (D w2) Q k (Fr.vals ((d2,.bool (!b))::L)) (λ_=>none) w2
theorem VS.LU {C:Cx} {F:Fr} {H:Hp} {w:World} {Q:Exit->Act->World->Prop} {k:List It} (hC:C.Ok) {id:Nat} {ops:Array Oper} (j:Nat) {o1 o2:Oper} {x:Operand} {ys:Array Operand} {ts:Array TypeId} {t:TypeId} {d1 d2:Nat} (hj:ops.toList.drop j=[o1,o2]) (hd:ops.toList.all cS=true)
  (h1:o1.op=.call { callee:=.value x,args:=ys,argTypes:=ts }) (g1:o1.guard=none) (e1:o1.dst=some d1) (h2:o2.op=.unOp .not t (.tmp d1)) (g2:o2.guard=none) (e2:o2.dst=some d2)
  (h:ar C none ops (ops.toList.take j) (YKX C Q k x ys d1 d2) F H w):VS C Q (.code (.region id ops false)::k) F H w:=λβ a w' hr hk=>by
 refine (wpIn_wide (n:=0)).1 (wpIn_region_list ?_)
 rw[<-List.take_append_drop j ops.toList,hj]
 refine gh cw.wide hC (tl:=[o1,o2]) (λβ F H w a w' h hr hk=> ?_) (ops.toList.take j) (List.all_eq_true.2 λo ho=>List.all_eq_true.1 hd o (List.mem_of_mem_take ho)) β F H w a w' h hr hk
 obtain⟨l,us,D,hx,hy,hP,hN,hO,hd1,hd2,hY⟩:=h
 obtain⟨fn,tmps,assign,body,ju,hR⟩:=hY w' hk hr.old
 have Jv:a.eval x=.func (.yield l) #[] #[]:=hr.ev hx
 have hy':ys.map a.eval=us.toArray:=by
  have:=hr.evs hy
  rw[<-Array.toList_inj,Array.toList_map];exact this
 refine wpListIn_plain g1 λK hK=>⟨λf _=>trivial,?_⟩
 have hs:(o1.semAt Fence.wide.round a.eval).run C.P w'=.ok (.round l fn tmps assign body) w':=by
  show (execOp a.eval o1).run C.P w'=_
  unfold execOp
  rw[h1]
  simp only[resolve,Jv,hy',Sem.run_bind,Sem.run_pure,Result.andThen_ok]
  show Sem.run C.P (Instr.yield l (#[]++us.toArray)) w'=_
  rw[Array.empty_append]
  exact ju
 rw[hs,Oper.uponIn_round]
 refine⟨λe=>(by cases e),hR.mono ?_⟩
 rintro e w2 ⟨b,rfl,L,hL,hLd,hv⟩
 refine hK _ _ ?_
 refine wpListIn_plain g2 λK hK=>⟨λf _=>trivial,?_⟩
 have hsz:a.tmps.size=C.N:=hr.size
 have ht:(a.put o1.dst (.bool b)).eval (.tmp d1)=.bool b:=by
  rw[e1]
  simp[Act.put,Act.eval,hsz,hd1]
 have hs2:(o2.semAt Fence.wide.round (a.put o1.dst (.bool b)).eval).run C.P w2=.ok (.value (.bool (!b))) w2:=by
  show (execOp _ o2).run C.P w2=_
  unfold execOp
  rw[h2]
  simp only[ht]
  cases b <;> rfl
 rw[hs2,Oper.uponIn_value]
 refine hK _ _ ?_
 show post C.P Q k .normal _ w2
 have hkn:Knows (D w2).N ((d2,.bool (!b))::L) ((a.put o1.dst (.bool b)).put o2.dst (.bool (!b))) (D w2).ds:=by
  rw[hN,show (D w2).ds=C.ds from congrArg Prod.snd (hP w2)]
  refine⟨by rw[e1,e2];exact hr.defers,by rw[e1,e2];simp[Act.put,hsz],λp hp=> ?_⟩
  rw[e1,e2]
  rcases List.mem_cons.1 hp with rfl|hp
  ·exact⟨hd2,by simp[Act.put,hsz,hd2]⟩
  ·have hm:=List.all_eq_true.1 hLd p hp
   rw[Bool.and_eq_true,Bool.not_eq_true',Bool.not_eq_true'] at hm
   have n1:d1≠p.1:=λe=>by rw[e,Nat.beq_refl] at hm;cases hm.1
   have n2:d2≠p.1:=λe=>by rw[e,Nat.beq_refl] at hm;cases hm.2
   refine⟨hr.fits _ _ (hL.mem hp),?_⟩
   have:=hr.tmp _ _ (hL.mem hp)
   simp[Act.put,Array.getD_eq_getD_getElem?,Array.getElem?_setIfInBounds,n1,n2] at this ⊢
   exact this
 have:=hv _ _ w2 (hkn.rel (hO w2)) (aF.refl _ _)
 rw[show (D w2).P=C.P from congrArg Prod.fst (hP w2)] at this
 exact this
theorem ln {Fe:Fence} {P:Program} {Q:Exit->Act->World->Prop}:∀ {stk:List It} {a:Act} {w:World},Q .ret a w->rk Fe P Q stk .ret a w
 | [],_,_,h=>h
 | .code _::s,_,_,h=>ln (stk:=s) h
 | .du _::s,_,_,h=>ln (stk:=s) h
 | .back _::s,_,_,h=>ln (stk:=s) h
 | .scope::s,_,_,h=>ln (stk:=s) h
section
variable {Fe:Fence} {C:Cx} {Q:Exit->Act->World->Prop} {k:List It} {F:Fr} {H:Hp} {w:World}
theorem fB.cond {c:Operand} {x y:Code} {b:Bool} (hc:gV F c=some (.bool b)) (h:fB Fe C Q (.code (bif b then x else y)::k) F H w):fB Fe C Q (.code (.cond c x y)::k) F H w:=λβ a w' hr hk=>
 wpIn_cond (t:=b) (hr.gV hc) (by cases b <;> exact h β a w' hr hk)
theorem fB.Cm {c:Operand} {x y:Code} {b:Bool} (b':Bool) (hc:gV F c=some (.bool b)) (hb:b=b') (h:fB Fe C Q (.code (bif b' then x else y)::k) F H w):fB Fe C Q (.code (.cond c x y)::k) F H w:=fB.cond hc (hb▸h)
theorem fB.aR {c:Operand} {x y:Code} {b:Bool} (hc:gV F c=some (.bool b)) (hb:b=true) (h:fB Fe C Q (.code x::k) F H w):fB Fe C Q (.code (.cond c x y)::k) F H w:=fB.Cm true hc hb h
theorem fB.aP {c:Operand} {x y:Code} {b:Bool} (hc:gV F c=some (.bool b)) (hb:b=false) (h:fB Fe C Q (.code y::k) F H w):fB Fe C Q (.code (.cond c x y)::k) F H w:=fB.Cm false hc hb h
theorem fB.skip (h:fB Fe C Q k F H w):fB Fe C Q (.code .skip::k) F H w:=λβ a w' hr hk=>wpIn_skip (h β a w' hr hk)
theorem fB.ret (h:∀ β a w',Rel C β F H a w'->aF C.K w w'->Q .ret a w'):fB Fe C Q (.code .ret::k) F H w:=λβ a w' hr hk=>wpIn_ret (ln (h β a w' hr hk))
end
theorem VS.goB {P:Program} {Q:Exit->Act->World->Prop} {k:List It} {a:Act} {w:World} {id:Nat} {c:Code} (h:c.wpIn Fence.wide 0 P (post P Q (.du id::k)) a w):post P Q (.code (.block id c)::k) .normal a w:=wp_block ((wpIn_wide (n:=0)).1 h)
def EK (Fe:Fence) (C:Cx) (Q:Exit->Act->World->Prop) (k:List It) (full:Array Oper) (o:Oper) (F:Fr) (H:Hp) (w:World):Prop:=
 ∃ (g:FuncId) (args:List AV) (vs:List Value),stepOf C full F H o=.call (.fn g args)/\dV args=some vs/\ng C.P g/\
   ∀ w1,aF C.K w w1->C.Old w1->Calls C.P g vs.toArray w1 λe w2=>∃ v,e=.returned v/\∀ a',rk Fe C.P Q k .normal a' w2
theorem fB.regionE {Fe:Fence} {C:Cx} {Q:Exit->Act->World->Prop} {k:List It} {F:Fr} {H:Hp} {w:World} (hB:cw Fe) (hC:C.Ok) {id:Nat} {ops:Array Oper} (j:Nat) {o:Oper} (hj:ops.toList.drop j=[o]) (hd:ops.toList.all cS=true) (ho:cS o=true)
  (h:ar C none ops (ops.toList.take j) (EK Fe C Q k ops o) F H w):fB Fe C Q (.code (.region id ops false)::k) F H w:=λβ a w' hr hk=>by
 refine wpIn_region_list ?_
 rw[<-List.take_append_drop j ops.toList,hj]
 refine gh hB hC (tl:=[o]) (λβ F H w a w' h hr hk=> ?_) (ops.toList.take j) (List.all_eq_true.2 λo ho=>List.all_eq_true.1 hd o (List.mem_of_mem_take ho)) β F H w a w' h hr hk
 obtain⟨g,args,vs,e,hv,hf,gU⟩:=h
 refine wpListIn_step λK hK=> ?_
 have hb:stepOf C ops F H o≠.bad:=λe'=>by rw[e] at e';cases e'
 obtain⟨fQ,⟨hw,hs⟩|⟨hw,hs⟩⟩:=fR hb
 ·rw[hs] at e;cases e
 ·rw[fW hr hw,if_pos rfl]
  refine hB.op ho (uR hr (hs.symm.trans e) ?_)
  refine⟨hf,?_⟩
  rw[ey hv,eP]
  refine (gU w' hk hr.old).mono ?_
  rintro e w2 ⟨v,rfl,Df⟩
  exact⟨v,rfl,hK _ _ (Df _)⟩
theorem VS.adopt1 {C:Cx} {Q:Exit->Act->World->Prop} {k:List It} {F:Fr} {H:Hp} {w:World} (K:KC) (SU:TypeId->Bool) (ti:TypeId->Option TI) (keep:∀ (w':World) b,b<w'.heap.size->K.S b) (q g:Nat) (t:TypeId) (cs:List Value) (ht:K.fz t=false) (hk:cs.all aZ=true)
  (h:∀ w' β,aF C.K w w'->C.Old w'->Ends C β H w'->∃ (L:List (Nat×Value)) (hc:aE w' g t cs.toArray),rz F β ((q,.pointer (some ⟨g,0,none⟩))::L)/\VS (IU (pQ C.P w' C.N K SU ti (keep w') [g] (fX g) (ad1 hc ht hk)) C.ds) Q k (Fr.put (Fr.vals L) q (.box (2*C.N) 0)) (Hp.one (2*C.N) t cs) w'):VS C Q k F H w:=λβ a w' hr xA=>by
 obtain⟨L,hc,hL,hv⟩:=h w' β xA hr.old ⟨hr.own,hr.apart⟩
 have hkn:=hr.qf hL
 have hkn0:Knows C.N ((q,.pointer (some ⟨g,0,none⟩))::L) { a with defers:=[] }:=⟨rfl,hkn.size,hkn.tmp⟩
 have h1:=(Av (P:=C.P) (SU:=SU) (ti:=ti) (keep:=keep w') (ha:=ad1 hc ht hk) L q hkn0 hc ht hk).LR C.ds
 have h2:({ ({ a with defers:=[] }:Act) with defers:=C.ds }:Act)=a:=by
  cases a with
  | mk tm df=>have:=hkn.defers;simp only at this;subst this;rfl
 rw[h2] at h1
 exact hv _ a w' h1 (aF.refl _ _)
end
end Go.Proofs.YtlifeokjcgngjaaGreat
