/- Df of the proof,laid behind one another. -/
import Derived.Test.YtabalinjfgcfeaaGreatKInterestKeeps3
set_option linter.all false
set_option maxHeartbeats 64000000
set_option maxRecDepth 4000
namespace Go.Proofs.YtabalinjfgcfeaaGreat
section
open Go.RowKit
attribute [local irreducible] aC VS
theorem tK (w:World):Calls Tryz.prog 77 #[] w fun e w'=>∃ r,e=.returned r/\aD w' w.heap.size r 1/\aL w w':=by
 refine ag (C:=bP Tryz.prog w _) (args:=[]) Tryz.func77 rfl Tryz.ntmps77 (bu rfl) ?_
 refine aa ?_
 refine VO.call rfl rfl (fk Tryz.func82) (fun bD cQ bG=>(MV 1 bD ab ab).mono ?_)
 rintro e w1 ⟨r1,rfl,h1,aI⟩
 obtain ⟨s1,p1,n1,c1,rfl⟩:=h1.form
 refine ⟨_,rfl,aI,fun dt _ bb1=>wV rfl ?_⟩
 refine aa ?_
 refine aR ?_;intro wz kz bz
 exact ⟨_,rfl,(h1.kp kz).mono bG.size,bz⟩
def Cz (s:Bool) (xs:List Nat) (t:Bool) (ys:List Nat):Bool:=dP s xs && (dP t ys && (decide (0 < numOf t ys) && decide (Int.gcd (numOf s xs) (numOf t ys)=1)))
theorem IV {s t:Bool} {xs ys:List Nat} (h:Cz s xs t ys=false):rq s xs t ys=0:=by
 unfold rq La
 split
 ·rename_i hc
  cases h1:dP s xs with
  | false=>unfold numOf;rw [if_neg (by simp [h1])];simp
  | true=>
    cases h2:dP t ys with
    | false=>
      have:numOf t ys=0:=by unfold numOf;rw [if_neg (by simp [h2])]
      omega
    | true=>
      unfold Cz at h
      rw [h1,h2,decide_eq_true hc.1,decide_eq_true hc.2] at h
      cases h
 ·rfl
theorem rtB_inv {s t:Bool} {xs ys:List Nat} (h:Cz s xs t ys=true):dP s xs=true/\dP t ys=true/\0 < numOf t ys/\Int.gcd (numOf s xs) (numOf t ys)=1:=by
 unfold Cz at h
 simp only [Bool.and_eq_true,decide_eq_true_eq] at h
 exact h
theorem gm.lim {w:World} {v:Value} {s:Bool} {xs:List Nat} (h:gm w v s xs):cR xs:=by
 obtain ⟨_,_,_,_,l⟩:=h
 exact l
theorem IW {w:World} {v:Value} {s t:Bool} {xs ys:List Nat} (hv:eF w v s xs t ys) (h:Cz s xs t ys=true):bE w v (rq s xs t ys):=by
 obtain ⟨h1,h2,h3,h4⟩:=rtB_inv h
 obtain ⟨p,c,r,d,rfl,a1,a2⟩:=hv
 obtain ⟨e1,e2⟩:=tG ⟨h3,h4⟩
 refine ⟨s,p,_,c,t,r,_,d,rfl,?_,?_⟩
 ·unfold rq;rw [e1]
  have l:=a1.lim
  unfold numOf
  rw [if_pos h1]
  obtain ⟨c1,c2⟩:=canon l h1
  show gm _ _ _ _
  rw [<-c1,<-c2]
  assumption
 ·unfold rq;rw [e2]
  have l:=a2.lim
  unfold numOf
  rw [if_pos h2]
  obtain ⟨c1,c2⟩:=canon l h2
  show gm _ _ _ _
  rw [<-c1,<-c2]
  assumption
theorem gm.in {w:World} {v:Value} {s:Bool} {xs:List Nat} {k:Nat} (h:gm w v s xs) (hk:xs.length≤k):cA w v (numOf s xs) k:=⟨s,xs,h,rfl,hk⟩
theorem vm (s t:Bool) (xs ys:List Nat) (v:Value) (w:World) (h:eF w v s xs t ys) (hx:xs.length≤536870912) (hy:ys.length≤536870912):
  Calls Tryz.prog 68 #[v] w fun e w'=>e=.returned (.bool (Cz s xs t ys))/\aL w w':=by
 obtain ⟨p,c,r,d,rfl,h1,h2⟩:=h
 refine ag (C:=bP Tryz.prog w _) (args:=[_]) Tryz.func68 rfl Tryz.ntmps68 (bu rfl) ?_
 refine aa ?_
 refine VO.call rfl rfl (fk Tryz.func102) (fun bD cQ bG=>(tz s xs _ bD (h1.bo bG)).mono ?_)
 rintro e w1 ⟨rfl,aI⟩
 cases q1:dP s xs
 ·refine ⟨_,rfl,aI,fun dt _ bb1=>wV rfl ?_⟩
  refine aa ?_
  refine aR ?_;intro wz kz bz
  exact ⟨by simp [Cz,q1,jc],bz⟩
 refine ⟨_,rfl,aI,fun dt _ bb1=>wV rfl ?_⟩
 refine aa ?_
 refine VO.call rfl rfl (fk Tryz.func102) (fun cG dQ cV=>(tz t ys _ cG (h2.bo cV)).mono ?_)
 rintro e w2 ⟨rfl,ba⟩
 cases q2:dP t ys
 ·refine ⟨_,rfl,ba,fun dR _ bb2=>wV rfl ?_⟩
  refine aa ?_
  refine aR ?_;intro wz kz bz
  exact ⟨by simp [Cz,q1,q2,jc],bz⟩
 refine ⟨_,rfl,ba,fun dR _ bb2=>wV rfl ?_⟩
 refine aa ?_
 refine VO.call rfl rfl (fk Tryz.func43) (fun eX fF fM=>(rZ _ (numOf t ys) _ eX ((h2.in (Nat.le_refl _)).bo fM)).mono ?_)
 rintro e w3 ⟨rfl,cC⟩
 by_cases q3:0 < numOf t ys
 ·rw [fh q3]
  refine ⟨_,rfl,cC,fun gZ _ bb3=>wV rfl ?_⟩
  refine aa ?_
  refine VO.call rfl rfl (fk Tryz.func103) (fun jg kZ kt=>(IC _ _ (numOf s xs) (numOf t ys) _ _ jg ((h1.in (Nat.le_refl _)).bo kt) ((h2.in (Nat.le_refl _)).bo kt) hx hy).mono ?_)
  rintro e w4 ⟨r4,rfl,h4,fq⟩
  obtain ⟨s4,p4,n4,c4,rfl⟩:=h4.form
  refine ⟨_,rfl,fq,fun lz _ tH=>wV rfl ?_⟩
  refine aa ?_
  refine VO.call rfl rfl (fk Tryz.func77) (fun gE ju ia=>(tK gE).mono ?_)
  rintro e w5 ⟨r5,rfl,h5,eP⟩
  obtain ⟨s5,p5,n5,c5,rfl⟩:=h5.form
  refine ⟨_,rfl,eP,fun jV _ qu=>wV rfl ?_⟩
  refine aa ?_
  have hg:Sz (Int.gcd (numOf s xs) (numOf t ys):Int) ys.length:=by
   obtain ⟨_,_,_,_,l2⟩:=h2
   refine Sz.le (Y:=numOf t ys) (uZ l2 (Nat.le_refl _)) ?_
   rw [Int.natAbs_natCast,<-Int.natAbs_natCast (Int.gcd (numOf s xs) (numOf t ys))]
   have:=Int.gcd_dvd_right (numOf s xs) (numOf t ys)
   have:=Int.natAbs_dvd_natAbs.2 this
   exact Nat.le_of_dvd ab this
  refine VO.call rfl rfl (fk Tryz.func41) (fun gF ld iC=>(ru _ _ (Int.gcd (numOf s xs) (numOf t ys):Int) 1 _ 1 gF ((h4.kp (ju.aN ((Kp.of eP).aN ld))).in hg) ((h5.kp ld).in (Sz.small bW)) ab ab).mono ?_)
  rintro e w6 ⟨rfl,fK⟩
  by_cases q4:Int.gcd (numOf s xs) (numOf t ys)=1
  ·rw [show ((Int.gcd (numOf s xs) (numOf t ys):Int) - 1).sign=0 by rw [q4];rfl]
   refine ⟨_,rfl,fK,fun lG _ pO=>wV rfl ?_⟩
   refine aa ?_
   refine aR ?_;intro wz kz bz
   exact ⟨by simp [Cz,q1,q2,q3,q4,jc],bz⟩
  ·have hne:(((Int.gcd (numOf s xs) (numOf t ys):Int) - 1).sign == 0)=false:=by
    rw [beq_eq_false_iff_ne]
    intro e
    have:=Int.sign_eq_zero_iff_zero.1 e
    omega
   refine ⟨_,rfl,fK,fun lG _ pO=>wV rfl ?_⟩
   refine aa ?_
   refine aR ?_;intro wz kz bz
   exact ⟨by simp only [Cz,q1,q2,q3,q4,jc,Bool.true_and,decide_true,decide_false,hne],bz⟩
 ·have q4:(numOf t ys).sign=0\/(numOf t ys).sign= -1:=by
   rcases Int.lt_trichotomy (numOf t ys) 0 with e | e | e
   ·exact .inr (sign_neg e)
   ·rw [e];exact .inl rfl
   ·exact absurd e q3
  rcases q4 with q4 | q4
  all_goals
   rw [q4]
   refine ⟨_,rfl,cC,fun gZ _ bb3=>wV rfl ?_⟩
   refine aa ?_
   refine aR ?_;intro wz kz bz
   exact ⟨by simp [Cz,q1,q2,q3,jc],bz⟩
theorem bE.zero {w:World} {p:Option Addr} {n c:Nat} {s:Bool} (h:cI w (.agg #[.bool s,.slice p n c]) 1):bE w (.agg #[.bool false,.slice none 0 0,.bool s,.slice p n c]) 0:=⟨_,_,_,_,_,_,_,_,rfl,cI.zero _,h⟩
theorem cM (v:Value) (q:Rat) (k:Nat) (w:World) (h:bA w v q k) (hk:k≤536870912):
  Calls Tryz.prog 40 #[v] w fun e w'=>∃ r,e=.returned r/\bE w' r q/\aL w w':=by
 obtain ⟨s,xs,t,ys,tr,rfl,hx,hy⟩:=h
 have IX:=tr
 obtain ⟨p,c,r,d,rfl,_,_⟩:=tr
 refine ag (C:=bP Tryz.prog w _) (args:=[_]) Tryz.func40 rfl Tryz.ntmps40 (bu rfl) ?_
 refine aa ?_
 refine VO.call rfl rfl (fk Tryz.func68) (fun bD cQ bG=>(vm s t xs ys _ bD (IX.kp cQ) ab ab).mono ?_)
 rintro e w1 ⟨rfl,aI⟩
 cases hq:Cz s xs t ys
 ·refine ⟨_,rfl,aI,fun dt _ bb1=>wV rfl ?_⟩
  refine aa ?_
  refine VO.call rfl rfl (fk Tryz.func77) (fun cG dQ cV=>(tK cG).mono ?_)
  rintro e w2 ⟨r2,rfl,h2,ba⟩
  obtain ⟨s2,p2,n2,c2,rfl⟩:=h2.form
  refine ⟨_,rfl,ba,fun dR _ bb2=>wV rfl ?_⟩
  refine aa ?_
  refine aR ?_;intro wz kz bz
  exact ⟨_,rfl,by rw [IV hq];exact bE.zero (h2.kp kz).rd,bz⟩
 ·refine ⟨_,rfl,aI,fun dt _ bb1=>wV rfl ?_⟩
  refine aa ?_
  refine aR ?_;intro wz kz bz
  exact ⟨_,rfl,(IW IX hq).kp (dt.aN kz),bz⟩
theorem Fh {X Y:Int} {k:Nat} (hY:Sz Y k) (h:Y≠0):Sz (Int.gcd X Y:Int) k:=by
 refine Sz.le (Y:=Y) hY ?_
 rw [Int.natAbs_natCast,<-Int.natAbs_natCast (Int.gcd X Y)]
 exact Nat.le_of_dvd ab (Int.natAbs_dvd_natAbs.2 (Int.gcd_dvd_right X Y))
theorem fT {w w':World} {X Y:Int} {e:Ending} (h:Bp w w' X Y e) (hY:Y≠0):∃ v u,e=.returned (.tuple #[v,u,.int .i64 0])/\aD w' w.heap.size v (X.fdiv Y)/\aD w' w.heap.size u (X.fmod Y):=by
 rcases h with ⟨h0,_⟩ | ⟨_,h⟩
 ·exact absurd h0 hY
 ·exact h
theorem rC (v u:Value) (X Y:Int) (j k:Nat) (w:World) (hv:cA w v X j) (hu:cA w u Y k) (hj:j≤268435456) (hk:k≤268435456) (hY:Y≠0):
  Calls Tryz.prog 83 #[v,u] w fun e w'=>∃ r,e=.returned r/\aH w' w.heap.size r (Rat.divInt X Y)/\aL w w':=by
 obtain ⟨s,p,n,c,rfl⟩:=hv.form
 obtain ⟨t,r,m,d,rfl⟩:=hu.form
 refine ag (C:=bP Tryz.prog w _) (args:=[_,_]) Tryz.func83 rfl Tryz.ntmps83 (bu rfl) ?_
 refine aa ?_
 refine VO.call rfl rfl (fk Tryz.func103) (fun bD cQ bG=>(IC _ _ X Y j k bD (hv.kp cQ) (hu.kp cQ) ab ab).mono ?_)
 rintro e w1 ⟨r1,rfl,h1,aI⟩
 obtain ⟨s1,p1,n1,c1,rfl⟩:=h1.form
 refine ⟨_,rfl,aI,fun dt _ bb1=>wV rfl ?_⟩
 refine aa ?_
 refine VO.call rfl rfl (fk Tryz.func43) (fun cG dQ cV=>(rZ _ Y k cG (hu.bo cV)).mono ?_)
 rintro e w2 ⟨rfl,ba⟩
 have Ta:Sz (Int.gcd X Y:Int) k:=Fh hu.len hY
 have Sw:(Int.gcd X Y:Int)≠0:=by
  intro e
  have:=(Int.gcd_eq_zero_iff.1 (show Int.gcd X Y=0 by omega)).2
  exact hY this
 rcases Int.lt_or_lt_of_ne hY with q | q
 ·rw [sign_neg q]
  obtain ⟨l1,l2⟩:=low_neg (X:=X) q
  refine ⟨_,rfl,ba,fun dR _ bb2=>wV rfl ?_⟩
  refine aa ?_
  refine VO.call rfl rfl (fk Tryz.func113) (fun eX fF fM=>(IB _ (Int.gcd X Y:Int) k eX ((h1.kp (dR.aN fF)).in Ta) ab).mono ?_)
  rintro e w3 ⟨r3,rfl,h3,cC⟩
  obtain ⟨s3,p3,n3,c3,rfl⟩:=h3.form
  refine ⟨_,rfl,cC,fun gZ _ bb3=>wV rfl ?_⟩
  refine aa ?_
  refine VO.call rfl rfl (fk Tryz.func114) (fun jg kZ kt=>(nk _ _ X (-(Int.gcd X Y:Int)) j k jg (hv.bo kt) ((h3.kp kZ).in Ta.neg) ab ab).mono ?_)
  rintro e w4 ⟨hd4,fq⟩
  obtain ⟨v4,u4,rfl,h4,h4'⟩:=fT hd4 ab
  obtain ⟨s4,p4,n4,c4,rfl⟩:=h4.form
  obtain ⟨t4,r4,m4,d4,rfl⟩:=h4'.form
  refine ⟨_,rfl,fq,fun lz _ tH=>wV rfl ?_⟩
  refine aa ?_
  refine VO.call rfl rfl (fk Tryz.func114) (fun gE ju ia=>(nk _ _ Y (-(Int.gcd X Y:Int)) k k gE (hu.bo ia) ((h3.kp (lz.aN ju)).in Ta.neg) ab ab).mono ?_)
  rintro e w5 ⟨hd5,eP⟩
  obtain ⟨v5,u5,rfl,h5,h5'⟩:=fT hd5 ab
  obtain ⟨s5,p5,n5,c5,rfl⟩:=h5.form
  obtain ⟨t5,r5,m5,d5,rfl⟩:=h5'.form
  refine ⟨_,rfl,eP,fun jV _ qu=>wV rfl ?_⟩
  refine aa ?_
  refine aR ?_;intro wz kz bz
  exact ⟨_,rfl,⟨_,_,_,_,_,_,_,_,rfl,aD.cast ((h4.kp (jV.aN kz)).mono kt.size) l1,aD.cast ((h5.kp kz).mono ia.size) l2⟩,bz⟩
 ·rw [fh q]
  obtain ⟨l1,l2⟩:=zZ (X:=X) q
  refine ⟨_,rfl,ba,fun dR _ bb2=>wV rfl ?_⟩
  refine aa ?_
  refine VO.call rfl rfl (fk Tryz.func114) (fun jg kZ kt=>(nk _ _ X (Int.gcd X Y:Int) j k jg (hv.bo kt) ((h1.kp (dR.aN kZ)).in Ta) ab ab).mono ?_)
  rintro e w4 ⟨hd4,fq⟩
  obtain ⟨v4,u4,rfl,h4,h4'⟩:=fT hd4 ab
  obtain ⟨s4,p4,n4,c4,rfl⟩:=h4.form
  obtain ⟨t4,r4,m4,d4,rfl⟩:=h4'.form
  refine ⟨_,rfl,fq,fun lz _ tH=>wV rfl ?_⟩
  refine aa ?_
  refine VO.call rfl rfl (fk Tryz.func114) (fun gE ju ia=>(nk _ _ Y (Int.gcd X Y:Int) k k gE (hu.bo ia) ((h1.kp (dR.aN (lz.aN ju))).in Ta) ab ab).mono ?_)
  rintro e w5 ⟨hd5,eP⟩
  obtain ⟨v5,u5,rfl,h5,h5'⟩:=fT hd5 ab
  obtain ⟨s5,p5,n5,c5,rfl⟩:=h5.form
  obtain ⟨t5,r5,m5,d5,rfl⟩:=h5'.form
  refine ⟨_,rfl,eP,fun jV _ qu=>wV rfl ?_⟩
  refine aa ?_
  refine aR ?_;intro wz kz bz
  exact ⟨_,rfl,⟨_,_,_,_,_,_,_,_,rfl,aD.cast ((h4.kp (jV.aN kz)).mono kt.size) l1,aD.cast ((h5.kp kz).mono ia.size) l2⟩,bz⟩
end
section
open Go.RowKit
attribute [local irreducible] aC VS
theorem Ac (q r:Rat):q + r=Rat.divInt (q.num * r.den + r.num * q.den) ((q.den:Int) * r.den):=by
 rw [Rat.add_def',<-Rat.divInt_ofNat];simp
theorem add_same {q r:Rat} (h:(q.den:Int)=r.den):q + r=Rat.divInt (q.num + r.num) q.den:=by
 rw [Ac,<-h]
 have hd:(q.den:Int)≠0:=by have:=q.den_nz;omega
 rw [<-Int.add_mul,Rat.divInt_mul_right hd]
theorem Fi (q r:Rat):q * r=Rat.divInt (q.num * r.num) ((q.den:Int) * r.den):=by
 rw [Rat.mul_def',<-Rat.divInt_ofNat];simp
theorem oL {X Y:Int} {k l:Nat} (hX:Sz X k) (hY:Sz Y l) (h:Y≠0):Sz (Rat.divInt X Y).num k/\Sz ((Rat.divInt X Y).den:Int) l:=by
 constructor
 ·refine Sz.le hX ?_
  rw [Rat.num_divInt]
  have h1:(Y.sign * X / (Y.gcd X:Int)).natAbs≤(Y.sign * X).natAbs:=Int.natAbs_ediv_le_natAbs _ _
  rw [Int.natAbs_mul] at h1
  have h2:Y.sign.natAbs=1:=by
   rcases Int.lt_or_lt_of_ne h with e | e
   ·rw [sign_neg e];rfl
   ·rw [fh e];rfl
  rw [h2,Nat.one_mul] at h1
  exact h1
 ·refine Sz.le hY ?_
  rw [Rat.den_divInt,if_neg h,Int.natAbs_natCast]
  exact Nat.div_le_self _ _
theorem et.add {q r:Rat} {k l:Nat} (hq:et q k) (hr:et r l):et (q + r) (k + l + 1):=by
 rw [Ac]
 have hd:(q.den:Int) * r.den≠0:=Int.mul_ne_zero (by have:=q.den_nz;omega) (by have:=r.den_nz;omega)
 obtain ⟨h1,h2⟩:=oL (Sz.add (hq.1.mul hr.2) (hr.1.mul hq.2) (m:=k + l) ab ab) (hq.2.mul hr.2) hd
 exact ⟨h1,h2.mono ab⟩
theorem et.mul {q r:Rat} {k l:Nat} (hq:et q k) (hr:et r l):et (q * r) (k + l):=by
 rw [Fi]
 have hd:(q.den:Int) * r.den≠0:=Int.mul_ne_zero (by have:=q.den_nz;omega) (by have:=r.den_nz;omega)
 exact oL (hq.1.mul hr.1) (hq.2.mul hr.2) hd
theorem et.neg {q:Rat} {k:Nat} (hq:et q k):et (-q) k:=⟨by rw [Rat.neg_num];exact hq.1.neg,by rw [Rat.neg_den];exact hq.2⟩
theorem et.sub {q r:Rat} {k l:Nat} (hq:et q k) (hr:et r l):et (q - r) (k + l + 1):=by rw [Rat.sub_eq_add_neg];exact hq.add hr.neg
def eg (q r:Rat):Int:=if q < r then -1 else if q=r then 0 else 1
theorem IY (q r:Rat):(q.num * r.den - r.num * q.den).sign=eg q r:=by
 unfold eg
 by_cases h1:q < r
 ·rw [if_pos h1];exact sign_neg (by have:=(Rat.lt_iff q r).1 h1;omega)
 ·rw [if_neg h1]
  by_cases h2:q=r
  ·subst h2;rw [if_pos rfl,Int.sub_self];rfl
  ·rw [if_neg h2]
   refine fh ?_
   have a:=mt (Rat.lt_iff q r).2 h1
   have b:=mt Rat.eq_iff_mul_eq_mul.2 h2
   omega
theorem Ef (q:Rat):q.num.sign=eg q 0:=by
 have:=IY q 0
 simpa using this
theorem Tb (q r:Rat):eg (q - r) 0=eg q r:=by
 unfold eg
 have h1:q - r < 0↔q < r:=by grind
 have h2:q - r=0↔q=r:=by grind
 simp only [h1,h2]
def IZ (Y:Int):Int:=if Y=0 then 20 else 0
theorem bX (n:Int) (w:World) (h0: -9223372036854775808≤n) (h1:n≤9223372036854775807):
  Calls Tryz.prog 44 #[.int .i64 n] w fun e w'=>∃ r,e=.returned r/\aH w' w.heap.size r (n:Rat)/\aL w w':=by
 refine ag (C:=bP Tryz.prog w _) (args:=[_]) Tryz.func44 rfl Tryz.ntmps44 (bu rfl) ?_
 refine aa ?_
 refine VO.call rfl rfl (fk Tryz.func82) (fun bD cQ bG=>(MV n bD h0 h1).mono ?_)
 rintro e w1 ⟨r1,rfl,q1,aI⟩
 obtain ⟨s1,p1,n1,c1,rfl⟩:=q1.form
 refine ⟨_,rfl,aI,fun dt _ bb1=>wV rfl ?_⟩
 refine aa ?_
 refine VO.call rfl rfl (fk Tryz.func77) (fun cG dQ cV=>(tK cG).mono ?_)
 rintro e w2 ⟨r2,rfl,q2,ba⟩
 obtain ⟨s2,p2,n2,c2,rfl⟩:=q2.form
 refine ⟨_,rfl,ba,fun dR _ bb2=>wV rfl ?_⟩
 refine aa ?_
 refine aR ?_;intro wz kz bz
 exact ⟨_,rfl,⟨_,_,_,_,_,_,_,_,rfl,(q1.kp (dR.aN kz)).mono bG.size,(q2.kp kz).mono cV.size⟩,bz⟩
theorem oM (v u:Value) (q r:Rat) (k l:Nat) (w:World) (hv:bE w v q) (hu:bE w u r) (hq:et q k) (hr:et r l) (hk:k≤67108864) (hl:l≤67108864):
  Calls Tryz.prog 45 #[v,u] w fun e w'=>∃ x,e=.returned x/\aH w' w.heap.size x (q + r)/\aL w w':=by
 obtain ⟨s,p,n,c,t,y,m,d,rfl⟩:=hv.form
 obtain ⟨s',p',n',c',t',y',m',d',rfl⟩:=hu.form
 obtain ⟨v1,v2⟩:=hv.parts
 obtain ⟨u1,u2⟩:=hu.parts
 have dq:(q.den:Int)≠0:=by have:=q.den_nz;omega
 have dr:(r.den:Int)≠0:=by have:=r.den_nz;omega
 refine ag (C:=bP Tryz.prog w _) (args:=[_,_]) Tryz.func45 rfl Tryz.ntmps45 (bu rfl) ?_
 refine aa ?_
 refine VO.call rfl rfl (fk Tryz.func41) (fun bD cQ bG=>(ru _ _ (q.den:Int) r.den k l bD ((v2.bo bG).to hq.2) ((u2.bo bG).to hr.2) ab ab).mono ?_)
 rintro e w1 ⟨rfl,aI⟩
 by_cases hd:(q.den:Int)=r.den
 ·rw [show ((q.den:Int) - r.den).sign=0 by rw [hd,Int.sub_self];rfl]
  refine ⟨_,rfl,aI,fun dt _ bb1=>wV rfl ?_⟩
  refine aa ?_
  refine VO.call rfl rfl (fk Tryz.func84) (fun cG dQ cV=>(IA _ _ q.num r.num k l cG ((v1.bo cV).to hq.1) ((u1.bo cV).to hr.1) ab ab).mono ?_)
  rintro e w2 ⟨r2,rfl,q2,ba⟩
  obtain ⟨s2,p2,n2,c2,rfl⟩:=q2.form
  refine ⟨_,rfl,ba,fun dR _ bb2=>wV rfl ?_⟩
  refine aa ?_
  refine VO.call rfl rfl (fk Tryz.func83) (fun eX fF fM=>(rC _ _ (q.num + r.num) q.den (k + l + 1) k eX ((q2.kp fF).in (Sz.add hq.1 hr.1 ab ab)) ((v2.bo fM).to hq.2) ab ab dq).mono ?_)
  rintro e w3 ⟨r3,rfl,q3,cC⟩
  obtain ⟨s3,p3,n3,c3,t3,y3,m3,d3,rfl⟩:=q3.form
  refine ⟨_,rfl,cC,fun gZ _ bb3=>wV rfl ?_⟩
  refine aa ?_
  refine aR ?_;intro wz kz bz
  exact ⟨_,rfl,aH.cast ((q3.kp kz).mono fM.size) (add_same hd).symm,bz⟩
 ·have hs:((((q.den:Int) - r.den).sign == 0))=false:=by
   rw [beq_eq_false_iff_ne]
   intro e
   have:=Int.sign_eq_zero_iff_zero.1 e
   omega
  rcases Int.lt_or_lt_of_ne (show (q.den:Int) - r.den≠0 by omega) with e | e
  all_goals
   first | rw [sign_neg e] | rw [fh e]
   refine ⟨_,rfl,aI,fun dt _ bb1=>wV rfl ?_⟩
   refine aa ?_
   refine VO.call rfl rfl (fk Tryz.func42) (fun cG dQ cV=>(mB _ _ q.num r.den k l cG ((v1.bo cV).to hq.1) ((u2.bo cV).to hr.2) ab ab).mono ?_)
   rintro e w2 ⟨r2,rfl,q2,ba⟩
   obtain ⟨s2,p2,n2,c2,rfl⟩:=q2.form
   refine ⟨_,rfl,ba,fun dR _ bb2=>wV rfl ?_⟩
   refine aa ?_
   refine VO.call rfl rfl (fk Tryz.func42) (fun eX fF fM=>(mB _ _ r.num q.den l k eX ((u1.bo fM).to hr.1) ((v2.bo fM).to hq.2) ab ab).mono ?_)
   rintro e w3 ⟨r3,rfl,q3,cC⟩
   obtain ⟨s3,p3,n3,c3,rfl⟩:=q3.form
   refine ⟨_,rfl,cC,fun gZ _ bb3=>wV rfl ?_⟩
   refine aa ?_
   refine VO.call rfl rfl (fk Tryz.func84) (fun jg kZ kt=>(IA _ _ (q.num * r.den) (r.num * q.den) (k + l) (l + k) jg ((q2.kp (gZ.aN kZ)).in (hq.1.mul hr.2)) ((q3.kp kZ).in (hr.1.mul hq.2)) ab ab).mono ?_)
   rintro e w4 ⟨r4,rfl,q4,fq⟩
   obtain ⟨s4,p4,n4,c4,rfl⟩:=q4.form
   refine ⟨_,rfl,fq,fun lz _ tH=>wV rfl ?_⟩
   refine aa ?_
   refine VO.call rfl rfl (fk Tryz.func42) (fun gE ju ia=>(mB _ _ q.den r.den k l gE ((v2.bo ia).to hq.2) ((u2.bo ia).to hr.2) ab ab).mono ?_)
   rintro e w5 ⟨r5,rfl,q5,eP⟩
   obtain ⟨s5,p5,n5,c5,rfl⟩:=q5.form
   refine ⟨_,rfl,eP,fun jV _ qu=>wV rfl ?_⟩
   refine aa ?_
   refine VO.call rfl rfl (fk Tryz.func83) (fun gF ld iC=>(rC _ _ (q.num * r.den + r.num * q.den) ((q.den:Int) * r.den) (k + l + 1) (k + l) gF ((q4.kp (jV.aN ld)).in (Sz.add (hq.1.mul hr.2) (hr.1.mul hq.2) ab ab)) ((q5.kp ld).in (hq.2.mul hr.2)) ab ab (Int.mul_ne_zero dq dr)).mono ?_)
   rintro e w6 ⟨r6,rfl,q6,fK⟩
   obtain ⟨s6,p6,n6,c6,t6,y6,m6,d6,rfl⟩:=q6.form
   refine ⟨_,rfl,fK,fun lG _ pO=>wV rfl ?_⟩
   refine aa ?_
   refine aR ?_;intro wz kz bz
   exact ⟨_,rfl,aH.cast ((q6.kp kz).mono iC.size) (Ac q r).symm,bz⟩
end
section
open Go.RowKit
attribute [local irreducible] aC VS
def fj (k:Nat):Nat:=max k 1
theorem bA.sG {w:World} {v:Value} {q:Rat} {k:Nat} (h:bA w v q k):et q (fj k):=by
 obtain ⟨s,xs,t,ys,h1,h2,h3,h4⟩:=h
 exact bA.sz (k:=fj k) ⟨s,xs,t,ys,h1,h2,by unfold fj;omega,by unfold fj;omega⟩ (by unfold fj;omega)
theorem fx (v u:Value) (q r:Rat) (k l:Nat) (w:World) (hv:bA w v q k) (hu:bA w u r l) (hk:k≤67108864) (hl:l≤67108864):
  Calls Tryz.prog 16 #[v,u] w fun e w'=>∃ x,e=.returned x/\aH w' w.heap.size x (q + r)/\aL w w':=by
 obtain ⟨s,p,n,c,t,y,m,d,rfl⟩:=hv.form
 obtain ⟨s',p',n',c',t',y',m',d',rfl⟩:=hu.form
 refine ag (C:=bP Tryz.prog w _) (args:=[_,_]) Tryz.func16 rfl Tryz.ntmps16 (bu rfl) ?_
 refine aa ?_
 refine VO.call rfl rfl (fk Tryz.func40) (fun bD cQ bG=>(cM _ q k bD (hv.kp cQ) ab).mono ?_)
 rintro e w1 ⟨r1,rfl,q1,aI⟩
 obtain ⟨s1,p1,n1,c1,t1,y1,m1,d1,rfl⟩:=q1.form
 refine ⟨_,rfl,aI,fun dt _ bb1=>wV rfl ?_⟩
 refine aa ?_
 refine VO.call rfl rfl (fk Tryz.func40) (fun cG dQ cV=>(cM _ r l cG (hu.kp (dt.aN dQ)) ab).mono ?_)
 rintro e w2 ⟨r2,rfl,q2,ba⟩
 obtain ⟨s2,p2,n2,c2,t2,y2,m2,d2,rfl⟩:=q2.form
 refine ⟨_,rfl,ba,fun dR _ bb2=>wV rfl ?_⟩
 refine aa ?_
 refine VO.call rfl rfl (fk Tryz.func45) (fun eX fF fM=>(oM _ _ q r _ _ eX (q1.kp (dR.aN fF)) (q2.kp fF) hv.sG hu.sG (by unfold fj;omega) (by unfold fj;omega)).mono ?_)
 rintro e w3 ⟨r3,rfl,q3,cC⟩
 obtain ⟨s3,p3,n3,c3,t3,y3,m3,d3,rfl⟩:=q3.form
 refine ⟨_,rfl,cC,fun gZ _ bb3=>wV rfl ?_⟩
 refine aa ?_
 refine aR ?_;intro wz kz bz
 exact ⟨_,rfl,(q3.kp kz).mono fM.size,bz⟩
theorem Lj (v:Value) (q:Rat) (k:Nat) (w:World) (hv:bA w v q k) (hk:k≤536870912):
  Calls Tryz.prog 109 #[v] w fun e w'=>∃ x,e=.returned x/\aH w' w.heap.size x (-q)/\aL w w':=by
 obtain ⟨s,p,n,c,t,y,m,d,rfl⟩:=hv.form
 refine ag (C:=bP Tryz.prog w _) (args:=[_]) Tryz.func109 rfl Tryz.ntmps109 (bu rfl) ?_
 refine aa ?_
 refine VO.call rfl rfl (fk Tryz.func40) (fun bD cQ bG=>(cM _ q k bD (hv.kp cQ) hk).mono ?_)
 rintro e w1 ⟨r1,rfl,q1,aI⟩
 obtain ⟨s1,p1,n1,c1,t1,y1,m1,d1,rfl⟩:=q1.form
 refine ⟨_,rfl,aI,fun dt _ bb1=>wV rfl ?_⟩
 refine aa ?_
 obtain ⟨a1,a2⟩:=q1.parts
 refine VO.call rfl rfl (fk Tryz.func113) (fun cG dQ cV=>(IB _ q.num _ cG ((a1.kp dQ).to hv.sG.1) (by unfold fj;omega)).mono ?_)
 rintro e w2 ⟨r2,rfl,q2,ba⟩
 obtain ⟨s2,p2,n2,c2,rfl⟩:=q2.form
 refine ⟨_,rfl,ba,fun dR _ bb2=>wV rfl ?_⟩
 refine aa ?_
 refine VO.call rfl rfl (fk Tryz.func129) (fun eX fF fM=>(Sr _ q.den _ eX ((a2.kp (dR.aN fF)).to hv.sG.2) (by unfold fj;omega)).mono ?_)
 rintro e w3 ⟨r3,rfl,q3,cC⟩
 obtain ⟨s3,p3,n3,c3,rfl⟩:=q3.form
 refine ⟨_,rfl,cC,fun gZ _ bb3=>wV rfl ?_⟩
 refine aa ?_
 refine aR ?_;intro wz kz bz
 exact ⟨_,rfl,⟨_,_,_,_,_,_,_,_,rfl,aD.cast ((q2.kp (gZ.aN kz)).mono cV.size) (Rat.neg_num q).symm,aD.cast ((q3.kp kz).mono fM.size) (by rw [Rat.neg_den,Int.natAbs_natCast])⟩,bz⟩
theorem dc (v u:Value) (q r:Rat) (k l:Nat) (w:World) (hv:bA w v q k) (hu:bA w u r l) (hk:k≤67108864) (hl:l≤67108864):
  Calls Tryz.prog 72 #[v,u] w fun e w'=>∃ x,e=.returned x/\aH w' w.heap.size x (q - r)/\aL w w':=by
 obtain ⟨s,p,n,c,t,y,m,d,rfl⟩:=hv.form
 obtain ⟨s',p',n',c',t',y',m',d',rfl⟩:=hu.form
 refine ag (C:=bP Tryz.prog w _) (args:=[_,_]) Tryz.func72 rfl Tryz.ntmps72 (bu rfl) ?_
 refine aa ?_
 refine VO.call rfl rfl (fk Tryz.func40) (fun bD cQ bG=>(cM _ q k bD (hv.kp cQ) ab).mono ?_)
 rintro e w1 ⟨r1,rfl,q1,aI⟩
 obtain ⟨s1,p1,n1,c1,t1,y1,m1,d1,rfl⟩:=q1.form
 refine ⟨_,rfl,aI,fun dt _ bb1=>wV rfl ?_⟩
 refine aa ?_
 refine VO.call rfl rfl (fk Tryz.func109) (fun cG dQ cV=>(Lj _ r l cG (hu.kp (dt.aN dQ)) ab).mono ?_)
 rintro e w2 ⟨r2,rfl,q2,ba⟩
 obtain ⟨s2,p2,n2,c2,t2,y2,m2,d2,rfl⟩:=q2.form
 refine ⟨_,rfl,ba,fun dR _ bb2=>wV rfl ?_⟩
 refine aa ?_
 refine VO.call rfl rfl (fk Tryz.func45) (fun eX fF fM=>(oM _ _ q (-r) _ _ eX (q1.kp (dR.aN fF)) (q2.kp fF).rd hv.sG hu.sG.neg (by unfold fj;omega) (by unfold fj;omega)).mono ?_)
 rintro e w3 ⟨r3,rfl,q3,cC⟩
 obtain ⟨s3,p3,n3,c3,t3,y3,m3,d3,rfl⟩:=q3.form
 refine ⟨_,rfl,cC,fun gZ _ bb3=>wV rfl ?_⟩
 refine aa ?_
 refine aR ?_;intro wz kz bz
 exact ⟨_,rfl,aH.cast ((q3.kp kz).mono fM.size) (Rat.sub_eq_add_neg q r).symm,bz⟩
theorem Lk (v u:Value) (q r:Rat) (k l:Nat) (w:World) (hv:bA w v q k) (hu:bA w u r l) (hk:k≤67108864) (hl:l≤67108864):
  Calls Tryz.prog 105 #[v,u] w fun e w'=>∃ x,e=.returned x/\aH w' w.heap.size x (q * r)/\aL w w':=by
 obtain ⟨s,p,n,c,t,y,m,d,rfl⟩:=hv.form
 obtain ⟨s',p',n',c',t',y',m',d',rfl⟩:=hu.form
 have dq:(q.den:Int) * r.den≠0:=Int.mul_ne_zero (by have:=q.den_nz;omega) (by have:=r.den_nz;omega)
 have zq:=hv.sG
 have zr:=hu.sG
 have uk:fj k≤67108864:=by unfold fj;omega
 have ul:fj l≤67108864:=by unfold fj;omega
 refine ag (C:=bP Tryz.prog w _) (args:=[_,_]) Tryz.func105 rfl Tryz.ntmps105 (bu rfl) ?_
 refine aa ?_
 refine VO.call rfl rfl (fk Tryz.func40) (fun bD cQ bG=>(cM _ q k bD (hv.kp cQ) ab).mono ?_)
 rintro e w1 ⟨r1,rfl,q1,aI⟩
 obtain ⟨s1,p1,n1,c1,t1,y1,m1,d1,rfl⟩:=q1.form
 refine ⟨_,rfl,aI,fun dt _ bb1=>wV rfl ?_⟩
 refine aa ?_
 refine VO.call rfl rfl (fk Tryz.func40) (fun cG dQ cV=>(cM _ r l cG (hu.kp (dt.aN dQ)) ab).mono ?_)
 rintro e w2 ⟨r2,rfl,q2,ba⟩
 obtain ⟨s2,p2,n2,c2,t2,y2,m2,d2,rfl⟩:=q2.form
 refine ⟨_,rfl,ba,fun dR _ bb2=>wV rfl ?_⟩
 refine aa ?_
 obtain ⟨a1,a2⟩:=q1.parts
 obtain ⟨b1,b2⟩:=q2.parts
 refine VO.call rfl rfl (fk Tryz.func42) (fun eX fF fM=>(mB _ _ q.num r.num _ _ eX ((a1.kp (dR.aN fF)).to zq.1) ((b1.kp fF).to zr.1) ab ab).mono ?_)
 rintro e w3 ⟨r3,rfl,q3,cC⟩
 obtain ⟨s3,p3,n3,c3,rfl⟩:=q3.form
 refine ⟨_,rfl,cC,fun gZ _ bb3=>wV rfl ?_⟩
 refine aa ?_
 refine VO.call rfl rfl (fk Tryz.func42) (fun jg kZ kt=>(mB _ _ q.den r.den _ _ jg ((a2.kp (dR.aN (gZ.aN kZ))).to zq.2) ((b2.kp (gZ.aN kZ)).to zr.2) ab ab).mono ?_)
 rintro e w4 ⟨r4,rfl,q4,fq⟩
 obtain ⟨s4,p4,n4,c4,rfl⟩:=q4.form
 refine ⟨_,rfl,fq,fun lz _ tH=>wV rfl ?_⟩
 refine aa ?_
 refine VO.call rfl rfl (fk Tryz.func83) (fun gE ju ia=>(rC _ _ (q.num * r.num) ((q.den:Int) * r.den) _ _ gE ((q3.kp (lz.aN ju)).in (zq.1.mul zr.1)) ((q4.kp ju).in (zq.2.mul zr.2)) ab ab dq).mono ?_)
 rintro e w5 ⟨r5,rfl,q5,eP⟩
 obtain ⟨s5,p5,n5,c5,t5,y5,m5,d5,rfl⟩:=q5.form
 refine ⟨_,rfl,eP,fun jV _ qu=>wV rfl ?_⟩
 refine aa ?_
 refine aR ?_;intro wz kz bz
 exact ⟨_,rfl,aH.cast ((q5.kp kz).mono ia.size) (Fi q r).symm,bz⟩
theorem Ja (v:Value) (q:Rat) (k:Nat) (w:World) (hv:bA w v q k) (hk:k≤536870912):
  Calls Tryz.prog 13 #[v] w fun e w'=>e=.returned (.int .i64 (eg q 0))/\aL w w':=by
 obtain ⟨s,p,n,c,t,y,m,d,rfl⟩:=hv.form
 refine ag (C:=bP Tryz.prog w _) (args:=[_]) Tryz.func13 rfl Tryz.ntmps13 (bu rfl) ?_
 refine aa ?_
 refine VO.call rfl rfl (fk Tryz.func40) (fun bD cQ bG=>(cM _ q k bD (hv.kp cQ) hk).mono ?_)
 rintro e w1 ⟨r1,rfl,q1,aI⟩
 obtain ⟨s1,p1,n1,c1,t1,y1,m1,d1,rfl⟩:=q1.form
 refine ⟨_,rfl,aI,fun dt _ bb1=>wV rfl ?_⟩
 refine aa ?_
 refine VO.call rfl rfl (fk Tryz.func43) (fun cG dQ cV=>(rZ _ q.num _ cG ((q1.parts.1.kp dQ).to hv.sG.1)).mono ?_)
 rintro e w2 ⟨rfl,ba⟩
 rw [Ef]
 refine ⟨_,rfl,ba,fun dR _ bb2=>wV rfl ?_⟩
 refine aa ?_
 refine aR ?_;intro wz kz bz
 exact ⟨rfl,bz⟩
theorem tL (v u:Value) (q r:Rat) (k l:Nat) (w:World) (hv:bA w v q k) (hu:bA w u r l) (hk:k≤67108864) (hl:l≤67108864):
  Calls Tryz.prog 12 #[v,u] w fun e w'=>e=.returned (.int .i64 (eg q r))/\aL w w':=by
 obtain ⟨s,p,n,c,t,y,m,d,rfl⟩:=hv.form
 obtain ⟨s',p',n',c',t',y',m',d',rfl⟩:=hu.form
 have zq:=hv.sG
 have zr:=hu.sG
 have uk:fj k≤67108864:=by unfold fj;omega
 have ul:fj l≤67108864:=by unfold fj;omega
 refine ag (C:=bP Tryz.prog w _) (args:=[_,_]) Tryz.func12 rfl Tryz.ntmps12 (bu rfl) ?_
 refine aa ?_
 refine VO.call rfl rfl (fk Tryz.func40) (fun bD cQ bG=>(cM _ q k bD (hv.kp cQ) ab).mono ?_)
 rintro e w1 ⟨r1,rfl,q1,aI⟩
 obtain ⟨s1,p1,n1,c1,t1,y1,m1,d1,rfl⟩:=q1.form
 refine ⟨_,rfl,aI,fun dt _ bb1=>wV rfl ?_⟩
 refine aa ?_
 refine VO.call rfl rfl (fk Tryz.func40) (fun cG dQ cV=>(cM _ r l cG (hu.kp (dt.aN dQ)) ab).mono ?_)
 rintro e w2 ⟨r2,rfl,q2,ba⟩
 obtain ⟨s2,p2,n2,c2,t2,y2,m2,d2,rfl⟩:=q2.form
 refine ⟨_,rfl,ba,fun dR _ bb2=>wV rfl ?_⟩
 refine aa ?_
 obtain ⟨a1,a2⟩:=q1.parts
 obtain ⟨b1,b2⟩:=q2.parts
 refine VO.call rfl rfl (fk Tryz.func42) (fun eX fF fM=>(mB _ _ q.num r.den _ _ eX ((a1.kp (dR.aN fF)).to zq.1) ((b2.kp fF).to zr.2) ab ab).mono ?_)
 rintro e w3 ⟨r3,rfl,q3,cC⟩
 obtain ⟨s3,p3,n3,c3,rfl⟩:=q3.form
 refine ⟨_,rfl,cC,fun gZ _ bb3=>wV rfl ?_⟩
 refine aa ?_
 refine VO.call rfl rfl (fk Tryz.func42) (fun jg kZ kt=>(mB _ _ r.num q.den _ _ jg ((b1.kp (gZ.aN kZ)).to zr.1) ((a2.kp (dR.aN (gZ.aN kZ))).to zq.2) ab ab).mono ?_)
 rintro e w4 ⟨r4,rfl,q4,fq⟩
 obtain ⟨s4,p4,n4,c4,rfl⟩:=q4.form
 refine ⟨_,rfl,fq,fun lz _ tH=>wV rfl ?_⟩
 refine aa ?_
 refine VO.call rfl rfl (fk Tryz.func41) (fun gE ju ia=>(ru _ _ (q.num * r.den) (r.num * q.den) _ _ gE ((q3.kp (lz.aN ju)).in (zq.1.mul zr.2)) ((q4.kp ju).in (zr.1.mul zq.2)) ab ab).mono ?_)
 rintro e w5 ⟨rfl,eP⟩
 rw [IY]
 refine ⟨_,rfl,eP,fun jV _ qu=>wV rfl ?_⟩
 refine aa ?_
 refine aR ?_;intro wz kz bz
 exact ⟨rfl,bz⟩
theorem rD (a b:Int):(a=b/\(a - b).sign=0)\/(a≠b/\((a - b).sign=1\/(a - b).sign= -1)):=by
 rcases Int.lt_trichotomy a b with e | e | e
 ·exact .inr ⟨by omega,.inr (sign_neg ab)⟩
 ·exact .inl ⟨e,by rw [e,Int.sub_self];rfl⟩
 ·exact .inr ⟨by omega,.inl (fh ab)⟩
theorem xU (v u:Value) (q r:Rat) (k l:Nat) (w:World) (hv:bA w v q k) (hu:bA w u r l) (hk:k≤67108864) (hl:l≤67108864):
  Calls Tryz.prog 91 #[v,u] w fun e w'=>e=.returned (.bool (decide (q=r)))/\aL w w':=by
 obtain ⟨s,p,n,c,t,y,m,d,rfl⟩:=hv.form
 obtain ⟨s',p',n',c',t',y',m',d',rfl⟩:=hu.form
 have zq:=hv.sG
 have zr:=hu.sG
 have uk:fj k≤67108864:=by unfold fj;omega
 have ul:fj l≤67108864:=by unfold fj;omega
 refine ag (C:=bP Tryz.prog w _) (args:=[_,_]) Tryz.func91 rfl Tryz.ntmps91 (bu rfl) ?_
 refine aa ?_
 refine VO.call rfl rfl (fk Tryz.func40) (fun bD cQ bG=>(cM _ q k bD (hv.kp cQ) ab).mono ?_)
 rintro e w1 ⟨r1,rfl,q1,aI⟩
 obtain ⟨s1,p1,n1,c1,t1,y1,m1,d1,rfl⟩:=q1.form
 refine ⟨_,rfl,aI,fun dt _ bb1=>wV rfl ?_⟩
 refine aa ?_
 refine VO.call rfl rfl (fk Tryz.func40) (fun cG dQ cV=>(cM _ r l cG (hu.kp (dt.aN dQ)) ab).mono ?_)
 rintro e w2 ⟨r2,rfl,q2,ba⟩
 obtain ⟨s2,p2,n2,c2,t2,y2,m2,d2,rfl⟩:=q2.form
 refine ⟨_,rfl,ba,fun dR _ bb2=>wV rfl ?_⟩
 refine aa ?_
 obtain ⟨a1,a2⟩:=q1.parts
 obtain ⟨b1,b2⟩:=q2.parts
 refine VO.call rfl rfl (fk Tryz.func41) (fun eX fF fM=>(ru _ _ q.num r.num _ _ eX ((a1.kp (dR.aN fF)).to zq.1) ((b1.kp fF).to zr.1) ab ab).mono ?_)
 rintro e w3 ⟨rfl,cC⟩
 rcases rD q.num r.num with ⟨hn,e⟩ | ⟨hn,e | e⟩
 ·rw [e]
  refine ⟨_,rfl,cC,fun gZ _ bb3=>wV rfl ?_⟩
  refine aa ?_
  refine VO.call rfl rfl (fk Tryz.func41) (fun jg kZ kt=>(ru _ _ (q.den:Int) r.den _ _ jg ((a2.kp (dR.aN (gZ.aN kZ))).to zq.2) ((b2.kp (gZ.aN kZ)).to zr.2) ab ab).mono ?_)
  rintro e w4 ⟨rfl,fq⟩
  rcases rD (q.den:Int) r.den with ⟨hd,e⟩ | ⟨hd,e | e⟩
  all_goals
   rw [e]
   refine ⟨_,rfl,fq,fun lz _ tH=>wV rfl ?_⟩
   refine aa ?_
   refine aR ?_;intro wz kz bz
  ·exact ⟨by rw [decide_eq_true (Rat.ext hn ab)];rfl,bz⟩
  ·exact ⟨by rw [decide_eq_false (fun e=>hd (by rw [e]))];rfl,bz⟩
  ·exact ⟨by rw [decide_eq_false (fun e=>hd (by rw [e]))];rfl,bz⟩
 ·rw [e]
  refine ⟨_,rfl,cC,fun gZ _ bb3=>wV rfl ?_⟩
  refine aa ?_
  refine aR ?_;intro wz kz bz
  exact ⟨by rw [decide_eq_false (fun e=>hn (by rw [e]))];rfl,bz⟩
 ·rw [e]
  refine ⟨_,rfl,cC,fun gZ _ bb3=>wV rfl ?_⟩
  refine aa ?_
  refine aR ?_;intro wz kz bz
  exact ⟨by rw [decide_eq_false (fun e=>hn (by rw [e]))];rfl,bz⟩
end
section
open Go.RowKit
attribute [local irreducible] aC VS
def jM (w:World) (v:Value) (qs:List Rat) (k:Nat):Prop:=
 ∃ p c,v=.slice p qs.length c/\qs.length≤c/\c≤maxLen/\∀ i q,qs[i]? =some q->∃ b off s p' n c' t r m d,p=some ⟨b,off,none⟩/\
   (∀ j u,[Value.bool s,.slice p' n c',.bool t,.slice r m d][j]? =some u->w.cell? ⟨b,off + i * 4 + j,none⟩=some u)/\bA w (.agg #[.bool s,.slice p' n c',.bool t,.slice r m d]) q k
theorem jM.form {w:World} {v:Value} {qs:List Rat} {k:Nat} (h:jM w v qs k):∃ p c,v=.slice p qs.length c/\qs.length≤c/\c≤maxLen:=by
 obtain ⟨p,c,hv,h1,h2,_⟩:=h
 exact ⟨p,c,hv,h1,h2⟩
theorem jM.at {w:World} {p:Option Addr} {n c:Nat} {qs:List Rat} {k i:Nat} {q:Rat} (h:jM w (.slice p n c) qs k) (hq:qs[i]? =some q):∃ b off s p' n' c' t r m d,p=some ⟨b,off,none⟩/\
  (∀ j u,[Value.bool s,.slice p' n' c',.bool t,.slice r m d][j]? =some u->w.cell? ⟨b,off + i * 4 + j,none⟩=some u)/\bA w (.agg #[.bool s,.slice p' n' c',.bool t,.slice r m d]) q k:=by
 obtain ⟨p',c',hv,h1,h2,h3⟩:=h
 cases hv
 exact h3 i q hq
theorem jM.bo {w w':World} {v:Value} {qs:List Rat} {k:Nat} (h:jM w v qs k) (hb:aL w w'):jM w' v qs k:=by
 obtain ⟨p,c,hv,h1,h2,h3⟩:=h
 refine ⟨p,c,hv,h1,h2,fun i q hq=> ?_⟩
 obtain ⟨b,off,s,p',n,c',t,r,m,d,hp,hc,hr⟩:=h3 i q hq
 exact ⟨b,off,s,p',n,c',t,r,m,d,hp,fun j u hj=>hb.cell (hc j u hj),hr.kp (Kp.of (U:=UU) hb)⟩
theorem aF {i:Nat} (h:i < 9223372036854775807):IntKind.i64.wrap ((i:Int) + 1)=((i + 1:Nat):Int):=by
 rw [IntWalk.i64_in _ ab];omega
def jT (qs:List Rat):Rat:=qs.foldl (·+ ·) 0
theorem bS {α:Type} {l:List α} {i:Nat} {x:α} (h:l[i]? =some x):l.take (i + 1)=l.take i++[x]:=by
 obtain ⟨hi,rfl⟩:=List.getElem?_eq_some_iff.1 h
 exact List.take_succ_eq_append_getElem hi
theorem xe {qs:List Rat} {i:Nat} {q:Rat} (h:qs[i]? =some q):jT (qs.take (i + 1))=jT (qs.take i) + q:=by
 rw [bS h];simp [jT,List.foldl_append]
def eu (k i:Nat):Nat:=1 + i * (fj k + 1)
theorem rE (k i:Nat):eu k (i + 1)=eu k i + fj k + 1:=by unfold eu;rw [Nat.add_mul,Nat.one_mul];omega
theorem xf {k i n:Nat} (h:i≤n):eu k i≤eu k n:=by unfold eu;have:=Nat.mul_le_mul_right (fj k + 1) h;omega
theorem BF (v:Value) (qs:List Rat) (k:Nat) (w:World) (hv:jM w v qs k) (hk:eu k qs.length≤67108864):
  Calls Tryz.prog 14 #[v] w fun e w'=>∃ x,e=.returned x/\aH w' w.heap.size x (jT qs)/\et (jT qs) (eu k qs.length)/\aL w w':=by
 obtain ⟨p,c,rfl,fE,fX⟩:=hv.form
 obtain ⟨N,hN⟩:∃ N,N=qs.length:=⟨_,rfl⟩
 rw [<-hN] at hv hk fE ⊢
 have hNm:N < 9223372036854775807:=by unfold eu at hk;have:=Nat.le_mul_of_pos_right N (show 0 < fj k + 1 by omega);omega
 have huk:fj k≤67108864\/N=0:=by
  rcases Nat.eq_zero_or_pos N with e | e
  ·exact .inr e
  ·left;unfold eu at hk;have:=Nat.le_mul_of_pos_left (fj k + 1) e;omega
 refine ag (C:=bP Tryz.prog w _) (args:=[_]) Tryz.func14 rfl Tryz.ntmps14 (bu rfl) ?_
 refine aa ?_
 refine VO.call rfl rfl (fk Tryz.func44) (fun bD cQ bG=>(bX 0 bD ab ab).mono ?_)
 rintro e w1 ⟨r1,rfl,q1,aI⟩
 obtain ⟨s1,p1,n1,c1,t1,y1,m1,d1,rfl⟩:=q1.form
 refine ⟨_,rfl,aI,fun dt _ bb1=>wV rfl ?_⟩
 refine aa ?_
 refine VS.loop (J:=fun n L M w'=>∃ i s p' n' c' t r m d,i≤N/\n=N - i/\L=[(7,.val (.slice p N c)),(8,.val (.int .i64 (N:Int))),(9,.val (.int .i64 (i:Int))),(3,.box 3 0),(2,.box 2 0)]/\
  M=[(2,(26,([.bool false,.slice none 0 0,.bool false,.slice none 0 0]:List Value).map .val)),(3,(26,([.bool s,.slice p' n' c',.bool t,.slice r m d]:List Value).map .val))]/\aH w' w.heap.size (.agg #[.bool s,.slice p' n' c',.bool t,.slice r m d]) (jT (qs.take i))/\et (jT (qs.take i)) (eu k i)) N ⟨_,_,?_,?_,?_,?_,⟨0,s1,p1,n1,c1,t1,y1,m1,d1,by omega,by omega,rfl,rfl,(q1.mono bG.size).cast (by simp [jT]),by simp only [List.take_zero,jT,List.foldl_nil,eu,Nat.zero_mul,Nat.add_zero];exact et.zero⟩⟩ ?_
 ·exact cd
 ·exact cd
 ·rfl
 ·exact iD
 rintro n L M w' ⟨i,s,p',n',c',t,r,m,d,hi,rfl,rfl,rfl,ho,hz⟩
 refine aa ?_
 by_cases hlt:i < N
 ·obtain ⟨q,hq⟩:∃ q,qs[i]? =some q:=⟨_,List.getElem?_eq_getElem ab⟩
  obtain ⟨b,off,s2,p2,n2,c2,t2,r2,m2,d2,rfl,hc,rT⟩:=hv.at hq
  refine VS.aP rfl (decide_eq_true (Int.ofNat_lt.2 hlt)) ?_
  refine aa ?_
  refine VO.cond rfl dw (wV rfl ?_)
  refine VO.read rfl [.bool s2,.slice p2 n2 c2,.bool t2,.slice r2 m2 d2] rfl (fun j u hj=>by rw [Addr.add_mid,Int.toNat_natCast];exact hc j u hj) (wV rfl ?_)
  refine aa ?_
  refine VO.call rfl rfl (fk Tryz.func40) (fun cG dQ cV=>(cM _ q k cG ((rT.kp (Kp.of (U:=UU) cV))) (by have:=hk;unfold fj at *;omega)).mono ?_)
  rintro e w2 ⟨r2',rfl,q2,ba⟩
  obtain ⟨s3,p3,n3,c3,t3,y3,m3,d3,rfl⟩:=q2.form
  refine ⟨_,rfl,ba,fun dR _ bb2=>wV rfl ?_⟩
  refine aa ?_
  refine VO.call rfl rfl (fk Tryz.func45) (fun eX fF fM=>(oM _ _ (jT (qs.take i)) q (eu k i) (fj k) eX ((ho.kp (dR.aN fF)).rd) (q2.kp fF) hz rT.sG (by have:=xf (k:=k) hi;omega) ab).mono ?_)
  rintro e w3 ⟨r3',rfl,q3,cC⟩
  obtain ⟨s4,p4,n4,c4,t4,y4,m4,d4,rfl⟩:=q3.form
  refine ⟨_,rfl,cC,fun gZ _ bb3=>wV rfl ?_⟩
  refine aa ?_
  refine VS.back (N - (i + 1)) ab ⟨_,_,?_,?_,?_,?_,⟨i + 1,s4,p4,n4,c4,t4,y4,m4,d4,by omega,rfl,rfl,rfl,(q3.mono fM.size).cast (xe hq).symm,by rw [xe hq,rE];exact hz.add rT.sG⟩⟩
  ·refine ⟨rfl,rfl,?_,rfl,rfl,trivial⟩
   rw [<-aF ab];rfl
  ·exact cd
  ·rfl
  ·exact iD
 ·refine VS.aQ rfl (decide_eq_false (fun e=>hlt (Int.ofNat_lt.1 e))) ?_
  refine aa ?_
  refine aR ?_;intro wz kz bz
  obtain rfl:i=N:=by omega
  rw [List.take_of_length_le ab] at ho hz
  exact ⟨_,rfl,ho.kp kz,hz,bz⟩
def iL (y x:Rat):Bool:=decide (eg y x < 0)
def gK (y x:Rat):Bool:=decide (eg y x > 0)
theorem Jb (v u:Value) (x y:Rat) (k l:Nat) (w:World) (hv:bA w v x k) (hu:bA w u y l) (hk:k≤67108864) (hl:l≤67108864):
  Calls Tryz.prog 108 #[v,u] w fun e w'=>e=.returned (.bool (iL y x))/\aL w w':=by
 obtain ⟨s,p,n,c,t,z,m,d,rfl⟩:=hv.form
 obtain ⟨s',p',n',c',t',z',m',d',rfl⟩:=hu.form
 refine ag (C:=bP Tryz.prog w _) (args:=[_,_]) Tryz.func108 rfl Tryz.ntmps108 (bu rfl) ?_
 refine aa ?_
 refine VO.call rfl rfl (fk Tryz.func12) (fun bD cQ bG=>(tL _ _ y x l k bD (hu.kp cQ) (hv.kp cQ) hl hk).mono ?_)
 rintro e w1 ⟨rfl,aI⟩
 skip
 refine ⟨_,rfl,aI,fun dt _ bb1=>wV rfl ?_⟩
 refine aa ?_
 refine aR ?_;intro wz kz bz
 exact ⟨rfl,bz⟩
theorem Jc (v u:Value) (x y:Rat) (k l:Nat) (w:World) (hv:bA w v x k) (hu:bA w u y l) (hk:k≤67108864) (hl:l≤67108864):
  Calls Tryz.prog 128 #[v,u] w fun e w'=>e=.returned (.bool (gK y x))/\aL w w':=by
 obtain ⟨s,p,n,c,t,z,m,d,rfl⟩:=hv.form
 obtain ⟨s',p',n',c',t',z',m',d',rfl⟩:=hu.form
 refine ag (C:=bP Tryz.prog w _) (args:=[_,_]) Tryz.func128 rfl Tryz.ntmps128 (bu rfl) ?_
 refine aa ?_
 refine VO.call rfl rfl (fk Tryz.func12) (fun bD cQ bG=>(tL _ _ y x l k bD (hu.kp cQ) (hv.kp cQ) hl hk).mono ?_)
 rintro e w1 ⟨rfl,aI⟩
 skip
 refine ⟨_,rfl,aI,fun dt _ bb1=>wV rfl ?_⟩
 refine aa ?_
 refine aR ?_;intro wz kz bz
 exact ⟨rfl,bz⟩
theorem Jd (s:Bool) (p:Option Addr) (n c:Nat) (t:Bool) (r:Option Addr) (m d:Nat) (w:World):
  Calls Tryz.prog 107 #[.agg #[.bool s,.slice p n c,.bool t,.slice r m d]] w fun e w'=>e=.returned (.func (.func 108) #[.agg #[.bool s,.slice p n c,.bool t,.slice r m d]] #[])/\aL w w':=by
 refine ag (C:=bP Tryz.prog w _) (args:=[_]) Tryz.func107 rfl Tryz.ntmps107 (bu rfl) ?_
 refine aa ?_
 refine aR ?_;intro wz kz bz
 exact ⟨rfl,bz⟩
theorem Je (s:Bool) (p:Option Addr) (n c:Nat) (t:Bool) (r:Option Addr) (m d:Nat) (w:World):
  Calls Tryz.prog 127 #[.agg #[.bool s,.slice p n c,.bool t,.slice r m d]] w fun e w'=>e=.returned (.func (.func 128) #[.agg #[.bool s,.slice p n c,.bool t,.slice r m d]] #[])/\aL w w':=by
 refine ag (C:=bP Tryz.prog w _) (args:=[_]) Tryz.func127 rfl Tryz.ntmps127 (bu rfl) ?_
 refine aa ?_
 refine aR ?_;intro wz kz bz
 exact ⟨rfl,bz⟩
def eB (better:Rat->Rat->Bool) (q:Rat) (qs:List Rat):Rat:=qs.foldl (fun o y=>if better y o=true then y else o) q
theorem tM {better:Rat->Rat->Bool} {x:Rat} {qs:List Rat} {i:Nat} {q:Rat} (h:qs[i]? =some q):eB better x (qs.take (i + 1))=if better q (eB better x (qs.take i))=true then q else eB better x (qs.take i):=by
 rw [bS h];unfold eB;rw [List.foldl_append];rfl
theorem xV (fB fL:FuncId) (better:Rat->Rat->Bool) (kB:qV Tryz.prog fB) (kL:qV Tryz.prog fL)
  (hB:∀ (s:Bool) (p:Option Addr) (n c:Nat) (t:Bool) (r:Option Addr) (m d:Nat) (w:World),Calls Tryz.prog fB #[.agg #[.bool s,.slice p n c,.bool t,.slice r m d]] w fun e w'=>e=.returned (.func (.func fL) #[.agg #[.bool s,.slice p n c,.bool t,.slice r m d]] #[])/\aL w w')
  (hL:∀ (v u:Value) (x y:Rat) (k l:Nat) (w:World),bA w v x k->bA w u y l->k≤67108864->l≤67108864->Calls Tryz.prog fL #[v,u] w fun e w'=>e=.returned (.bool (better y x))/\aL w w')
  (u v:Value) (q0:Rat) (qs:List Rat) (k:Nat) (w:World) (hu:bA w u q0 k) (hv:jM w v qs k) (hk:k≤67108863) (hlen:qs.length < 9223372036854775807):
  Calls Tryz.prog 106 #[u,v,.func (.func fB) #[] #[]] w fun e w'=>∃ x,e=.returned x/\aH w' w.heap.size x (eB better q0 qs)/\et (eB better q0 qs) (fj k)/\aL w w':=by
 obtain ⟨s,p,n,c,t,y,m,d,rfl⟩:=hu.form
 obtain ⟨P,cc,rfl,fE,fX⟩:=hv.form
 obtain ⟨N,hN⟩:∃ N,N=qs.length:=⟨_,rfl⟩
 rw [<-hN] at hv hlen fE ⊢
 have zk:fj k≤67108864:=by unfold fj;omega
 refine ag (C:=bP Tryz.prog w _) (args:=[_,_,_]) Tryz.func106 rfl Tryz.ntmps106 (bu rfl) ?_
 refine aa ?_
 refine VO.call rfl rfl (fk Tryz.func40) (fun bD cQ bG=>(cM _ q0 k bD (hu.kp cQ) ab).mono ?_)
 rintro e w1 ⟨r1,rfl,q1,aI⟩
 obtain ⟨s1,p1,n1,c1,t1,y1,m1,d1,rfl⟩:=q1.form
 refine ⟨_,rfl,aI,fun dt _ bb1=>wV rfl ?_⟩
 refine aa ?_
 refine VO.call rfl rfl (fk Tryz.func44) (fun cG dQ cV=>(bX 0 cG ab ab).mono ?_)
 rintro e w2 ⟨r2,rfl,q2,ba⟩
 obtain ⟨s2,p2,n2,c2,t2,y2,m2,d2,rfl⟩:=q2.form
 refine ⟨_,rfl,ba,fun dR _ bb2=>wV rfl ?_⟩
 refine aa ?_
 refine VO.call rfl rfl (fk Tryz.func45) (fun eX fF fM=>(oM _ _ q0 ((0:Int):Rat) (fj k) 1 eX (q1.kp (dR.aN fF)) (q2.kp fF).rd hu.sG et.zero zk ab).mono ?_)
 rintro e w3 ⟨r3,rfl,q3,cC⟩
 obtain ⟨s3,p3,n3,c3,t3,y3,m3,d3,rfl⟩:=q3.form
 refine ⟨_,rfl,cC,fun gZ _ bb3=>wV rfl ?_⟩
 refine aa ?_
 refine VS.loop (J:=fun n' L M w'=>∃ i s p' n c' t r m d,i≤N/\n'=N - i/\L=[(14,.val (.slice P N cc)),(15,.val (.int .i64 (N:Int))),(16,.val (.int .i64 (i:Int))),(2,.val (.func (.func fB) #[] #[])),(7,.box 7 0),(6,.box 6 0)]/\
  M=[(6,(26,([.bool false,.slice none 0 0,.bool false,.slice none 0 0]:List Value).map .val)),(7,(26,([.bool s,.slice p' n c',.bool t,.slice r m d]:List Value).map .val))]/\aH w' w.heap.size (.agg #[.bool s,.slice p' n c',.bool t,.slice r m d]) (eB better q0 (qs.take i))/\et (eB better q0 (qs.take i)) (fj k)) N ⟨_,_,?_,?_,?_,?_,⟨0,s3,p3,n3,c3,t3,y3,m3,d3,by omega,by omega,rfl,rfl,(q3.mono fM.size).cast (Rat.add_zero _),hu.sG⟩⟩ ?_
 ·exact cd
 ·exact cd
 ·rfl
 ·exact iD
 rintro n' L M w' ⟨i,s,p',n,c',t,r,m,d,hi,rfl,rfl,rfl,ho,hz⟩
 refine aa ?_
 by_cases hlt:i < N
 ·obtain ⟨q,hq⟩:∃ q,qs[i]? =some q:=⟨_,List.getElem?_eq_getElem ab⟩
  obtain ⟨b,off,s2,p2,n2,c2,t2,r2,m2,d2,rfl,hc,rT⟩:=hv.at hq
  refine VS.aP rfl (decide_eq_true (Int.ofNat_lt.2 hlt)) ?_
  refine aa ?_
  refine VO.cond rfl dw (wV rfl ?_)
  refine VO.read rfl [.bool s2,.slice p2 n2 c2,.bool t2,.slice r2 m2 d2] rfl (fun j u hj=>by rw [Addr.add_mid,Int.toNat_natCast];exact hc j u hj) (wV rfl ?_)
  refine aa ?_
  refine VO.call rfl rfl kB (fun jg kZ kt=>(hB s p' n c' t r m d jg).mono ?_)
  rintro e w4 ⟨rfl,fq⟩
  refine ⟨_,rfl,fq,fun lz _ tH=>wV rfl ?_⟩
  refine aa ?_
  refine VO.call rfl rfl kL (fun gE ju ia=>(hL _ _ (eB better q0 (qs.take i)) q _ k gE ((ho.kp (lz.aN ju)).in hz) (rT.kp (Kp.of (U:=UU) ia)) zk ab).mono ?_)
  rintro e w5 ⟨rfl,eP⟩
  refine ⟨_,rfl,eP,fun jV _ qu=>wV rfl ?_⟩
  refine aa ?_
  have yv:=tM (better:=better) (x:=q0) hq
  cases Pl:better q (eB better q0 (qs.take i))
  ·rw [Pl] at yv
   refine VS.aQ rfl rfl ?_
   refine aa ?_
   refine VS.back (N - (i + 1)) ab ⟨_,_,?_,?_,?_,?_,⟨i + 1,s,p',n,c',t,r,m,d,by omega,rfl,rfl,rfl,(ho.kp (lz.aN jV)).cast yv.symm,by rw [yv];exact hz⟩⟩
   ·refine ⟨rfl,rfl,?_,rfl,rfl,rfl,trivial⟩
    rw [<-aF ab];rfl
   ·exact cd
   ·rfl
   ·exact iD
  ·rw [Pl] at yv
   refine VS.aP rfl rfl ?_
   refine aa ?_
   refine VO.call rfl rfl (fk Tryz.func40) (fun gF ld iC=>(cM _ q k gF (rT.kp (Kp.of (U:=UU) iC)) ab).mono ?_)
   rintro e w6 ⟨r6,rfl,q6,fK⟩
   obtain ⟨s6,p6,n6,c6,t6,y6,m6,d6,rfl⟩:=q6.form
   refine ⟨_,rfl,fK,fun lG _ pO=>wV rfl ?_⟩
   refine aa ?_
   refine VO.call rfl rfl (fk Tryz.func44) (fun mW tJ lH=>(bX 0 mW ab ab).mono ?_)
   rintro e w7 ⟨r7,rfl,q7,lL⟩
   obtain ⟨s7,p7,n7,c7,t7,y7,m7,d7,rfl⟩:=q7.form
   refine ⟨_,rfl,lL,fun sU _ Cy=>wV rfl ?_⟩
   refine aa ?_
   refine VO.call rfl rfl (fk Tryz.func45) (fun sD Fc wj=>(oM _ _ q ((0:Int):Rat) (fj k) 1 sD (q6.kp (sU.aN Fc)) (q7.kp Fc).rd rT.sG et.zero zk ab).mono ?_)
   rintro e w8 ⟨r8,rfl,q8,qf⟩
   obtain ⟨s8,p8,n8,c8,t8,y8,m8,d8,rfl⟩:=q8.form
   refine ⟨_,rfl,qf,fun wk _ Kd=>wV rfl ?_⟩
   refine aa ?_
   refine VS.back (N - (i + 1)) ab ⟨_,_,?_,?_,?_,?_,⟨i + 1,s8,p8,n8,c8,t8,y8,m8,d8,by omega,rfl,rfl,rfl,(q8.mono wj.size).cast ((Rat.add_zero _).trans yv.symm),by rw [yv];exact rT.sG⟩⟩
   ·refine ⟨rfl,rfl,?_,rfl,rfl,rfl,trivial⟩
    rw [<-aF ab];rfl
   ·exact cd
   ·rfl
   ·exact iD
 ·refine VS.aQ rfl (decide_eq_false (fun e=>hlt (Int.ofNat_lt.1 e))) ?_
  refine aa ?_
  refine aR ?_;intro wz kz bz
  obtain rfl:i=N:=by omega
  rw [List.take_of_length_le ab] at ho hz
  exact ⟨_,rfl,ho.kp kz,hz,bz⟩
theorem gT (u v:Value) (q0:Rat) (qs:List Rat) (k:Nat) (w:World) (hu:bA w u q0 k) (hv:jM w v qs k) (hk:k≤67108863) (hlen:qs.length < 9223372036854775807):
  Calls Tryz.prog 71 #[u,v] w fun e w'=>∃ x,e=.returned x/\aH w' w.heap.size x (eB iL q0 qs)/\et (eB iL q0 qs) (fj k)/\aL w w':=by
 obtain ⟨s,p,n,c,t,y,m,d,rfl⟩:=hu.form
 obtain ⟨P,cc,rfl,fE,fX⟩:=hv.form
 refine ag (C:=bP Tryz.prog w _) (args:=[_,_]) Tryz.func71 rfl Tryz.ntmps71 (bu rfl) ?_
 refine aa ?_
 refine VO.call rfl rfl (fk Tryz.func106) (fun bD cQ bG=>(xV 107 108 iL (fk Tryz.func107) (fk Tryz.func108) Jd Jb _ _ q0 qs k bD (hu.kp cQ) (hv.bo bG) hk hlen).mono ?_)
 rintro e w1 ⟨r1,rfl,q1,z1,aI⟩
 obtain ⟨s1,p1,n1,c1,t1,y1,m1,d1,rfl⟩:=q1.form
 refine ⟨_,rfl,aI,fun dt _ bb1=>wV rfl ?_⟩
 refine aa ?_
 refine aR ?_;intro wz kz bz
 exact ⟨_,rfl,(q1.kp kz).mono bG.size,z1,bz⟩
theorem Ll (u v:Value) (q0:Rat) (qs:List Rat) (k:Nat) (w:World) (hu:bA w u q0 k) (hv:jM w v qs k) (hk:k≤67108863) (hlen:qs.length < 9223372036854775807):
  Calls Tryz.prog 104 #[u,v] w fun e w'=>∃ x,e=.returned x/\aH w' w.heap.size x (eB gK q0 qs)/\et (eB gK q0 qs) (fj k)/\aL w w':=by
 obtain ⟨s,p,n,c,t,y,m,d,rfl⟩:=hu.form
 obtain ⟨P,cc,rfl,fE,fX⟩:=hv.form
 refine ag (C:=bP Tryz.prog w _) (args:=[_,_]) Tryz.func104 rfl Tryz.ntmps104 (bu rfl) ?_
 refine aa ?_
 refine VO.call rfl rfl (fk Tryz.func106) (fun bD cQ bG=>(xV 127 128 gK (fk Tryz.func127) (fk Tryz.func128) Je Jc _ _ q0 qs k bD (hu.kp cQ) (hv.bo bG) hk hlen).mono ?_)
 rintro e w1 ⟨r1,rfl,q1,z1,aI⟩
 obtain ⟨s1,p1,n1,c1,t1,y1,m1,d1,rfl⟩:=q1.form
 refine ⟨_,rfl,aI,fun dt _ bb1=>wV rfl ?_⟩
 refine aa ?_
 refine aR ?_;intro wz kz bz
 exact ⟨_,rfl,(q1.kp kz).mono bG.size,z1,bz⟩
end
set_option maxRecDepth 4000
section
open Go.RowKit
attribute [local irreducible] aC VS
theorem Jf (v u:Value) (X Y:Int) (j k:Nat) (w:World) (hv:cA w v X j) (hu:cA w u Y k) (hj:j≤1073741824) (hk:k≤1073741824):
  Calls Tryz.prog 116 #[v,u] w fun e w'=>e=.returned (.bool (decide (X=Y)))/\aL w w':=by
 obtain ⟨s,p,n,c,rfl⟩:=hv.form
 obtain ⟨t,q,m,d,rfl⟩:=hu.form
 refine ag (C:=bP Tryz.prog w _) (args:=[_,_]) Tryz.func116 rfl Tryz.ntmps116 (bu rfl) ?_
 refine aa ?_
 refine VO.call rfl rfl (fk Tryz.func117) (fun bD cQ bG=>(IJ _ _ X Y j k bD (hv.kp cQ) (hu.kp cQ) hj hk).mono ?_)
 rintro e w1 ⟨rfl,aI⟩
 skip
 refine ⟨_,rfl,aI,fun dt _ bb1=>wV rfl ?_⟩
 refine aa ?_
 refine aR ?_;intro wz kz bz
 refine ⟨?_,bz⟩
 show Ending.returned (.bool (Bs X Y == 0))=_
 unfold Bs
 by_cases h:X=Y
 ·rw [h,decide_eq_true rfl,Int.sub_self];rfl
 ·rw [decide_eq_false h]
  have:((X - Y).sign == 0)=false:=by
   rw [beq_eq_false_iff_ne]
   intro e
   have:=Int.sign_eq_zero_iff_zero.1 e
   omega
  rw [this]
theorem vo (s t:Bool) (xs ys:List Nat) (v:Value) (w:World) (h:eF w v s xs t ys) (hx:xs.length≤134217728) (hy:ys.length≤134217728):
  Calls Tryz.prog 85 #[v] w fun e w'=>e=.returned (.bool (Cz s xs t ys))/\aL w w':=by
 obtain ⟨p,c,r,d,rfl,h1,h2⟩:=h
 refine ag (C:=bP Tryz.prog w _) (args:=[_]) Tryz.func85 rfl Tryz.ntmps85 (bu rfl) ?_
 refine aa ?_
 refine VO.call rfl rfl (fk Tryz.func115) (fun bD cQ bG=>(tC s xs _ bD (h1.bo bG)).mono ?_)
 rintro e w1 ⟨rfl,aI⟩
 cases q1:dP s xs
 ·refine ⟨_,rfl,aI,fun dt _ bb1=>wV rfl ?_⟩
  refine aa ?_
  refine aR ?_;intro wz kz bz
  exact ⟨by simp [Cz,q1,jc],bz⟩
 refine ⟨_,rfl,aI,fun dt _ bb1=>wV rfl ?_⟩
 refine aa ?_
 refine VO.call rfl rfl (fk Tryz.func115) (fun cG dQ cV=>(tC t ys _ cG (h2.bo cV)).mono ?_)
 rintro e w2 ⟨rfl,ba⟩
 cases q2:dP t ys
 ·refine ⟨_,rfl,ba,fun dR _ bb2=>wV rfl ?_⟩
  refine aa ?_
  refine aR ?_;intro wz kz bz
  exact ⟨by simp [Cz,q1,q2,jc],bz⟩
 refine ⟨_,rfl,ba,fun dR _ bb2=>wV rfl ?_⟩
 refine aa ?_
 refine VO.call rfl rfl (fk Tryz.func89) (fun eX fF fM=>(di _ (numOf t ys) _ eX ((h2.in (Nat.le_refl _)).bo fM) ab).mono ?_)
 rintro e w3 ⟨rfl,cC⟩
 by_cases q3:0 < numOf t ys
 ·rw [fh q3]
  refine ⟨_,rfl,cC,fun gZ _ bb3=>wV rfl ?_⟩
  refine aa ?_
  refine VO.call rfl rfl (fk Tryz.func94) (fun jg kZ kt=>(BD _ _ (numOf s xs) (numOf t ys) _ _ jg ((h1.in (Nat.le_refl _)).bo kt) ((h2.in (Nat.le_refl _)).bo kt) ab ab).mono ?_)
  rintro e w4 ⟨r4,rfl,h4,fq⟩
  obtain ⟨s4,p4,n4,c4,rfl⟩:=h4.form
  refine ⟨_,rfl,fq,fun lz _ tH=>wV rfl ?_⟩
  refine aa ?_
  refine VO.call rfl rfl (fk Tryz.func59) (fun gE ju ia=>(lM 1 gE ab ab).mono ?_)
  rintro e w5 ⟨r5,rfl,h5,eP⟩
  obtain ⟨s5,p5,n5,c5,rfl⟩:=h5.form
  refine ⟨_,rfl,eP,fun jV _ qu=>wV rfl ?_⟩
  refine aa ?_
  have hg:Sz (Int.gcd (numOf s xs) (numOf t ys):Int) ys.length:=Fh (uZ h2.lim (Nat.le_refl _)) ab
  refine VO.call rfl rfl (fk Tryz.func116) (fun gF ld iC=>(Jf _ _ (Int.gcd (numOf s xs) (numOf t ys):Int) 1 _ 1 gF ((h4.kp (jV.aN ld)).in hg) ((h5.kp ld).in (Sz.small bW)) ab ab).mono ?_)
  rintro e w6 ⟨rfl,fK⟩
  by_cases q4:Int.gcd (numOf s xs) (numOf t ys)=1
  ·rw [show decide ((Int.gcd (numOf s xs) (numOf t ys):Int)=1)=true from decide_eq_true ab]
   refine ⟨_,rfl,fK,fun lG _ pO=>wV rfl ?_⟩
   refine aa ?_
   refine aR ?_;intro wz kz bz
   exact ⟨by simp [Cz,q1,q2,q3,q4,jc],bz⟩
  ·rw [show decide ((Int.gcd (numOf s xs) (numOf t ys):Int)=1)=false from decide_eq_false ab]
   refine ⟨_,rfl,fK,fun lG _ pO=>wV rfl ?_⟩
   refine aa ?_
   refine aR ?_;intro wz kz bz
   exact ⟨by simp [Cz,q1,q2,q3,q4,jc],bz⟩
 ·have q4:(numOf t ys).sign=0\/(numOf t ys).sign= -1:=by
   rcases Int.lt_trichotomy (numOf t ys) 0 with e | e | e
   ·exact .inr (sign_neg e)
   ·rw [e];exact .inl rfl
   ·exact absurd e q3
  rcases q4 with q4 | q4
  all_goals
   rw [q4]
   refine ⟨_,rfl,cC,fun gZ _ bb3=>wV rfl ?_⟩
   refine aa ?_
   refine aR ?_;intro wz kz bz
   exact ⟨by simp [Cz,q1,q2,q3,jc],bz⟩
theorem Fj (n:Int) (w:World) (h0: -9223372036854775808≤n) (h1:n≤9223372036854775807):
  Calls Tryz.prog 87 #[.int .i64 n] w fun e w'=>∃ r,e=.returned r/\aH w' w.heap.size r (n:Rat)/\aL w w':=by
 refine ag (C:=bP Tryz.prog w _) (args:=[_]) Tryz.func87 rfl Tryz.ntmps87 (bu rfl) ?_
 refine aa ?_
 refine VO.call rfl rfl (fk Tryz.func59) (fun bD cQ bG=>(lM n bD h0 h1).mono ?_)
 rintro e w1 ⟨r1,rfl,q1,aI⟩
 obtain ⟨s1,p1,n1,c1,rfl⟩:=q1.form
 refine ⟨_,rfl,aI,fun dt _ bb1=>wV rfl ?_⟩
 refine aa ?_
 refine VO.call rfl rfl (fk Tryz.func59) (fun cG dQ cV=>(lM 1 cG ab ab).mono ?_)
 rintro e w2 ⟨r2,rfl,q2,ba⟩
 obtain ⟨s2,p2,n2,c2,rfl⟩:=q2.form
 refine ⟨_,rfl,ba,fun dR _ bb2=>wV rfl ?_⟩
 refine aa ?_
 refine aR ?_;intro wz kz bz
 exact ⟨_,rfl,⟨_,_,_,_,_,_,_,_,rfl,(q1.kp (dR.aN kz)).mono bG.size,(q2.kp kz).mono cV.size⟩,bz⟩
theorem nw (w:World):Calls Tryz.prog 25 #[] w fun e w'=>∃ r,e=.returned r/\aH w' w.heap.size r 0/\aL w w':=by
 refine ag (C:=bP Tryz.prog w _) (args:=[]) Tryz.func25 rfl Tryz.ntmps25 (bu rfl) ?_
 refine aa ?_
 refine VO.call rfl rfl (fk Tryz.func59) (fun bD cQ bG=>(lM 0 bD ab ab).mono ?_)
 rintro e w1 ⟨r1,rfl,q1,aI⟩
 obtain ⟨s1,p1,n1,c1,rfl⟩:=q1.form
 refine ⟨_,rfl,aI,fun dt _ bb1=>wV rfl ?_⟩
 refine aa ?_
 refine VO.call rfl rfl (fk Tryz.func59) (fun cG dQ cV=>(lM 1 cG ab ab).mono ?_)
 rintro e w2 ⟨r2,rfl,q2,ba⟩
 obtain ⟨s2,p2,n2,c2,rfl⟩:=q2.form
 refine ⟨_,rfl,ba,fun dR _ bb2=>wV rfl ?_⟩
 refine aa ?_
 refine aR ?_;intro wz kz bz
 exact ⟨_,rfl,⟨_,_,_,_,_,_,_,_,rfl,(q1.kp (dR.aN kz)).mono bG.size,(q2.kp kz).mono cV.size⟩,bz⟩
theorem eb (v:Value) (q:Rat) (k:Nat) (w:World) (h:bA w v q k) (hk:k≤134217728):
  Calls Tryz.prog 60 #[v] w fun e w'=>∃ r,e=.returned r/\bE w' r q/\aL w w':=by
 obtain ⟨s,xs,t,ys,tr,rfl,hx,hy⟩:=h
 have IX:=tr
 obtain ⟨p,c,r,d,rfl,_,_⟩:=tr
 refine ag (C:=bP Tryz.prog w _) (args:=[_]) Tryz.func60 rfl Tryz.ntmps60 (bu rfl) ?_
 refine aa ?_
 refine VO.call rfl rfl (fk Tryz.func85) (fun bD cQ bG=>(vo s t xs ys _ bD (IX.kp cQ) ab ab).mono ?_)
 rintro e w1 ⟨rfl,aI⟩
 cases hq:Cz s xs t ys
 ·refine ⟨_,rfl,aI,fun dt _ bb1=>wV rfl ?_⟩
  refine aa ?_
  refine VO.call rfl rfl (fk Tryz.func25) (fun cG dQ cV=>(nw cG).mono ?_)
  rintro e w2 ⟨r2,rfl,h2,ba⟩
  obtain ⟨s2,p2,n2,c2,t2,y2,m2,d2,rfl⟩:=h2.form
  refine ⟨_,rfl,ba,fun dR _ bb2=>wV rfl ?_⟩
  refine aa ?_
  refine aR ?_;intro wz kz bz
  exact ⟨_,rfl,by rw [IV hq];exact (h2.kp kz).rd,bz⟩
 ·refine ⟨_,rfl,aI,fun dt _ bb1=>wV rfl ?_⟩
  refine aa ?_
  refine aR ?_;intro wz kz bz
  exact ⟨_,rfl,(IW IX hq).kp (dt.aN kz),bz⟩
theorem Tc {X Y:Int}:Rat.divInt X Y=Rat.divInt (-X) (-Y):=(Rat.neg_divInt_neg X Y).symm
theorem tP (v u:Value) (X Y:Int) (j k:Nat) (w:World) (hv:cA w v X j) (hu:cA w u Y k) (hj:j≤134217728) (hk:k≤134217728):
  Calls Tryz.prog 61 #[v,u] w fun e w'=>∃ r,e=.returned (.tuple #[r,.int .i64 (IZ Y)])/\aH w' w.heap.size r (Rat.divInt X Y)/\aL w w':=by
 obtain ⟨s,p,n,c,rfl⟩:=hv.form
 obtain ⟨t,r,m,d,rfl⟩:=hu.form
 refine ag (C:=bP Tryz.prog w _) (args:=[_,_]) Tryz.func61 rfl Tryz.ntmps61 (bu rfl) ?_
 refine aa ?_
 refine VO.call rfl rfl (fk Tryz.func89) (fun bD cQ bG=>(di _ Y k bD (hu.bo bG) ab).mono ?_)
 rintro e w1 ⟨rfl,aI⟩
 by_cases hY:Y=0
 ·rw [show Y.sign=0 by rw [hY];rfl]
  refine ⟨_,rfl,aI,fun dt _ bb1=>wV rfl ?_⟩
  refine aa ?_
  refine VO.call rfl rfl (fk Tryz.func25) (fun cG dQ cV=>(nw cG).mono ?_)
  rintro e w2 ⟨r2,rfl,h2,ba⟩
  obtain ⟨s2,p2,n2,c2,t2,y2,m2,d2,rfl⟩:=h2.form
  refine ⟨_,rfl,ba,fun dR _ bb2=>wV rfl ?_⟩
  refine aa ?_
  refine aR ?_;intro wz kz bz
  refine ⟨_,by rw [IZ,if_pos hY];rfl,?_,bz⟩
  rw [hY,Rat.divInt_zero]
  exact (h2.kp kz).mono cV.size
 ·rcases Int.lt_or_lt_of_ne hY with q | q
  ·rw [sign_neg q]
   refine ⟨_,rfl,aI,fun dt _ bb1=>wV rfl ?_⟩
   refine aa ?_
   refine VO.call rfl rfl (fk Tryz.func89) (fun cG dQ cV=>(di _ Y k cG (hu.bo cV) ab).mono ?_)
   rintro e w2 ⟨rfl,ba⟩
   rw [sign_neg q]
   refine ⟨_,rfl,ba,fun dR _ bb2=>wV rfl ?_⟩
   refine aa ?_
   refine VO.call rfl rfl (fk Tryz.func93) (fun eX fF fM=>(ve _ X j eX (hv.bo fM) ab).mono ?_)
   rintro e w3 ⟨r3,rfl,h3,cC⟩
   obtain ⟨s3,p3,n3,c3,rfl⟩:=h3.form
   refine ⟨_,rfl,cC,fun gZ _ bb3=>wV rfl ?_⟩
   refine aa ?_
   refine VO.call rfl rfl (fk Tryz.func93) (fun jg kZ kt=>(ve _ Y k jg (hu.bo kt) ab).mono ?_)
   rintro e w4 ⟨r4,rfl,h4,fq⟩
   obtain ⟨s4,p4,n4,c4,rfl⟩:=h4.form
   refine ⟨_,rfl,fq,fun lz _ tH=>wV rfl ?_⟩
   refine aa ?_
   have z3:Sz (-X) j:=Sz.neg hv.len
   have z4:Sz (-Y) k:=Sz.neg hu.len
   obtain ⟨l1,l2⟩:=zZ (X:= -X) (Y:= -Y) ab
   have Ta:Sz (Int.gcd (-X) (-Y):Int) k:=Fh z4 ab
   have Sw:(Int.gcd (-X) (-Y):Int)≠0:=by
    intro e
    have:=(Int.gcd_eq_zero_iff.1 (show Int.gcd (-X) (-Y)=0 by omega)).2
    omega
   refine VO.call rfl rfl (fk Tryz.func94) (fun gE ju ia=>(BD _ _ (-X) (-Y) j k gE ((h3.kp (lz.aN ju)).in z3) ((h4.kp ju).in z4) ab ab).mono ?_)
   rintro e w5 ⟨r5,rfl,h5,eP⟩
   obtain ⟨s5,p5,n5,c5,rfl⟩:=h5.form
   refine ⟨_,rfl,eP,fun jV _ qu=>wV rfl ?_⟩
   refine aa ?_
   refine VO.call rfl rfl (fk Tryz.func95) (fun gF ld iC=>(nv _ _ (-X) (Int.gcd (-X) (-Y):Int) j k gF ((h3.kp (lz.aN (jV.aN ld))).in z3) ((h5.kp ld).in Ta) ab ab).mono ?_)
   rintro e w6 ⟨hd6,fK⟩
   obtain ⟨v6,u6,rfl,h6,h6'⟩:=fT hd6 Sw
   obtain ⟨s6,p6,n6,c6,rfl⟩:=h6.form
   obtain ⟨t6,r6,m6,d6,rfl⟩:=h6'.form
   refine ⟨_,rfl,fK,fun lG _ pO=>wV rfl ?_⟩
   refine aa ?_
   refine VO.call rfl rfl (fk Tryz.func95) (fun mW tJ lH=>(nv _ _ (-Y) (Int.gcd (-X) (-Y):Int) k k mW ((h4.kp (jV.aN (lG.aN tJ))).in z4) ((h5.kp (lG.aN tJ)).in Ta) ab ab).mono ?_)
   rintro e w7 ⟨hd7,lL⟩
   obtain ⟨v7,u7,rfl,h7,h7'⟩:=fT hd7 Sw
   obtain ⟨s7,p7,n7,c7,rfl⟩:=h7.form
   obtain ⟨t7,r7,m7,d7,rfl⟩:=h7'.form
   refine ⟨_,rfl,lL,fun sU _ Cy=>wV rfl ?_⟩
   refine aa ?_
   refine aR ?_;intro wz kz bz
   rw [Tc]
   exact ⟨_,by rw [IZ,if_neg hY];rfl,⟨_,_,_,_,_,_,_,_,rfl,aD.cast ((h6.kp (sU.aN kz)).mono iC.size) l1,aD.cast ((h7.kp kz).mono lH.size) l2⟩,bz⟩
  ·rw [fh q]
   refine ⟨_,rfl,aI,fun dt _ bb1=>wV rfl ?_⟩
   refine aa ?_
   refine VO.call rfl rfl (fk Tryz.func89) (fun cG dQ cV=>(di _ Y k cG (hu.bo cV) ab).mono ?_)
   rintro e w2 ⟨rfl,ba⟩
   rw [fh q]
   refine ⟨_,rfl,ba,fun dR _ bb2=>wV rfl ?_⟩
   refine aa ?_
   obtain ⟨l1,l2⟩:=zZ (X:=X) (Y:=Y) q
   have Ta:Sz (Int.gcd X Y:Int) k:=Fh hu.len hY
   have Sw:(Int.gcd X Y:Int)≠0:=by
    intro e
    have:=(Int.gcd_eq_zero_iff.1 (show Int.gcd X Y=0 by omega)).2
    omega
   refine VO.call rfl rfl (fk Tryz.func94) (fun gE ju ia=>(BD _ _ X Y j k gE (hv.bo ia) (hu.bo ia) ab ab).mono ?_)
   rintro e w5 ⟨r5,rfl,h5,eP⟩
   obtain ⟨s5,p5,n5,c5,rfl⟩:=h5.form
   refine ⟨_,rfl,eP,fun jV _ qu=>wV rfl ?_⟩
   refine aa ?_
   refine VO.call rfl rfl (fk Tryz.func95) (fun gF ld iC=>(nv _ _ X (Int.gcd X Y:Int) j k gF (hv.bo iC) ((h5.kp ld).in Ta) ab ab).mono ?_)
   rintro e w6 ⟨hd6,fK⟩
   obtain ⟨v6,u6,rfl,h6,h6'⟩:=fT hd6 Sw
   obtain ⟨s6,p6,n6,c6,rfl⟩:=h6.form
   obtain ⟨t6,r6,m6,d6,rfl⟩:=h6'.form
   refine ⟨_,rfl,fK,fun lG _ pO=>wV rfl ?_⟩
   refine aa ?_
   refine VO.call rfl rfl (fk Tryz.func95) (fun mW tJ lH=>(nv _ _ Y (Int.gcd X Y:Int) k k mW (hu.bo lH) ((h5.kp (lG.aN tJ)).in Ta) ab ab).mono ?_)
   rintro e w7 ⟨hd7,lL⟩
   obtain ⟨v7,u7,rfl,h7,h7'⟩:=fT hd7 Sw
   obtain ⟨s7,p7,n7,c7,rfl⟩:=h7.form
   obtain ⟨t7,r7,m7,d7,rfl⟩:=h7'.form
   refine ⟨_,rfl,lL,fun sU _ Cy=>wV rfl ?_⟩
   refine aa ?_
   refine aR ?_;intro wz kz bz
   exact ⟨_,by rw [IZ,if_neg hY];rfl,⟨_,_,_,_,_,_,_,_,rfl,aD.cast ((h6.kp (sU.aN kz)).mono iC.size) l1,aD.cast ((h7.kp kz).mono lH.size) l2⟩,bz⟩
theorem PK (n d:Int) (w:World) (h0: -9223372036854775808≤n) (h1:n≤9223372036854775807) (g0: -9223372036854775808≤d) (g1:d≤9223372036854775807):
  Calls Tryz.prog 66 #[.int .i64 n,.int .i64 d] w fun e w'=>∃ r,e=.returned (.tuple #[r,.int .i64 (IZ d)])/\aH w' w.heap.size r (Rat.divInt n d)/\aL w w':=by
 refine ag (C:=bP Tryz.prog w _) (args:=[_,_]) Tryz.func66 rfl Tryz.ntmps66 (bu rfl) ?_
 refine aa ?_
 refine VO.call rfl rfl (fk Tryz.func59) (fun bD cQ bG=>(lM n bD h0 h1).mono ?_)
 rintro e w1 ⟨r1,rfl,q1,aI⟩
 obtain ⟨s1,p1,n1,c1,rfl⟩:=q1.form
 refine ⟨_,rfl,aI,fun dt _ bb1=>wV rfl ?_⟩
 refine aa ?_
 refine VO.call rfl rfl (fk Tryz.func59) (fun cG dQ cV=>(lM d cG g0 g1).mono ?_)
 rintro e w2 ⟨r2,rfl,q2,ba⟩
 obtain ⟨s2,p2,n2,c2,rfl⟩:=q2.form
 refine ⟨_,rfl,ba,fun dR _ bb2=>wV rfl ?_⟩
 refine aa ?_
 refine VO.call rfl rfl (fk Tryz.func61) (fun eX fF fM=>(tP _ _ n d 2 2 eX ((q1.kp (dR.aN fF)).in (Sz.of_lt ab)) ((q2.kp fF).in (Sz.of_lt ab)) ab ab).mono ?_)
 rintro e w3 ⟨r3,rfl,q3,cC⟩
 obtain ⟨s3,p3,n3,c3,t3,x3,m3,d3,rfl⟩:=q3.form
 refine ⟨_,rfl,cC,fun gZ _ bb3=>wV rfl ?_⟩
 refine aa ?_
 refine aR ?_;intro wz kz bz
 exact ⟨_,rfl,(q3.kp kz).mono fM.size,bz⟩
theorem gl (v u:Value) (q r:Rat) (k l:Nat) (w:World) (hv:bA w v q k) (hu:bA w u r l) (hk:k≤33554432) (hl:l≤33554432):
  Calls Tryz.prog 27 #[v,u] w fun e w'=>∃ x,e=.returned x/\aH w' w.heap.size x (q + r)/\aL w w':=by
 obtain ⟨s,p,n,c,t,y,m,d,rfl⟩:=hv.form
 obtain ⟨s',p',n',c',t',y',m',d',rfl⟩:=hu.form
 have zq:=hv.sG
 have zr:=hu.sG
 have uk:fj k≤33554432:=by unfold fj;omega
 have ul:fj l≤33554432:=by unfold fj;omega
 refine ag (C:=bP Tryz.prog w _) (args:=[_,_]) Tryz.func27 rfl Tryz.ntmps27 (bu rfl) ?_
 refine aa ?_
 refine VO.call rfl rfl (fk Tryz.func60) (fun bD cQ bG=>(eb _ q k bD (hv.kp cQ) ab).mono ?_)
 rintro e w1 ⟨r1,rfl,q1,aI⟩
 obtain ⟨s1,p1,n1,c1,t1,y1,m1,d1,rfl⟩:=q1.form
 refine ⟨_,rfl,aI,fun dt _ bb1=>wV rfl ?_⟩
 refine aa ?_
 refine VO.call rfl rfl (fk Tryz.func60) (fun cG dQ cV=>(eb _ r l cG (hu.kp (dt.aN dQ)) ab).mono ?_)
 rintro e w2 ⟨r2,rfl,q2,ba⟩
 obtain ⟨s2,p2,n2,c2,t2,y2,m2,d2,rfl⟩:=q2.form
 refine ⟨_,rfl,ba,fun dR _ bb2=>wV rfl ?_⟩
 refine aa ?_
 obtain ⟨a1,a2⟩:=q1.parts
 obtain ⟨b1,b2⟩:=q2.parts
 refine VO.call rfl rfl (fk Tryz.func63) (fun eX fF fM=>(rA _ _ q.num r.den _ _ eX ((a1.kp (dR.aN fF)).to zq.1) ((b2.kp fF).to zr.2) ab ab).mono ?_)
 rintro e w3 ⟨r3,rfl,q3,cC⟩
 obtain ⟨s3,p3,n3,c3,rfl⟩:=q3.form
 refine ⟨_,rfl,cC,fun gZ _ bb3=>wV rfl ?_⟩
 refine aa ?_
 refine VO.call rfl rfl (fk Tryz.func63) (fun jg kZ kt=>(rA _ _ r.num q.den _ _ jg ((b1.kp (gZ.aN kZ)).to zr.1) ((a2.kp (dR.aN (gZ.aN kZ))).to zq.2) ab ab).mono ?_)
 rintro e w4 ⟨r4,rfl,q4,fq⟩
 obtain ⟨s4,p4,n4,c4,rfl⟩:=q4.form
 refine ⟨_,rfl,fq,fun lz _ tH=>wV rfl ?_⟩
 refine aa ?_
 refine VO.call rfl rfl (fk Tryz.func62) (fun gE ju ia=>(vf _ _ (q.num * r.den) (r.num * q.den) (fj k + fj l) (fj l + fj k) gE ((q3.kp (lz.aN ju)).in (zq.1.mul zr.2)) ((q4.kp ju).in (zr.1.mul zq.2)) ab ab).mono ?_)
 rintro e w5 ⟨r5,rfl,q5,eP⟩
 obtain ⟨s5,p5,n5,c5,rfl⟩:=q5.form
 refine ⟨_,rfl,eP,fun jV _ qu=>wV rfl ?_⟩
 refine aa ?_
 refine VO.call rfl rfl (fk Tryz.func63) (fun gF ld iC=>(rA _ _ q.den r.den _ _ gF ((a2.kp (dR.aN (gZ.aN (lz.aN (jV.aN ld))))).to zq.2) ((b2.kp (gZ.aN (lz.aN (jV.aN ld)))).to zr.2) ab ab).mono ?_)
 rintro e w6 ⟨r6,rfl,q6,fK⟩
 obtain ⟨s6,p6,n6,c6,rfl⟩:=q6.form
 refine ⟨_,rfl,fK,fun lG _ pO=>wV rfl ?_⟩
 refine aa ?_
 refine VO.call rfl rfl (fk Tryz.func61) (fun mW tJ lH=>(tP _ _ (q.num * r.den + r.num * q.den) ((q.den:Int) * r.den) (fj k + fj l + 1) (fj k + fj l) mW ((q5.kp (lG.aN tJ)).in (Sz.add (zq.1.mul zr.2) (zr.1.mul zq.2) (m:=fj k + fj l) ab ab)) ((q6.kp tJ).in (zq.2.mul zr.2)) ab ab).mono ?_)
 rintro e w7 ⟨r7,rfl,q7,lL⟩
 obtain ⟨s7,p7,n7,c7,t7,y7,m7,d7,rfl⟩:=q7.form
 refine ⟨_,rfl,lL,fun sU _ Cy=>wV rfl ?_⟩
 refine aa ?_
 refine aR ?_;intro wz kz bz
 exact ⟨_,rfl,aH.cast ((q7.kp kz).mono lH.size) (Ac q r).symm,bz⟩
theorem Ln (v:Value) (q:Rat) (k:Nat) (w:World) (hv:bA w v q k) (hk:k≤134217728):
  Calls Tryz.prog 88 #[v] w fun e w'=>∃ x,e=.returned x/\bE w' x (-q)/\aL w w':=by
 obtain ⟨s,p,n,c,t,y,m,d,rfl⟩:=hv.form
 refine ag (C:=bP Tryz.prog w _) (args:=[_]) Tryz.func88 rfl Tryz.ntmps88 (bu rfl) ?_
 refine aa ?_
 refine VO.call rfl rfl (fk Tryz.func60) (fun bD cQ bG=>(eb _ q k bD (hv.kp cQ) hk).mono ?_)
 rintro e w1 ⟨r1,rfl,q1,aI⟩
 obtain ⟨s1,p1,n1,c1,t1,y1,m1,d1,rfl⟩:=q1.form
 refine ⟨_,rfl,aI,fun dt _ bb1=>wV rfl ?_⟩
 refine aa ?_
 obtain ⟨a1,a2⟩:=q1.parts
 refine VO.call rfl rfl (fk Tryz.func93) (fun cG dQ cV=>(ve _ q.num _ cG ((a1.kp dQ).to hv.sG.1) (by unfold fj;omega)).mono ?_)
 rintro e w2 ⟨r2,rfl,q2,ba⟩
 obtain ⟨s2,p2,n2,c2,rfl⟩:=q2.form
 refine ⟨_,rfl,ba,fun dR _ bb2=>wV rfl ?_⟩
 refine aa ?_
 refine aR ?_;intro wz kz bz
 refine ⟨_,rfl,⟨_,_,_,_,_,_,_,_,rfl,?_,?_⟩,bz⟩
 ·rw [Rat.neg_num];exact (q2.kp kz).rd
 ·rw [Rat.neg_den];exact a2.kp (dR.aN kz)
theorem dy (v u:Value) (q r:Rat) (k l:Nat) (w:World) (hv:bA w v q k) (hu:bA w u r l) (hk:k≤33554432) (hl:l≤33554431):
  Calls Tryz.prog 51 #[v,u] w fun e w'=>∃ x,e=.returned x/\aH w' w.heap.size x (q - r)/\aL w w':=by
 obtain ⟨s,p,n,c,t,y,m,d,rfl⟩:=hv.form
 obtain ⟨s',p',n',c',t',y',m',d',rfl⟩:=hu.form
 refine ag (C:=bP Tryz.prog w _) (args:=[_,_]) Tryz.func51 rfl Tryz.ntmps51 (bu rfl) ?_
 refine aa ?_
 refine VO.call rfl rfl (fk Tryz.func88) (fun bD cQ bG=>(Ln _ r l bD (hu.kp cQ) ab).mono ?_)
 rintro e w1 ⟨r1,rfl,q1,aI⟩
 obtain ⟨s1,p1,n1,c1,t1,y1,m1,d1,rfl⟩:=q1.form
 refine ⟨_,rfl,aI,fun dt _ bb1=>wV rfl ?_⟩
 refine aa ?_
 refine VO.call rfl rfl (fk Tryz.func27) (fun cG dQ cV=>(gl _ _ q (-r) k (fj l) cG (hv.kp (dt.aN dQ)) ((q1.kp dQ).to hu.sG.neg) hk (by unfold fj;omega)).mono ?_)
 rintro e w2 ⟨r2,rfl,q2,ba⟩
 obtain ⟨s2,p2,n2,c2,t2,y2,m2,d2,rfl⟩:=q2.form
 refine ⟨_,rfl,ba,fun dR _ bb2=>wV rfl ?_⟩
 refine aa ?_
 refine aR ?_;intro wz kz bz
 exact ⟨_,rfl,aH.cast ((q2.kp kz).mono cV.size) (Rat.sub_eq_add_neg q r).symm,bz⟩
theorem tQ (v u:Value) (q r:Rat) (k l:Nat) (w:World) (hv:bA w v q k) (hu:bA w u r l) (hk:k≤33554432) (hl:l≤33554432):
  Calls Tryz.prog 49 #[v,u] w fun e w'=>∃ x,e=.returned x/\aH w' w.heap.size x (q * r)/\aL w w':=by
 obtain ⟨s,p,n,c,t,y,m,d,rfl⟩:=hv.form
 obtain ⟨s',p',n',c',t',y',m',d',rfl⟩:=hu.form
 have zq:=hv.sG
 have zr:=hu.sG
 have uk:fj k≤33554432:=by unfold fj;omega
 have ul:fj l≤33554432:=by unfold fj;omega
 refine ag (C:=bP Tryz.prog w _) (args:=[_,_]) Tryz.func49 rfl Tryz.ntmps49 (bu rfl) ?_
 refine aa ?_
 refine VO.call rfl rfl (fk Tryz.func60) (fun bD cQ bG=>(eb _ q k bD (hv.kp cQ) ab).mono ?_)
 rintro e w1 ⟨r1,rfl,q1,aI⟩
 obtain ⟨s1,p1,n1,c1,t1,y1,m1,d1,rfl⟩:=q1.form
 refine ⟨_,rfl,aI,fun dt _ bb1=>wV rfl ?_⟩
 refine aa ?_
 refine VO.call rfl rfl (fk Tryz.func60) (fun cG dQ cV=>(eb _ r l cG (hu.kp (dt.aN dQ)) ab).mono ?_)
 rintro e w2 ⟨r2,rfl,q2,ba⟩
 obtain ⟨s2,p2,n2,c2,t2,y2,m2,d2,rfl⟩:=q2.form
 refine ⟨_,rfl,ba,fun dR _ bb2=>wV rfl ?_⟩
 refine aa ?_
 obtain ⟨a1,a2⟩:=q1.parts
 obtain ⟨b1,b2⟩:=q2.parts
 refine VO.call rfl rfl (fk Tryz.func63) (fun eX fF fM=>(rA _ _ q.num r.num _ _ eX ((a1.kp (dR.aN fF)).to zq.1) ((b1.kp fF).to zr.1) ab ab).mono ?_)
 rintro e w3 ⟨r3,rfl,q3,cC⟩
 obtain ⟨s3,p3,n3,c3,rfl⟩:=q3.form
 refine ⟨_,rfl,cC,fun gZ _ bb3=>wV rfl ?_⟩
 refine aa ?_
 refine VO.call rfl rfl (fk Tryz.func63) (fun jg kZ kt=>(rA _ _ q.den r.den _ _ jg ((a2.kp (dR.aN (gZ.aN kZ))).to zq.2) ((b2.kp (gZ.aN kZ)).to zr.2) ab ab).mono ?_)
 rintro e w4 ⟨r4,rfl,q4,fq⟩
 obtain ⟨s4,p4,n4,c4,rfl⟩:=q4.form
 refine ⟨_,rfl,fq,fun lz _ tH=>wV rfl ?_⟩
 refine aa ?_
 refine VO.call rfl rfl (fk Tryz.func61) (fun gE ju ia=>(tP _ _ (q.num * r.num) ((q.den:Int) * r.den) (fj k + fj l) (fj k + fj l) gE ((q3.kp (lz.aN ju)).in (zq.1.mul zr.1)) ((q4.kp ju).in (zq.2.mul zr.2)) ab ab).mono ?_)
 rintro e w5 ⟨r5,rfl,q5,eP⟩
 obtain ⟨s5,p5,n5,c5,t5,y5,m5,d5,rfl⟩:=q5.form
 refine ⟨_,rfl,eP,fun jV _ qu=>wV rfl ?_⟩
 refine aa ?_
 refine aR ?_;intro wz kz bz
 exact ⟨_,rfl,aH.cast ((q5.kp kz).mono ia.size) (Fi q r).symm,bz⟩
theorem xW (v:Value) (q:Rat) (k:Nat) (w:World) (hv:bA w v q k) (hk:k≤134217728):
  Calls Tryz.prog 52 #[v] w fun e w'=>e=.returned (.int .i64 (eg q 0))/\aL w w':=by
 obtain ⟨s,p,n,c,t,y,m,d,rfl⟩:=hv.form
 refine ag (C:=bP Tryz.prog w _) (args:=[_]) Tryz.func52 rfl Tryz.ntmps52 (bu rfl) ?_
 refine aa ?_
 refine VO.call rfl rfl (fk Tryz.func60) (fun bD cQ bG=>(eb _ q k bD (hv.kp cQ) hk).mono ?_)
 rintro e w1 ⟨r1,rfl,q1,aI⟩
 obtain ⟨s1,p1,n1,c1,t1,y1,m1,d1,rfl⟩:=q1.form
 refine ⟨_,rfl,aI,fun dt _ bb1=>wV rfl ?_⟩
 refine aa ?_
 refine VO.call rfl rfl (fk Tryz.func89) (fun cG dQ cV=>(di _ q.num _ cG ((q1.parts.1.kp dQ).to hv.sG.1) (by unfold fj;omega)).mono ?_)
 rintro e w2 ⟨rfl,ba⟩
 rw [Ef]
 refine ⟨_,rfl,ba,fun dR _ bb2=>wV rfl ?_⟩
 refine aa ?_
 refine aR ?_;intro wz kz bz
 exact ⟨rfl,bz⟩
theorem pP (v u:Value) (q r:Rat) (k l:Nat) (w:World) (hv:bA w v q k) (hu:bA w u r l) (hk:k≤33554431) (hl:l≤33554431):
  Calls Tryz.prog 86 #[v,u] w fun e w'=>e=.returned (.int .i64 (eg q r))/\aL w w':=by
 obtain ⟨s,p,n,c,t,y,m,d,rfl⟩:=hv.form
 obtain ⟨s',p',n',c',t',y',m',d',rfl⟩:=hu.form
 have uk:fj k≤33554431:=by unfold fj;omega
 have ul:fj l≤33554431:=by unfold fj;omega
 refine ag (C:=bP Tryz.prog w _) (args:=[_,_]) Tryz.func86 rfl Tryz.ntmps86 (bu rfl) ?_
 refine aa ?_
 refine VO.call rfl rfl (fk Tryz.func51) (fun bD cQ bG=>(dy _ _ q r k l bD (hv.kp cQ) (hu.kp cQ) ab hl).mono ?_)
 rintro e w1 ⟨r1,rfl,q1,aI⟩
 obtain ⟨s1,p1,n1,c1,t1,y1,m1,d1,rfl⟩:=q1.form
 refine ⟨_,rfl,aI,fun dt _ bb1=>wV rfl ?_⟩
 refine aa ?_
 refine VO.call rfl rfl (fk Tryz.func52) (fun cG dQ cV=>(xW _ (q - r) (fj k + fj l + 1) cG ((q1.kp dQ).in (hv.sG.sub hu.sG)) ab).mono ?_)
 rintro e w2 ⟨rfl,ba⟩
 rw [Tb]
 refine ⟨_,rfl,ba,fun dR _ bb2=>wV rfl ?_⟩
 refine aa ?_
 refine aR ?_;intro wz kz bz
 exact ⟨rfl,bz⟩
theorem PL {q r:Rat}:(eg q r == 0)=decide (q=r):=by
 unfold eg
 by_cases h1:q < r
 ·rw [if_pos h1,decide_eq_false (fun e=>by rw [e] at h1;exact absurd h1 Rat.lt_irrefl)];rfl
 ·rw [if_neg h1]
  by_cases h2:q=r
  ·rw [if_pos h2,decide_eq_true h2];rfl
  ·rw [if_neg h2,decide_eq_false h2];rfl
theorem Jg (v u:Value) (q r:Rat) (k l:Nat) (w:World) (hv:bA w v q k) (hu:bA w u r l) (hk:k≤33554431) (hl:l≤33554431):
  Calls Tryz.prog 54 #[v,u] w fun e w'=>e=.returned (.bool (decide (q=r)))/\aL w w':=by
 obtain ⟨s,p,n,c,t,y,m,d,rfl⟩:=hv.form
 obtain ⟨s',p',n',c',t',y',m',d',rfl⟩:=hu.form
 refine ag (C:=bP Tryz.prog w _) (args:=[_,_]) Tryz.func54 rfl Tryz.ntmps54 (bu rfl) ?_
 refine aa ?_
 refine VO.call rfl rfl (fk Tryz.func86) (fun bD cQ bG=>(pP _ _ q r k l bD (hv.kp cQ) (hu.kp cQ) hk hl).mono ?_)
 rintro e w1 ⟨rfl,aI⟩
 skip
 refine ⟨_,rfl,aI,fun dt _ bb1=>wV rfl ?_⟩
 refine aa ?_
 refine aR ?_;intro wz kz bz
 exact ⟨by rw [<-PL];rfl,bz⟩
set_option maxRecDepth 4000
theorem mD (v:Value) (q0:Rat) (qs:List Rat) (k:Nat) (w:World) (hv:jM w v (q0::qs) k) (hk:k≤33554431) (hlen:qs.length < 9223372036854775806):
  Calls Tryz.prog 50 #[v] w fun e w'=>∃ x,e=.returned x/\bE w' x (eB iL q0 qs)/\et (eB iL q0 qs) (fj k)/\aL w w':=by
 obtain ⟨p,c,rfl,fE,fX⟩:=hv.form
 obtain ⟨N,hN⟩:∃ N,N=qs.length:=⟨_,rfl⟩
 rw [List.length_cons] at fE
 rw [<-hN] at hlen fE
 have hv':=hv
 rw [show (q0::qs).length=N + 1 by rw [List.length_cons,hN]] at hv ⊢
 obtain ⟨b,off,s0,p0,n0,c0,t0,r0,m0,d0,rfl,hc0,Td⟩:=hv.at (i:=0) (q:=q0) rfl
 have zk:fj k≤33554431:=by unfold fj;omega
 refine ag (C:=bP Tryz.prog w _) (args:=[_]) Tryz.func50 rfl Tryz.ntmps50 (bu rfl) ?_
 refine aa ?_
 refine VO.cond rfl dw (wV rfl ?_)
 refine VO.read rfl [.bool s0,.slice p0 n0 c0,.bool t0,.slice r0 m0 d0] rfl (fun j u hj=>by rw [Addr.add_mid];exact hc0 j u hj) (wV rfl ?_)
 refine aa ?_
 refine VO.call rfl rfl (fk Tryz.func60) (fun bD cQ bG=>(eb _ q0 k bD (Td.kp (Kp.of (U:=UU) bG)) ab).mono ?_)
 rintro e w1 ⟨r1,rfl,q1,aI⟩
 obtain ⟨s1,p1,n1,c1,t1,y1,m1,d1,rfl⟩:=q1.form
 refine ⟨_,rfl,aI,fun dt _ bb1=>wV rfl ?_⟩
 refine aa ?_
 refine VS.loop (J:=fun n' L M w'=>∃ i s p' n c' t r m d,i≤N/\n'=N - i/\L=[(0,.val (.slice (some ⟨b,off,none⟩) (N + 1) c)),(4,.val (.int .i64 ((i + 1:Nat):Int))),(3,.box 3 0),(2,.box 2 0)]/\
  M=[(2,(55,([.bool false,.slice none 0 0,.bool false,.slice none 0 0]:List Value).map .val)),(3,(55,([.bool s,.slice p' n c',.bool t,.slice r m d]:List Value).map .val))]/\bE w' (.agg #[.bool s,.slice p' n c',.bool t,.slice r m d]) (eB iL q0 (qs.take i))/\et (eB iL q0 (qs.take i)) (fj k)) N ⟨_,_,?_,?_,?_,?_,⟨0,s1,p1,n1,c1,t1,y1,m1,d1,by omega,by omega,rfl,rfl,q1,Td.sG⟩⟩ ?_
 ·exact cd
 ·exact cd
 ·rfl
 ·exact iD
 rintro n' L M w' ⟨i,s,p',n,c',t,r,m,d,hi,rfl,rfl,rfl,ho,hz⟩
 have hwi:IntKind.i64.wrap (((i + 1:Nat):Int) + 1)=((i + 1 + 1:Nat):Int):=aF ab
 refine aa ?_
 by_cases hlt:i < N
 ·obtain ⟨q,hq⟩:∃ q,qs[i]? =some q:=⟨_,List.getElem?_eq_getElem ab⟩
  obtain ⟨b',aX,s2,p2,n2,c2,t2,r2,m2,d2,hbo,hc,rT⟩:=hv.at (i:=i + 1) (q:=q) (by simpa using hq)
  cases hbo
  refine VS.aP rfl (decide_eq_true ab) ?_
  refine aa ?_
  refine VO.cond rfl dw (wV rfl ?_)
  refine VO.read rfl [.bool s2,.slice p2 n2 c2,.bool t2,.slice r2 m2 d2] rfl (fun j u hj=>by rw [Addr.add_mid,Int.toNat_natCast];exact hc j u hj) (wV rfl ?_)
  refine aa ?_
  refine VO.call rfl rfl (fk Tryz.func86) (fun gE ju ia=>(pP _ _ q (eB iL q0 (qs.take i)) k (fj k) gE (rT.kp (Kp.of (U:=UU) ia)) ((ho.kp ju).to hz) hk zk).mono ?_)
  rintro e w5 ⟨rfl,eP⟩
  skip
  refine ⟨_,rfl,eP,fun jV _ qu=>wV rfl ?_⟩
  refine aa ?_
  have yv:=tM (better:=iL) (x:=q0) hq
  cases Pl:iL q (eB iL q0 (qs.take i))
  ·rw [Pl] at yv
   refine VS.aQ rfl Pl ?_
   refine aa ?_
   refine VS.back (N - (i + 1)) ab ⟨_,_,?_,?_,?_,?_,⟨i + 1,s,p',n,c',t,r,m,d,by omega,rfl,rfl,rfl,by rw [yv];exact ho.kp jV,by rw [yv];exact hz⟩⟩
   ·exact ⟨rfl,congrArg (fun z=>some (AV.val (.int .i64 z))) hwi,rfl,rfl,trivial⟩
   ·exact cd
   ·rfl
   ·exact iD
  ·rw [Pl] at yv
   refine VS.aP rfl Pl ?_
   refine aa ?_
   refine VO.cond rfl dw (wV rfl ?_)
   refine VO.read rfl [.bool s2,.slice p2 n2 c2,.bool t2,.slice r2 m2 d2] rfl (fun j u hj=>by rw [Addr.add_mid,Int.toNat_natCast];exact hc j u hj) (wV rfl ?_)
   refine aa ?_
   refine VO.call rfl rfl (fk Tryz.func60) (fun gF ld iC=>(eb _ q k gF (rT.kp (Kp.of (U:=UU) iC)) ab).mono ?_)
   rintro e w6 ⟨r6,rfl,q6,fK⟩
   obtain ⟨s6,p6,n6,c6,t6,y6,m6,d6,rfl⟩:=q6.form
   refine ⟨_,rfl,fK,fun lG _ pO=>wV rfl ?_⟩
   refine aa ?_
   refine VS.back (N - (i + 1)) ab ⟨_,_,?_,?_,?_,?_,⟨i + 1,s6,p6,n6,c6,t6,y6,m6,d6,by omega,rfl,rfl,rfl,by rw [yv];exact q6,by rw [yv];exact rT.sG⟩⟩
   ·exact ⟨rfl,congrArg (fun z=>some (AV.val (.int .i64 z))) hwi,rfl,rfl,trivial⟩
   ·exact cd
   ·rfl
   ·exact iD
 ·refine VS.aQ rfl (decide_eq_false ab) ?_
  refine aa ?_
  refine aR ?_;intro wz kz bz
  obtain rfl:i=N:=by omega
  rw [List.take_of_length_le ab] at ho hz
  exact ⟨_,rfl,ho.kp kz,hz,bz⟩
theorem tR (v:Value) (q0:Rat) (qs:List Rat) (k:Nat) (w:World) (hv:jM w v (q0::qs) k) (hk:k≤33554431) (hlen:qs.length < 9223372036854775806):
  Calls Tryz.prog 48 #[v] w fun e w'=>∃ x,e=.returned x/\bE w' x (eB gK q0 qs)/\et (eB gK q0 qs) (fj k)/\aL w w':=by
 obtain ⟨p,c,rfl,fE,fX⟩:=hv.form
 obtain ⟨N,hN⟩:∃ N,N=qs.length:=⟨_,rfl⟩
 rw [List.length_cons] at fE
 rw [<-hN] at hlen fE
 have hv':=hv
 rw [show (q0::qs).length=N + 1 by rw [List.length_cons,hN]] at hv ⊢
 obtain ⟨b,off,s0,p0,n0,c0,t0,r0,m0,d0,rfl,hc0,Td⟩:=hv.at (i:=0) (q:=q0) rfl
 have zk:fj k≤33554431:=by unfold fj;omega
 refine ag (C:=bP Tryz.prog w _) (args:=[_]) Tryz.func48 rfl Tryz.ntmps48 (bu rfl) ?_
 refine aa ?_
 refine VO.cond rfl dw (wV rfl ?_)
 refine VO.read rfl [.bool s0,.slice p0 n0 c0,.bool t0,.slice r0 m0 d0] rfl (fun j u hj=>by rw [Addr.add_mid];exact hc0 j u hj) (wV rfl ?_)
 refine aa ?_
 refine VO.call rfl rfl (fk Tryz.func60) (fun bD cQ bG=>(eb _ q0 k bD (Td.kp (Kp.of (U:=UU) bG)) ab).mono ?_)
 rintro e w1 ⟨r1,rfl,q1,aI⟩
 obtain ⟨s1,p1,n1,c1,t1,y1,m1,d1,rfl⟩:=q1.form
 refine ⟨_,rfl,aI,fun dt _ bb1=>wV rfl ?_⟩
 refine aa ?_
 refine VS.loop (J:=fun n' L M w'=>∃ i s p' n c' t r m d,i≤N/\n'=N - i/\L=[(0,.val (.slice (some ⟨b,off,none⟩) (N + 1) c)),(4,.val (.int .i64 ((i + 1:Nat):Int))),(3,.box 3 0),(2,.box 2 0)]/\
  M=[(2,(55,([.bool false,.slice none 0 0,.bool false,.slice none 0 0]:List Value).map .val)),(3,(55,([.bool s,.slice p' n c',.bool t,.slice r m d]:List Value).map .val))]/\bE w' (.agg #[.bool s,.slice p' n c',.bool t,.slice r m d]) (eB gK q0 (qs.take i))/\et (eB gK q0 (qs.take i)) (fj k)) N ⟨_,_,?_,?_,?_,?_,⟨0,s1,p1,n1,c1,t1,y1,m1,d1,by omega,by omega,rfl,rfl,q1,Td.sG⟩⟩ ?_
 ·exact cd
 ·exact cd
 ·rfl
 ·exact iD
 rintro n' L M w' ⟨i,s,p',n,c',t,r,m,d,hi,rfl,rfl,rfl,ho,hz⟩
 have hwi:IntKind.i64.wrap (((i + 1:Nat):Int) + 1)=((i + 1 + 1:Nat):Int):=aF ab
 refine aa ?_
 by_cases hlt:i < N
 ·obtain ⟨q,hq⟩:∃ q,qs[i]? =some q:=⟨_,List.getElem?_eq_getElem ab⟩
  obtain ⟨b',aX,s2,p2,n2,c2,t2,r2,m2,d2,hbo,hc,rT⟩:=hv.at (i:=i + 1) (q:=q) (by simpa using hq)
  cases hbo
  refine VS.aP rfl (decide_eq_true ab) ?_
  refine aa ?_
  refine VO.cond rfl dw (wV rfl ?_)
  refine VO.read rfl [.bool s2,.slice p2 n2 c2,.bool t2,.slice r2 m2 d2] rfl (fun j u hj=>by rw [Addr.add_mid,Int.toNat_natCast];exact hc j u hj) (wV rfl ?_)
  refine aa ?_
  refine VO.call rfl rfl (fk Tryz.func86) (fun gE ju ia=>(pP _ _ q (eB gK q0 (qs.take i)) k (fj k) gE (rT.kp (Kp.of (U:=UU) ia)) ((ho.kp ju).to hz) hk zk).mono ?_)
  rintro e w5 ⟨rfl,eP⟩
  skip
  refine ⟨_,rfl,eP,fun jV _ qu=>wV rfl ?_⟩
  refine aa ?_
  have yv:=tM (better:=gK) (x:=q0) hq
  cases Pl:gK q (eB gK q0 (qs.take i))
  ·rw [Pl] at yv
   refine VS.aQ rfl Pl ?_
   refine aa ?_
   refine VS.back (N - (i + 1)) ab ⟨_,_,?_,?_,?_,?_,⟨i + 1,s,p',n,c',t,r,m,d,by omega,rfl,rfl,rfl,by rw [yv];exact ho.kp jV,by rw [yv];exact hz⟩⟩
   ·exact ⟨rfl,congrArg (fun z=>some (AV.val (.int .i64 z))) hwi,rfl,rfl,trivial⟩
   ·exact cd
   ·rfl
   ·exact iD
  ·rw [Pl] at yv
   refine VS.aP rfl Pl ?_
   refine aa ?_
   refine VO.cond rfl dw (wV rfl ?_)
   refine VO.read rfl [.bool s2,.slice p2 n2 c2,.bool t2,.slice r2 m2 d2] rfl (fun j u hj=>by rw [Addr.add_mid,Int.toNat_natCast];exact hc j u hj) (wV rfl ?_)
   refine aa ?_
   refine VO.call rfl rfl (fk Tryz.func60) (fun gF ld iC=>(eb _ q k gF (rT.kp (Kp.of (U:=UU) iC)) ab).mono ?_)
   rintro e w6 ⟨r6,rfl,q6,fK⟩
   obtain ⟨s6,p6,n6,c6,t6,y6,m6,d6,rfl⟩:=q6.form
   refine ⟨_,rfl,fK,fun lG _ pO=>wV rfl ?_⟩
   refine aa ?_
   refine VS.back (N - (i + 1)) ab ⟨_,_,?_,?_,?_,?_,⟨i + 1,s6,p6,n6,c6,t6,y6,m6,d6,by omega,rfl,rfl,rfl,by rw [yv];exact q6,by rw [yv];exact rT.sG⟩⟩
   ·exact ⟨rfl,congrArg (fun z=>some (AV.val (.int .i64 z))) hwi,rfl,rfl,trivial⟩
   ·exact cd
   ·rfl
   ·exact iD
 ·refine VS.aQ rfl (decide_eq_false ab) ?_
  refine aa ?_
  refine aR ?_;intro wz kz bz
  obtain rfl:i=N:=by omega
  rw [List.take_of_length_le ab] at ho hz
  exact ⟨_,rfl,ho.kp kz,hz,bz⟩
theorem il (v u:Value) (q r:Rat) (k l:Nat) (w:World) (hv:bA w v q k) (hu:bA w u r l) (hk:k≤67108864) (hl:l≤67108864) (c:Int) (hc:eg q r=c):
 Calls Tryz.prog 12 #[v,u] w fun e w'=>e=.returned (.int .i64 c)/\aL w w':=hc▸tL v u q r k l w hv hu hk hl
inductive bt (w:World) (k:Nat):List Rat->List (List Value)->Prop
 | nil:bt w k [] []
 | cons {s:Bool} {p:Option Addr} {n c:Nat} {t:Bool} {r:Option Addr} {m d:Nat} {q:Rat} {qs:List Rat} {vs:List (List Value)}:bA w (.agg #[.bool s,.slice p n c,.bool t,.slice r m d]) q k->bt w k qs vs->bt w k (q::qs) ([.bool s,.slice p n c,.bool t,.slice r m d]::vs)
theorem bt.four {w:World} {k:Nat} {qs:List Rat} {vs:List (List Value)} (h:bt w k qs vs):∀ v∈vs,v.length=4:=by
 induction h with
 | nil=>intro v hv;cases hv
 | cons _ _ ih=>
   intro v hv
   rcases List.mem_cons.1 hv with rfl | e
   ·rfl
   ·exact ih v e
theorem bt.at {w:World} {k:Nat} {qs:List Rat} {vs:List (List Value)} (h:bt w k qs vs):∀ (j:Nat) (q:Rat),qs[j]? =some q->∃ s p' n' c' t r m d,vs[j]? =some [Value.bool s,.slice p' n' c',.bool t,.slice r m d]/\bA w (.agg #[.bool s,.slice p' n' c',.bool t,.slice r m d]) q k:=by
 induction h with
 | nil=>intro j q hq;simp at hq
 | cons h1 _ ih=>
   intro j q hq
   cases j with
   | zero=>cases hq;exact ⟨_,_,_,_,_,_,_,_,rfl,h1⟩
   | succ j=>exact ih j q (by simpa using hq)
theorem flat_at:∀ (vs:List (List Value)) (j:Nat) (v:List Value),(∀ v∈vs,v.length=4)->vs[j]? =some v->∀ (o:Nat) (u:Value),v[o]? =some u->vs.flatten[j * 4 + o]? =some u:=by
 intro vs
 induction vs with
 | nil=>intro j v _ h;simp at h
 | cons x r ih=>
   intro j v hl h o u hu
   have hx:x.length=4:=hl x cw
   cases j with
   | zero=>
     simp at h
     subst h
     have ho:o < 4:=by have:=(List.getElem?_eq_some_iff.1 hu).1;omega
     rw [List.flatten_cons,List.getElem?_append_left ab]
     simpa using hu
   | succ j=>
     have h':r[j]? =some v:=by simpa using h
     rw [List.flatten_cons,List.getElem?_append_right ab,hx,show (j + 1) * 4 + o - 4=j * 4 + o by omega]
     exact ih j v (fun v hv=>hl v (by simp [hv])) h' o u hu
theorem cZ {C:Cx} {β:Nat->Nat} {w:World} {i:Nat} {t:TypeId} {cs:List AV} {qs:List Rat} {k:Nat} {vs:List (List Value)} {n c:Nat} (h:mU C β w i t cs) (spare:List AV) (hcs:cs=vs.flatten.map .val++spare) (hn:n=qs.length) (hq:bt w k qs vs) (hc:n≤c) (fX:c≤maxLen):
  jM w (.slice (some ⟨β i,0,none⟩) n c) qs k:=by
 subst hn
 refine ⟨_,_,rfl,hc,fX,fun j q hj=> ?_⟩
 obtain ⟨s,p',n',c',t',r,m,d,hvj,rT⟩:=hq.at j q hj
 refine ⟨β i,0,s,p',n',c',t',r,m,d,rfl,fun o u hu=> ?_,rT⟩
 refine h.cls.cell ?_
 have:=flat_at vs j _ hq.four hvj o u hu
 rw [hcs,List.map_append,ah,List.getElem?_toArray,Nat.zero_add,List.getElem?_append_left (List.getElem?_eq_some_iff.1 this).1]
 exact this
theorem eR (v:Value) (q:Rat) (k:Nat) (w:World) (hv:bA w v q k) (hk:k≤536870912) (c:Int) (hc:eg q 0=c):
 Calls Tryz.prog 13 #[v] w fun e w'=>e=.returned (.int .i64 c)/\aL w w':=hc▸Ja v q k w hv hk
theorem BG (v u:Value) (q r:Rat) (k l:Nat) (w:World) (hv:bA w v q k) (hu:bA w u r l) (hk:k≤67108864) (hl:l≤67108864) (b:Bool) (hb:decide (q=r)=b):
 Calls Tryz.prog 91 #[v,u] w fun e w'=>e=.returned (.bool b)/\aL w w':=hb▸xU v u q r k l w hv hu hk hl
theorem eF.fV {w:World} {v:Value} {s t:Bool} {xs ys:List Nat} (h:eF w v s xs t ys):∃ p c r d,v=.agg #[.bool s,.slice p xs.length c,.bool t,.slice r ys.length d]/\True:=by
 obtain ⟨p,c,r,d,rfl,_⟩:=h
 exact ⟨_,_,_,_,rfl,trivial⟩
theorem lN {a b:Rat}:eg a b≤0↔a≤b:=by
 unfold eg
 split
 ·rename_i h;exact ⟨fun _=>Rat.le_of_lt h,fun _=>by omega⟩
 ·split
  ·rename_i h;exact ⟨fun _=>by rw [h];exact Rat.le_refl,fun _=>by omega⟩
  ·rename_i h1 h2;exact ⟨fun h=>by omega,fun h=>absurd (Rat.not_lt.1 h1) (fun h3=>h2 (Rat.le_antisymm h h3))⟩
theorem vu {a b:Rat}:eg a b≥0↔b≤a:=by
 unfold eg
 split
 ·rename_i h;exact ⟨fun _=>by omega,fun h'=>absurd h (Rat.not_lt.2 h')⟩
 ·rename_i h
  split
  ·exact ⟨fun _=>Rat.not_lt.1 h,fun _=>by omega⟩
  ·exact ⟨fun _=>Rat.not_lt.1 h,fun _=>by omega⟩
theorem lO {a b:Rat} (h:a=b):eg a b=0:=by subst h;unfold eg;rw [if_neg (by exact Rat.lt_irrefl),if_pos rfl]
theorem Eg {y x:Rat}:iL y x=true↔y < x:=by
 unfold iL eg
 by_cases h:y < x
 ·simp [h]
 ·simp only [h,if_false,iff_false];split <;> simp
theorem PM {y x:Rat}:gK y x=true↔x < y:=by
 unfold gK
 rw [decide_eq_true_iff]
 constructor
 ·intro h
  exact Rat.not_le.1 (fun e=>by have:=lN.2 e;omega)
 ·intro h
  have:=mt lN.1 (Rat.not_le.2 h)
  omega
end
section
open Go.RowKit
abbrev KpT (T:TypeId->Bool) (w w':World):Prop:=bH ⟨UU,fun _=>True,T⟩ w w'
structure gL {α:Type} (E:World->List Value->α->Prop) (sz:Nat):Prop where
 kp:∀ {w w':World} {cs:List Value} {a:α},E w cs a->Kp UU w w'->E w' cs a
 len:∀ {w:World} {cs:List Value} {a:α},E w cs a->cs.length=sz
 ok:∀ {w:World} {cs:List Value} {a:α},E w cs a->cs.all aV=true
theorem KpT.plain {T:TypeId->Bool} {w w':World} (h:KpT T w w'):Kp UU w w':=h.qo
inductive bL {α:Type} (E:World->List Value->α->Prop) (w:World):List α->List (List Value)->Prop
 | nil:bL E w [] []
 | cons {a:α} {es:List α} {cs:List Value} {vs:List (List Value)}:E w cs a->bL E w es vs->bL E w (a::es) (cs::vs)
section
variable {α:Type} {E:World->List Value->α->Prop} {sz:Nat} {w w':World} {es:List α} {vs:List (List Value)}
theorem bL.len (h:bL E w es vs):vs.length=es.length:=by
 induction h with
 | nil=>rfl
 | cons _ _ ih=>simp [ih]
theorem bL.kp (hE:gL E sz) (h:bL E w es vs) (k:Kp UU w w'):bL E w' es vs:=by
 induction h with
 | nil=>exact .nil
 | cons h1 _ ih=>exact .cons (hE.kp h1 k) ih
theorem bL.at (h:bL E w es vs):∀ (j:Nat) (a:α),es[j]? =some a->∃ cs,vs[j]? =some cs/\E w cs a:=by
 induction h with
 | nil=>intro j q hq;simp at hq
 | cons h1 _ ih=>
   intro j q hq
   cases j with
   | zero=>cases hq;exact ⟨_,rfl,h1⟩
   | succ j=>exact ih j q (by simpa using hq)
theorem bL.append {es':List α} {iT:List (List Value)} (h:bL E w es vs) (h':bL E w es' iT):bL E w (es++es') (vs++iT):=by
 induction h with
 | nil=>exact h'
 | cons h1 _ ih=>exact .cons h1 ih
theorem bL.snoc {a:α} {cs:List Value} (h:bL E w es vs) (h':E w cs a):bL E w (es++[a]) (vs++[cs]):=h.append (.cons h' .nil)
theorem bL.ok (hE:gL E sz) (h:bL E w es vs):vs.flatten.all aV=true/\vs.flatten.length=es.length * sz:=by
 induction h with
 | nil=>exact ⟨rfl,by simp⟩
 | cons h1 _ ih=>
   refine ⟨?_,?_⟩
   ·rw [List.flatten_cons,List.all_append,ih.1,hE.ok h1];rfl
   ·rw [List.flatten_cons,List.length_append,ih.2,hE.len h1,List.length_cons,Nat.add_mul,Nat.one_mul,Nat.add_comm]
theorem bL.cell (hE:gL E sz) (h:bL E w es vs):∀ (j:Nat) (cs:List Value),vs[j]? =some cs->∀ (o:Nat) (u:Value),cs[o]? =some u->vs.flatten[j * sz + o]? =some u:=by
 induction h with
 | nil=>intro j v h;simp at h
 | @cons a es cs vs h1 _ ih=>
   intro j v h o u hu
   have hx:=hE.len h1
   cases j with
   | zero=>
     simp at h
     subst h
     have ho:o < sz:=by have:=(List.getElem?_eq_some_iff.1 hu).1;omega
     rw [List.flatten_cons,Nat.zero_mul,Nat.zero_add,List.getElem?_append_left ab]
     exact hu
   | succ j=>
     rw [List.flatten_cons,List.getElem?_append_right (by rw [Nat.add_mul];omega)]
     have:=ih j v (by simpa using h) o u hu
     rw [<-this]
     congr 1
     rw [Nat.add_mul]
     omega
def cO (E:World->List Value->α->Prop) (sz:Nat) (w:World) (v:Value) (es:List α):Prop:=
 ∃ p c,v=.slice p es.length c/\es.length≤c/\c≤maxLen/\∀ (i:Nat) (a:α),es[i]? =some a->∃ b off cs,p=some ⟨b,off,none⟩/\(∀ (j:Nat) (u:Value),cs[j]? =some u->w.cell? ⟨b,off + i * sz + j,none⟩=some u)/\E w cs a
theorem cO.form {v:Value} (h:cO E sz w v es):∃ p c,v=.slice p es.length c/\es.length≤c/\c≤9223372036854775807:=by
 obtain ⟨p,c,hv,h1,h2,_⟩:=h
 exact ⟨p,c,hv,h1,by simpa [maxLen] using h2⟩
theorem cO.at {p:Option Addr} {n c i:Nat} {a:α} (h:cO E sz w (.slice p n c) es) (hq:es[i]? =some a):∃ b off cs,p=some ⟨b,off,none⟩/\(∀ (j:Nat) (u:Value),cs[j]? =some u->w.cell? ⟨b,off + i * sz + j,none⟩=some u)/\E w cs a:=by
 obtain ⟨p',c',hv,h1,h2,h3⟩:=h
 cases hv
 exact h3 i a hq
theorem cO.bo (hE:gL E sz) {v:Value} (h:cO E sz w v es) (hb:aL w w'):cO E sz w' v es:=by
 obtain ⟨p,c,hv,h1,h2,h3⟩:=h
 refine ⟨p,c,hv,h1,h2,fun i q hq=> ?_⟩
 obtain ⟨b,off,cs,hp,hc,hr⟩:=h3 i q hq
 exact ⟨b,off,cs,hp,fun j u hj=>hb.cell (hc j u hj),hE.kp hr (Kp.of hb)⟩
theorem cO.mono {E':World->List Value->α->Prop} {v:Value} (h:cO E sz w v es) (hm:∀ (i:Nat) (a:α) (cs:List Value),es[i]? =some a->E w cs a->E' w cs a):cO E' sz w v es:=by
 obtain ⟨p,c,hv,h1,h2,h3⟩:=h
 refine ⟨p,c,hv,h1,h2,fun i q hq=> ?_⟩
 obtain ⟨b,off,cs,hp,hc,hr⟩:=h3 i q hq
 exact ⟨b,off,cs,hp,hc,hm i q cs hq hr⟩
theorem cO.nil (w:World) (E:World->List Value->α->Prop) (sz:Nat):cO E sz w (.slice none 0 0) []:=⟨none,0,rfl,Nat.le_refl _,by decide,fun i q hq=>by simp at hq⟩
theorem bL.lens (hE:gL E sz) (h:bL E w es vs):∀ v∈vs,v.length=sz:=by
 induction h with
 | nil=>intro v hv;cases hv
 | cons h1 _ ih=>
   intro v hv
   rcases List.mem_cons.1 hv with rfl | e
   ·exact hE.len h1
   ·exact ih v e
theorem Eh (hE:gL E sz) {b n c:Nat} {t:TypeId} {spare:List Value} (h:bg w b t (vs.flatten++spare).toArray) (hr:bL E w es vs) (hn:n=es.length) (hc:n≤c) (hm:c≤9223372036854775807):cO E sz w (.slice (some ⟨b,0,none⟩) n c) es:=by
 subst hn
 refine ⟨_,_,rfl,hc,by simpa [maxLen] using hm,fun i a ha=> ?_⟩
 obtain ⟨cs,h1,h2⟩:=hr.at i a ha
 refine ⟨b,0,cs,rfl,fun j u hj=> ?_,h2⟩
 have:=hr.cell hE i cs h1 j u hj
 refine h.cell ?_
 rw [List.getElem?_toArray,Nat.zero_add,List.getElem?_append_left (List.getElem?_eq_some_iff.1 this).1]
 exact this
theorem im (hE:gL E sz) {C:Cx} {β:Nat->Nat} {i n c:Nat} {t:TypeId} {cs:List AV} (h:mU C β w i t cs) (spare:List AV) (hcs:cs=vs.flatten.map .val++spare) (hr:bL E w es vs) (hn:n=es.length) (hc:n≤c) (hm:c≤9223372036854775807):
  cO E sz w (.slice (some ⟨β i,0,none⟩) n c) es:=by
 refine Eh hE (spare:=spare.map (AV.leaf β)) (t:=t) ?_ hr hn hc hm
 have:=h.cls
 rw [hcs,List.map_append,ah] at this
 exact this
def iw (E:World->List Value->α->Prop) (sz:Nat) (t:TypeId) (B:Nat) (w:World) (v:Value) (es:List α):Prop:=
 (v=.slice none 0 0/\es=[])\/∃ b c vs spare,v=.slice (some ⟨b,0,none⟩) es.length c/\B≤b/\bg w b t (vs.flatten++spare).toArray/\bL E w es vs/\spare.all aV=true/\es.length≤c/\c≤9223372036854775807/\(vs.flatten++spare).length=c * sz
theorem iw.sl (hE:gL E sz) {t:TypeId} {B:Nat} {v:Value} (h:iw E sz t B w v es):cO E sz w v es:=by
 rcases h with ⟨rfl,rfl⟩ | ⟨b,c,vs,spare,rfl,_,h1,h2,_,h3,h4,_⟩
 ·exact cO.nil _ _ _
 ·exact Eh hE h1 h2 rfl h3 h4
theorem iw.form {t:TypeId} {B:Nat} {v:Value} (h:iw E sz t B w v es):∃ p c,v=.slice p es.length c:=by
 rcases h with ⟨rfl,rfl⟩ | ⟨b,c,vs,spare,rfl,_⟩
 ·exact ⟨_,_,rfl⟩
 ·exact ⟨_,_,rfl⟩
theorem iw.kp (hE:gL E sz) {t:TypeId} {B:Nat} {v:Value} {T:TypeId->Bool} (h:iw E sz t B w v es) (k:KpT T w w') (ht:T t=true):iw E sz t B w' v es:=by
 rcases h with ⟨rfl,rfl⟩ | ⟨b,c,vs,spare,rfl,h0,h1,h2,h3⟩
 ·exact .inl ⟨rfl,rfl⟩
 ·refine .inr ⟨b,c,vs,spare,rfl,h0,k.block t b _ ?_ trivial h1,h2.kp hE k.plain,h3⟩
  show (Nat.beq t UU || T t)=true
  rw [ht]
  simp
end
section
variable {C:Cx} {F:Fr} {H:Hp} {w:World} {m:Option (List FuncId)} {full:Array Oper} {K:Fr->Hp->World->Prop} {o:Oper} {r:List Oper}
end
theorem Lp {α:Type} {E:World->List Value->α->Prop} {sz:Nat} {C:Cx} {β:Nat->Nat} {w:World} {i n c:Nat} {t:TypeId} {es:List α} {vs:List (List Value)} {spare:List AV} (h:mU C β w i t (vs.flatten.map .val++spare)) (hr:bL E w es vs) (hn:n=es.length) (hc:n≤c) (hm:c≤9223372036854775807) (hl:(vs.flatten.map AV.val++spare).length=c * sz)
  (hnw:∀ i g,C.Cu i g->C.w0.heap.size≤g:=by exact fun _ _ h=>h):iw E sz t C.w0.heap.size w (.slice (some ⟨β i,0,none⟩) n c) es:=by
 subst hn
 have hk:=h.ok
 rw [List.all_append,Bool.and_eq_true] at hk
 refine .inr ⟨β i,c,vs,spare.map (AV.leaf β),rfl,hnw _ _ h.new,?_,hr,du hk.2,hc,hm,by rw [<-hl];simp only [List.length_append,List.length_map]⟩
 have:=h.cls
 rw [List.map_append,ah] at this
 exact this
theorem Fk {n d:Int} (h0: -9223372036854775808≤n) (h1:n≤9223372036854775807) (g0: -9223372036854775808≤d) (g1:d≤9223372036854775807):et (Rat.divInt n d) 2:=by
 by_cases hd:d=0
 ·rw [hd,Rat.divInt_zero];exact et.zero.mono ab
 ·exact oL (Sz.of_lt ab) (Sz.of_lt ab) hd
end
set_option maxRecDepth 4000
section
open Go.RowKit
attribute [local irreducible] aC VS
theorem lP (xs:List Nat) (v:Value) (n:Nat) (w:World) (hr:Rd w 1 v n (ints .u32 xs)) (hn:n≤1073741824):
  Calls Tryz.prog 64 #[v] w fun e w'=>∃ p c,e=.returned (.slice p n c)/\w'.ownsRow w.heap.size UU 1 (.slice p n c) n (ints .u32 xs)/\aL w w':=by
 obtain ⟨p,c,rfl,kE⟩:∃ p c,v=.slice p n c/\True:=by
  obtain ⟨p,c,hv,_⟩:=hr
  exact ⟨p,c,hv,trivial⟩
 refine ag (C:=bP Tryz.prog w _) (args:=[_]) Tryz.func64 rfl Tryz.ntmps64 (bu rfl) ?_
 refine aa ?_
 refine VO.appU (cK _ _) (t:=22) (e:=117) (n:=n) (news:=ints .u32 xs) rfl rfl rfl rfl rfl (oo .u32 xs) ab (fun w1 k1 b1=>hr.below b1) (fun w2 p2 c2 k2 b2 ho=>wV rfl ?_)
 refine aa ?_
 refine aR ?_;intro wz kz bz
 exact ⟨_,_,rfl,Own.kp ho kz,bz⟩
theorem gm.QW {w:World} {s:Bool} {p:Option Addr} {xs:List Nat} {c:Nat} (h:gm w (.agg #[.bool s,.slice p xs.length c]) s xs):Rd w 1 (.slice p xs.length c) xs.length (ints .u32 xs)/\cR xs:=by
 obtain ⟨p',c',hv,hr,hl⟩:=h
 simp only [Value.agg.injEq,Array.mk.injEq,List.cons.injEq,and_true,true_and,Value.slice.injEq] at hv
 obtain ⟨rfl,rfl⟩:=hv
 exact ⟨hr,hl⟩
def pQ (w:World) (B:Nat) (v:Value) (s:Bool) (xs:List Nat) (t:Bool) (ys:List Nat):Prop:=
 ∃ p c r d,v=.agg #[.bool s,.slice p xs.length c,.bool t,.slice r ys.length d]/\w.ownsRow B UU 1 (.slice p xs.length c) xs.length (ints .u32 xs)/\w.ownsRow B UU 1 (.slice r ys.length d) ys.length (ints .u32 ys)/\cR xs/\cR ys
theorem pQ.raw {w:World} {B:Nat} {v:Value} {s:Bool} {xs:List Nat} {t:Bool} {ys:List Nat} (h:pQ w B v s xs t ys):eF w v s xs t ys:=by
 obtain ⟨p,c,r,d,hv,h1,h2,h3,h4⟩:=h
 exact ⟨p,c,r,d,hv,⟨_,_,rfl,Rd.own h1,h3⟩,⟨_,_,rfl,Rd.own h2,h4⟩⟩
theorem pQ.kp {T:TypeId->Bool} {w w':World} {B:Nat} {v:Value} {s:Bool} {xs:List Nat} {t:Bool} {ys:List Nat} (h:pQ w B v s xs t ys) (k:bH ⟨UU,fun _=>True,T⟩ w w'):pQ w' B v s xs t ys:=by
 obtain ⟨p,c,r,d,hv,h1,h2,h3,h4⟩:=h
 exact ⟨p,c,r,d,hv,Own.kp h1 k,Own.kp h2 k,h3,h4⟩
theorem pQ.own {w:World} {B:Nat} {v:Value} {q:Rat} (h:pQ w B v (decide (q.num < 0)) (limbs q.num.natAbs) (decide ((q.den:Int) < 0)) (limbs (q.den:Int).natAbs)):aH w B v q:=by
 obtain ⟨p,c,r,d,rfl,h1,h2,h3,h4⟩:=h
 exact ⟨_,p,_,c,_,r,_,d,rfl,⟨_,_,rfl,h1⟩,⟨_,_,rfl,h2⟩⟩
theorem bJ (s t:Bool) (xs ys:List Nat) (v:Value) (w:World) (h:eF w v s xs t ys) (hx:xs.length≤1073741824) (hy:ys.length≤1073741824):
  Calls Tryz.prog 28 #[v] w fun e w'=>∃ r,e=.returned r/\pQ w' w.heap.size r s xs t ys/\aL w w':=by
 obtain ⟨p,c,r,d,rfl,h1,h2⟩:=h
 refine ag (C:=bP Tryz.prog w _) (args:=[_]) Tryz.func28 rfl Tryz.ntmps28 (bu rfl) ?_
 refine aa ?_
 refine VO.call rfl rfl (fk Tryz.func64) (fun bD cQ bG=>(lP xs _ _ bD (h1.bo bG).QW.1 hx).mono ?_)
 rintro e w1 ⟨p1,c1,rfl,q1,aI⟩
 skip
 refine ⟨_,rfl,aI,fun dt _ bb1=>wV rfl ?_⟩
 refine aa ?_
 refine VO.call rfl rfl (fk Tryz.func64) (fun cG dQ cV=>(lP ys _ _ cG (h2.bo cV).QW.1 hy).mono ?_)
 rintro e w2 ⟨p2,c2,rfl,q2,ba⟩
 skip
 refine ⟨_,rfl,ba,fun dR _ bb2=>wV rfl ?_⟩
 refine aa ?_
 refine aR ?_;intro wz kz bz
 exact ⟨_,rfl,⟨_,_,_,_,rfl,Own.kp (Own.mono q1 bG.size) (dR.aN kz),Own.kp (Own.mono q2 cV.size) kz,h1.QW.2,h2.QW.2⟩,bz⟩
theorem PN (s t:Bool) (xs ys:List Nat) (v:Value) (w:World) (h:eF w v s xs t ys) (hx:xs.length≤1073741824) (hy:ys.length≤1073741824):
  Calls Tryz.prog 67 #[v] w fun e w'=>∃ r,e=.returned r/\pQ w' w.heap.size r s xs t ys/\aL w w':=by
 obtain ⟨p,c,r,d,rfl,h1,h2⟩:=h
 refine ag (C:=bP Tryz.prog w _) (args:=[_]) Tryz.func67 rfl Tryz.ntmps67 (bu rfl) ?_
 refine aa ?_
 refine VO.call rfl rfl (fk Tryz.func64) (fun bD cQ bG=>(lP xs _ _ bD (h1.bo bG).QW.1 hx).mono ?_)
 rintro e w1 ⟨p1,c1,rfl,q1,aI⟩
 skip
 refine ⟨_,rfl,aI,fun dt _ bb1=>wV rfl ?_⟩
 refine aa ?_
 refine VO.call rfl rfl (fk Tryz.func64) (fun cG dQ cV=>(lP ys _ _ cG (h2.bo cV).QW.1 hy).mono ?_)
 rintro e w2 ⟨p2,c2,rfl,q2,ba⟩
 skip
 refine ⟨_,rfl,ba,fun dR _ bb2=>wV rfl ?_⟩
 refine aa ?_
 refine aR ?_;intro wz kz bz
 exact ⟨_,rfl,⟨_,_,_,_,rfl,Own.kp (Own.mono q1 bG.size) (dR.aN kz),Own.kp (Own.mono q2 cV.size) kz,h1.QW.2,h2.QW.2⟩,bz⟩
theorem aU {K:KC} {w w':World} (h:bH K w w':=by (with_reducible (repeat (first | assumption | exact kU _ | exact kR _ | exact Kp.of (U:=UU) (by assumption) | exact bH.of (by assumption) | refine kT ?_ (by assumption))))):bH K w w':=h
theorem fb (n d:Int) (w:World) (h0: -9223372036854775808≤n) (h1:n≤9223372036854775807) (g0: -9223372036854775808≤d) (g1:d≤9223372036854775807):
  Calls Tryz.prog 31 #[.int .i64 n,.int .i64 d] w fun e w'=>∃ r,e=.returned r/\aH w' w.heap.size r (Rat.divInt n d)/\aL w w':=by
 refine ag (C:=bP Tryz.prog w _) (args:=[_,_]) Tryz.func31 rfl Tryz.ntmps31 (bu rfl) ?_
 refine aa ?_
 refine VO.call rfl rfl (fk Tryz.func66) (fun bD cQ bG=>(PK n d bD h0 h1 g0 g1).mono ?_)
 rintro e w1 ⟨r1,rfl,q1,aI⟩
 obtain ⟨s1,p1,n1,c1,t1,y1,m1,d1,rfl⟩:=q1.form
 refine ⟨_,rfl,aI,fun dt _ bb1=>wV rfl ?_⟩
 refine aa ?_
 have hsz:(limbs (Rat.divInt n d).num.natAbs).length≤4/\(limbs ((Rat.divInt n d).den:Int).natAbs).length≤4:=by
  by_cases hd:d=0
  ·rw [hd,Rat.divInt_zero];exact ⟨et.zero.1.mono ab,et.zero.2.mono ab⟩
  ·have h:=oL (X:=n) (Y:=d) (k:=2) (l:=2) (Sz.of_lt ab) (Sz.of_lt ab) hd
   exact ⟨h.1.mono ab,h.2.mono ab⟩
 refine VO.call rfl rfl (fk Tryz.func67) (fun cG dQ cV=>(PN _ _ _ _ _ cG (q1.kp aU).rd.raw ab ab).mono ?_)
 rintro e w2 ⟨r2,rfl,q2,ba⟩
 obtain ⟨p2,c2,y2,d2,rfl,_⟩:=q2.raw.fV
 refine ⟨_,rfl,ba,fun dR _ bb2=>wV rfl ?_⟩
 refine aa ?_
 refine aR ?_;intro wz kz bz
 exact ⟨_,rfl,((q2.kp kz).own).mono cV.size,bz⟩
theorem BH (xs:List Nat) (v u:Value) (n:Nat) (w:World) (hr:Rd w 1 v n (ints .u32 xs)) (hs:Rd w 1 u n (ints .u32 xs)) (Bm:n=xs.length):
  Calls Tryz.prog 65 #[v,u] w fun e w'=>e=.returned (.bool true)/\aL w w':=by
 subst Bm
 obtain ⟨n,hn⟩:∃ n,n=xs.length:=⟨_,rfl⟩
 rw [<-hn] at hr hs
 obtain ⟨p,c,rfl,fE,fX,fA⟩:=hr.u32
 obtain ⟨q,d,rfl,OK,JX,_⟩:=hs.u32
 refine ag (C:=bP Tryz.prog w _) (args:=[_,_]) Tryz.func65 rfl Tryz.ntmps65 (bu rfl) ?_
 refine aa ?_
 refine VS.aQ rfl cw ?_
 refine aa ?_
 refine VS.loop (J:=fun ms L M w'=>∃ (k:Nat),k≤n/\ms=n - k/\L=[(0,.val (.slice p n c)),(1,.val (.slice q n d)),(5,.val (.int .i64 (k:Int)))]/\M=[]) n ⟨_,_,?_,?_,?_,?_,⟨0,by omega,rfl,rfl,rfl⟩⟩ ?_
 ·exact cd
 ·exact cd
 ·rfl
 ·exact iD
 rintro ms L M w' ⟨k,hk,hms,rfl,rfl⟩
 refine aa ?_
 by_cases qO:k < n
 ·refine VS.aP rfl (decide_eq_true (Int.ofNat_lt.2 qO)) ?_
  refine aa ?_
  obtain ⟨b1,o1,x,rfl,aI,ig,ss⟩:=hr.cellAt qO
  obtain ⟨b2,o2,y,rfl,ba,qd,GN⟩:=hs.cellAt qO
  obtain rfl:x=y:=by rw [ig] at qd;exact Option.some.inj qd
  refine VO.cond rfl dw (wV rfl ?_)
  refine VO.read rfl [.int .u32 (x:Int)] rfl (lF rfl ss) (wV rfl ?_)
  refine VO.cond rfl dw (wV rfl ?_)
  refine VO.read rfl [.int .u32 (x:Int)] rfl (lF rfl GN) (wV rfl ?_)
  refine aa ?_
  refine VS.aQ rfl cw ?_
  refine aa ?_
  refine VS.back (n - (k + 1)) ab ⟨_,_,?_,?_,?_,?_,⟨k + 1,by omega,rfl,rfl,rfl⟩⟩
  ·refine ⟨rfl,rfl,?_,trivial⟩
   rw [<-aF ab];rfl
  ·exact cd
  ·rfl
  ·exact iD
 ·refine VS.aQ rfl (decide_eq_false (fun e=>qO (Int.ofNat_lt.1 e))) ?_
  refine aa ?_
  refine aR ?_;intro wz kz bz
  exact ⟨rfl,bz⟩
theorem PO (s t:Bool) (xs ys:List Nat) (v u:Value) (w:World) (hv:eF w v s xs t ys) (hu:eF w u s xs t ys):
  Calls Tryz.prog 30 #[v,u] w fun e w'=>e=.returned (.bool true)/\aL w w':=by
 obtain ⟨p,c,r,d,rfl,v1,v2⟩:=hv
 obtain ⟨p',c',r',d',rfl,u1,u2⟩:=hu
 refine ag (C:=bP Tryz.prog w _) (args:=[_,_]) Tryz.func30 rfl Tryz.ntmps30 (bu rfl) ?_
 refine aa ?_
 refine VO.fix 12 rfl (congrArg (fun b=>AV.val (.bool b)) (show (s == s)=true by simp)) ?_
 refine aa ?_
 refine VO.fix 21 rfl (congrArg (fun b=>AV.val (.bool b)) (show (t == t)=true by simp)) ?_
 refine aa ?_
 refine VO.call rfl rfl (fk Tryz.func65) (fun bD cQ bG=>(BH xs _ _ _ bD (v1.bo bG).QW.1 (u1.bo bG).QW.1 rfl).mono ?_)
 rintro e w1 ⟨rfl,aI⟩
 skip
 refine ⟨_,rfl,aI,fun dt _ bb1=>wV rfl ?_⟩
 refine aa ?_
 refine VO.call rfl rfl (fk Tryz.func65) (fun cG dQ cV=>(BH ys _ _ _ cG (v2.bo cV).QW.1 (u2.bo cV).QW.1 rfl).mono ?_)
 rintro e w2 ⟨rfl,ba⟩
 skip
 refine ⟨_,rfl,ba,fun dR _ bb2=>wV rfl ?_⟩
 refine aa ?_
 refine aR ?_;intro wz kz bz
 exact ⟨rfl,bz⟩
theorem PQ (q:Rat) (v u:Value) (w:World) (hv:bE w v q) (hu:bE w u q):
 Calls Tryz.prog 30 #[v,u] w fun e w'=>e=.returned (.bool true)/\aL w w':=PO _ _ _ _ v u w hv.raw hu.raw
end
section
open Go.RowKit
section
variable {T:TypeId->Bool} {w w':World} {v:Value} {q:Rat} {X:Int} {B n:Nat}
theorem bA.k (h:bA w v q n) (k:bH ⟨UU,fun _=>True,T⟩ w w':=by exact aU):bA w' v q n:=h.kp k
theorem bE.k (h:bE w v q) (k:bH ⟨UU,fun _=>True,T⟩ w w':=by exact aU):bE w' v q:=h.kp k
theorem aH.k (h:aH w B v q) (k:bH ⟨UU,fun _=>True,T⟩ w w':=by exact aU):aH w' B v q:=h.kp k
theorem aH.kr (h:aH w B v q) (k:bH ⟨UU,fun _=>True,T⟩ w w':=by exact aU):bE w' v q:=(h.kp k).rd
theorem aH.ki (h:aH w B v q) (hs:et q n) (k:bH ⟨UU,fun _=>True,T⟩ w w':=by exact aU):bA w' v q n:=(h.kp k).in hs
theorem bE.ki (h:bE w v q) (hs:et q n) (k:bH ⟨UU,fun _=>True,T⟩ w w':=by exact aU):bA w' v q n:=(h.kp k).to hs
end
end
section
open Go.RowKit
attribute [local irreducible] aC VS
theorem BI {a b:Int} (h:a≠b):(a != b)=true:=by simpa using h
theorem BJ {a b:Int} (h:a=b):(a != b)=false:=by simpa using h
theorem Te {a b:Int} (h:a=b):(a == b)=true:=by simpa using h
theorem Jh {a b:Int} (h:a≠b):(a == b)=false:=by simpa using h
structure iy {α:Type} (E:World->List Value->α->Prop) (sz:Nat) (w:World) (n c:Nat) (vs:List (List Value)) (sp:List AV) (es:List α):Prop where
 len:n=es.length
 el:bL E w es vs
 so:sp.all aG=true
 sl:ax sp=[]
 le:n≤c
 cm:c≤9223372036854775807
 fl:(vs.flatten.map AV.val++sp).length=c * sz
section
variable {α:Type} {E:World->List Value->α->Prop} {sz n c:Nat} {w w':World} {vs:List (List Value)} {sp:List AV} {es:List α}
theorem iy.kp (hE:gL E sz) (h:iy E sz w n c vs sp es) (k:Kp UU w w'):iy E sz w' n c vs sp es:=⟨h.len,h.el.kp hE k,h.so,h.sl,h.le,h.cm,h.fl⟩
theorem iy.iU {M:List (Nat×(TypeId×List AV))} (h:iy E sz w n c vs sp es):gh M (vs.flatten.map AV.val++sp):=.append (.vals _) (.none h.sl)
theorem iy.cT (h:iy E sz w n c vs sp es):ax (vs.flatten.map AV.val++sp)=[]:=by rw [cU,ai,h.sl];rfl
theorem iy.new {C:Cx} {β:Nat->Nat} {i:Nat} {t:TypeId} (hE:gL E sz) (h:iy E sz w n c vs sp es) (o:mU C β w' i t (vs.flatten.map .val++sp)) (k:Kp UU w w') (hnw:∀ i g,C.Cu i g->C.w0.heap.size≤g:=by exact fun _ _ h=>h):
 iw E sz t C.w0.heap.size w' (.slice (some ⟨β i,0,none⟩) n c) es:=Lp o (h.el.kp hE k) h.len h.le h.cm h.fl hnw
theorem iy.cell (hE:gL E sz) (h:iy E sz w n c vs sp es) {i:Nat} {a:α} (ha:es[i]? =some a):∃ cs,vs[i]? =some cs/\E w cs a/\cs.length=sz/\∀ (k:Nat) (ds:List Value),ds <+:cs.drop k->∀ (j:Nat) (u:AV),(ds.map AV.val)[j]? =some u->(vs.flatten.map AV.val++sp)[0 + ((i:Nat):Int).toNat * sz + k + j]? =some u:=by
 obtain ⟨cs,h1,h2⟩:=h.el.at i a ha
 refine ⟨cs,h1,h2,hE.len h2,fun k ds hd j u hj=> ?_⟩
 obtain ⟨t,ht⟩:=hd
 rw [List.getElem?_map] at hj
 obtain ⟨x,hx,rfl⟩:=Option.map_eq_some_iff.1 hj
 have hx':cs[k + j]? =some x:=by
  rw [<-List.getElem?_drop,<-ht,List.getElem?_append_left (List.getElem?_eq_some_iff.1 hx).1];exact hx
 have:=h.el.cell hE i cs h1 (k + j) x hx'
 rw [Int.toNat_natCast,Nat.zero_add,Nat.add_assoc,List.getElem?_append_left (by rw [List.length_map];exact (List.getElem?_eq_some_iff.1 this).1),List.getElem?_map,this]
 rfl
end
section
variable {C:Cx} {F:Fr} {H:Hp} {w:World} {m:Option (List FuncId)} {full:Array Oper} {K:Fr->Hp->World->Prop} {o:Oper} {r:List Oper}
theorem VO.BK (hC:C.Ok) {α:Type} {E:World->List Value->α->Prop} {sz:Nat} (hE:gL E sz) {t e te:TypeId} {it ie:TI} {x y:Operand} {s:Nat} {cs:List Value} {a:α} {dst:Nat}
  (e0:stepOf C full F H o=.call (.op o [.val (.slice none 0 0),.row s 0 1 1])) (ho:o.op=.call { callee:=.builtin .append,args:=#[x,y],argTypes:=#[t,t] })
  (Pr:C.ti t=some it) (DM:it.elem=some (e,sz)) (Gt:C.ti e=some ie) (hU:C.K.fz e=false) (hzo:ie.zero.cells.toList.all aV=true)
  (hd:o.dst=some dst) (hN:dst < C.N) (hl:lvl C.SU m o=2) (je:H dst=none) (hs:H s=some (te,cs.map .val)) (hcs:E w cs a) (iu:24 * sz≤140737488355328)
  (hK:∀ w2 cap sp,bH C.K w w2->C.Old w2->iy E sz w2 1 cap [cs] sp [a]->aC C m full r K (F.bB o.dst (.row dst 0 1 cap)) (H.put dst (e,[cs].flatten.map AV.val++sp)) w2)
  (hkp:∀ w w',bH C.K w w'->Kp UU w w':=by first | exact fun _ _ h=>h | exact fun _ _ h=>h.qo):aC C m full (o::r) K F H w:=by
 have hlen:=hE.len hcs
 refine VO.app hC e0 ho Pr DM Gt hU hzo hd hN hl (known:=[]) (spare:=[]) (del:=none) (n:=0) (c:=0) (mm:=1) (news:=cs.map .val) (.inl ⟨rfl,rfl,rfl,rfl,rfl,rfl,by omega⟩) (.inl je) cw cw ab ab ⟨rfl,rfl,ai _⟩ ⟨rfl,rfl,bh (hE.ok hcs)⟩ (by rw [List.length_map,hlen];omega) ab
  (fun w1 β k1 b1 ho=>⟨_,_,rfl,.inr ⟨β s,0,rfl,df (rest:=[]) (ho.own s (.base (List.mem_append_right _ (List.mem_singleton.2 rfl))) _ _ hs) (by rw [List.append_nil])⟩⟩) (fun w2 cap sp ρ k2 b2 fJ h1 h2 h3 h4 h5=> ?_)
 have:=hK w2 cap sp k2 b2 ⟨rfl,.cons (hE.kp hcs (hkp _ _ k2)) .nil,h4,h5,by omega,h2,by simpa using h3⟩
 have e':([cs].flatten.map AV.val++sp)=([]++cs.map .val)++sp:=by simp
 rw [e'] at this
 exact this
theorem VO.vw (hC:C.Ok) {α:Type} {E:World->List Value->α->Prop} {sz:Nat} (hE:gL E sz) {t e te:TypeId} {it ie:TI} {x y:Operand} {s i n c:Nat} {cs:List Value} {a:α} {vs:List (List Value)} {sp:List AV} {es:List α} {dst:Nat}
  (e0:stepOf C full F H o=.call (.op o [.row i 0 n c,.row s 0 1 1])) (ho:o.op=.call { callee:=.builtin .append,args:=#[x,y],argTypes:=#[t,t] })
  (Pr:C.ti t=some it) (DM:it.elem=some (e,sz)) (Gt:C.ti e=some ie) (hU:C.K.fz e=false) (hzo:ie.zero.cells.toList.all aV=true)
  (hd:o.dst=some dst) (hN:dst < C.N) (hl:lvl C.SU m o=2) (je:H dst=none\/some i=some dst) (hi:H i=some (e,vs.flatten.map .val++sp)) (hr:iy E sz w n c vs sp es) (hs:H s=some (te,cs.map .val)) (hcs:E w cs a) (iu:(n + 1) * (24 * sz)≤140737488355328)
  (hK:∀ w2 cap oi ρ,bH C.K w w2->C.Old w2->(∀ x,aV (ρ x)=true)->iy E sz w2 (n + 1) cap (vs++[cs]) oi (es++[a])->aC C m full r K ((F.forget (some i) ρ).bB o.dst (.row dst 0 (n + 1) cap)) ((H.forget (some i) ρ).put dst (e,(vs++[cs]).flatten.map AV.val++oi)) w2)
  (hkp:∀ w w',bH C.K w w'->Kp UU w w':=by first | exact fun _ _ h=>h | exact fun _ _ h=>h.qo):aC C m full (o::r) K F H w:=by
 have hlen:=hE.len hcs
 obtain ⟨k1,k2⟩:=hr.el.ok hE
 have Rz:=hr.len
 refine VO.app hC e0 ho Pr DM Gt hU hzo hd hN hl (known:=vs.flatten.map .val) (spare:=sp) (del:=some i) (n:=n) (c:=c) (mm:=1) (news:=cs.map .val) (.inr ⟨i,rfl,hi,rfl⟩) je (by rw [List.length_map,k2,Rz]) hr.fl hr.le hr.cm ⟨ai _,hr.sl,ai _⟩ ⟨bh k1,hr.so,bh (hE.ok hcs)⟩ (by rw [List.length_map,hlen];omega) iu
  (fun w1 β k1 b1 ho=>⟨_,_,rfl,.inr ⟨β s,0,rfl,df (rest:=[]) (ho.own s (.base (List.mem_append_right _ (List.mem_singleton.2 rfl))) _ _ hs) (by rw [List.append_nil])⟩⟩) (fun w2 cap oi ρ k2 b2 fJ h1 h2 h3 h4 h5=> ?_)
 have e:(vs.flatten.map AV.val++cs.map .val)=(vs++[cs]).flatten.map AV.val:=by simp
 have:=hK w2 cap oi ρ k2 b2 fJ ⟨by rw [List.length_append,hr.len];rfl,(hr.el.kp hE (hkp _ _ k2)).snoc (hE.kp hcs (hkp _ _ k2)),h4,h5,by omega,h2,by rw [<-e];exact h3⟩
 rw [<-e] at this
 exact this
end
end
section
open Go.RowKit
theorem PR {w:World} {a:Option Addr} {len cap:Nat} {zs:List Int}
  (h:(a=none/\len=0/\cap=0/\zs=[])\/∃ x,a=some x/\len≤cap/\cap≤maxLen/\zs.length=cap/\(∀ i,i < zs.length->w.cell? (x.add i)=some (.int .u32 (zs.getD i 0)))/\∀ n∈zs,(Lit.int .u32 n).wf=true):
  ∃ xs:List Nat,cR xs/\Rd w 1 (.slice a len cap) len (ints .u32 xs):=by
 rcases h with ⟨rfl,rfl,rfl,rfl⟩ | ⟨x,rfl,h1,h2,h3,h4,h5⟩
 ·exact ⟨[],cR.nil,Rd.nil w 1⟩
 ·have hb:∀ n∈zs,0≤n/\n < 4294967296:=fun n hn=>by
   have:=h5 n hn
   simp [Lit.wf,IntKind.min,IntKind.max,IntKind.signed,IntKind.bits] at this
   omega
  refine ⟨(zs.take len).map Int.toNat,?_,?_⟩
  ·intro y hy
   obtain ⟨z,hz,rfl⟩:=List.mem_map.1 hy
   have:=hb z (List.mem_of_mem_take hz)
   omega
  ·refine ⟨_,cap,rfl,h1,h2,by simp;omega,fun hn=> ?_⟩
   have jB:0 < zs.length:=by omega
   have h0:=h4 0 jB
   have hsp:x.spot=none:=by
    have:x.add 0=x:=by simp [Addr.add]
    rw [this] at h0
    unfold World.cell? at h0
    split at h0
    ·split at h0
     ·cases h0
     ·rename_i hs;simpa using hs
    ·cases h0
   obtain ⟨b,off,sp⟩:=x
   simp only at hsp
   subst hsp
   refine ⟨b,off,rfl,fun j u hj=> ?_⟩
   simp only [ints,List.map_map,List.getElem?_map,List.getElem?_take] at hj
   split at hj
   ·rename_i hjl
    have hjz:j < zs.length:=by omega
    rw [List.getElem?_eq_getElem hjz] at hj
    simp at hj
    subst hj
    have h6:=h4 j hjz
    have h7:=hb _ (List.getElem_mem hjz)
    rw [show (⟨b,off,none⟩:Addr).add j=⟨b,off + j,none⟩ by unfold Addr.add;split <;> simp_all] at h6
    rw [h6]
    simp [List.getD,hjz]
    omega
   ·cases hj
theorem Fl {α:Type} {l:List α} (h:l.length=2):∃ a b,l=[a,b]:=by
 match l,h with
 | [a,b],_=>exact ⟨a,b,rfl⟩
theorem Tf {α:Type} {l:List α} (h:l.length=4):∃ a b c d,l=[a,b,c,d]:=by
 match l,h with
 | [a,b,c,d],_=>exact ⟨a,b,c,d,rfl⟩
section
variable {H:Type} {enc:TypeId×Value->H} {w:World} {held:Bool}
theorem Lq {fuel:Nat} {cs:List Value} {x:DataW H×List MemPlace} (h:DataW.trod enc Tryz.prog w 0 (fun _=>true) held fuel 22 cs=some x):∃ p n c xs,cs=[.slice p n c]/\Rd w 1 (.slice p n c) n (ints .u32 xs)/\cR xs:=by
 rcases ChangeShapes.open_ints Tryz.underlying22 Tryz.underlying117 (by kernel_rfl) h with ⟨rfl,_⟩ | ⟨a,len,cap,zs,rfl,_,hl,hc,hz,_,hcell,hwf⟩
 ·exact ⟨none,0,0,[],rfl,Rd.nil w 1,cR.nil⟩
 ·rw [if_pos rfl] at hz
  obtain ⟨xs,hxs,vY⟩:=PR (w:=w) (.inr ⟨a,rfl,hl,hc,hz,hcell,hwf⟩)
  exact ⟨some a,len,cap,xs,rfl,vY,hxs⟩
theorem Ji {fuel:Nat} {cs:List Value} {x:DataW H×List MemPlace} (h:DataW.trod enc Tryz.prog w 0 (fun _=>true) held fuel 24 cs=some x):∃ s p c xs,cs=[.bool s,.slice p xs.length c]/\gm w (.agg #[.bool s,.slice p xs.length c]) s xs:=by
 obtain ⟨ys,n,rfl,rfl,hl,kD,hf⟩:=DataW.trod_struct Tryz.underlying24 h
 have wS:cs.length=2:=by
  have c:Tryz.prog.cellsOf 24=2:=by kernel_rfl
  rw [c] at hl;exact hl
 have hy2:ys.length=2:=kD
 obtain ⟨a,b,rfl⟩:∃ a b,cs=[a,b]:=by
  exact Fl wS
 obtain ⟨y0,y1,rfl⟩:∃ a b,ys=[a,b]:=by
  exact Fl hy2
 have c0:Tryz.prog.cellsOf 4=1:=by kernel_rfl
 have c1:Tryz.prog.cellsOf 22=1:=by kernel_rfl
 have h0:=hf 0 _ rfl
 have h1:=hf 1 _ rfl
 change DataW.trod enc Tryz.prog w 0 (fun _=>true) held n 4 (([a,b].drop 0).take (Tryz.prog.cellsOf 4))=some y0 at h0
 change DataW.trod enc Tryz.prog w 0 (fun _=>true) held n 22 (([a,b].drop 1).take (Tryz.prog.cellsOf 22))=some y1 at h1
 rw [c0] at h0
 rw [c1] at h1
 obtain ⟨s,hs,_⟩:=DataW.trod_bool Tryz.underlying4 h0
 obtain ⟨p,m,c,xs,hp,hr,hx⟩:=Lq h1
 simp only [List.drop_zero,List.take_succ_cons,List.take_zero,List.cons.injEq,and_true] at hs
 simp only [List.drop_succ_cons,List.drop_zero,List.take_succ_cons,List.take_zero,List.cons.injEq,and_true] at hp
 subst hs hp
 obtain ⟨_,_,hv,_,_,fA⟩:=hr.u32
 subst fA
 exact ⟨s,p,c,xs,rfl,p,c,rfl,hr,hx⟩
theorem Tg {fuel:Nat} {cs:List Value} {x:DataW H×List MemPlace} (h:DataW.trod enc Tryz.prog w 0 (fun _=>true) held fuel 26 cs=some x):∃ s p n c t r m d xs ys,cs=[.bool s,.slice p n c,.bool t,.slice r m d]/\eF w (.agg #[.bool s,.slice p n c,.bool t,.slice r m d]) s xs t ys:=by
 obtain ⟨zs,n,rfl,rfl,hl,kD,hf⟩:=DataW.trod_struct Tryz.underlying26 h
 have wS:cs.length=4:=by
  have c:Tryz.prog.cellsOf 26=4:=by kernel_rfl
  rw [c] at hl;exact hl
 have hy2:zs.length=2:=kD
 obtain ⟨a,b,a',b',rfl⟩:∃ a b a' b',cs=[a,b,a',b']:=by
  exact Tf wS
 obtain ⟨y0,y1,rfl⟩:∃ a b,zs=[a,b]:=by
  exact Fl hy2
 have c0:Tryz.prog.cellsOf 24=2:=by kernel_rfl
 have h0:=hf 0 _ rfl
 have h1:=hf 1 _ rfl
 change DataW.trod enc Tryz.prog w 0 (fun _=>true) held n 24 (([a,b,a',b'].drop 0).take (Tryz.prog.cellsOf 24))=some y0 at h0
 change DataW.trod enc Tryz.prog w 0 (fun _=>true) held n 24 (([a,b,a',b'].drop 2).take (Tryz.prog.cellsOf 24))=some y1 at h1
 rw [c0] at h0 h1
 obtain ⟨s,p,c,xs,e0,n0⟩:=Ji h0
 obtain ⟨t,r,d,ys,e1,n1⟩:=Ji h1
 simp only [List.drop_zero,List.take_succ_cons,List.take_zero,List.cons.injEq,and_true] at e0
 simp only [List.drop_succ_cons,List.drop_zero,List.take_succ_cons,List.take_zero,List.cons.injEq,and_true] at e1
 obtain ⟨rfl,rfl⟩:=e0
 obtain ⟨rfl,rfl⟩:=e1
 exact ⟨_,_,_,_,_,_,_,_,xs,ys,rfl,_,_,_,_,rfl,n0,n1⟩
theorem Lr {α:Type} {p:Nat->α->Prop}:∀ (n:Nat),(∀ i,i < n->∃ q,p i q)->∃ qs:List α,qs.length=n/\∀ (i:Nat) (q:α),qs[i]? =some q->p i q
 | 0,_=>⟨[],rfl,fun i q h=>by simp at h⟩
 | n + 1,h=>by
   obtain ⟨qs,hl,hq⟩:=Lr n (fun i hi=>h i ab)
   obtain ⟨q,hqn⟩:=h n ab
   refine ⟨qs++[q],by simp [hl],fun i x hx=> ?_⟩
   by_cases hi:i < n
   ·rw [List.getElem?_append_left ab] at hx
    exact hq i x hx
   ·rw [List.getElem?_append_right ab,hl] at hx
    have:i=n:=by
     have:=(List.getElem?_eq_some_iff.1 hx).1
     simp at this
     omega
    subst this
    simp at hx
    subst hx
    exact hqn
end
section
variable {H:Type} {enc:TypeId×Value->H} {w:World} {held:Bool}
set_option maxRecDepth 100000 in
theorem open_sl {α:Type} {E:World->List Value->α->Prop} {sz:Nat} {t e:TypeId} (hu:Tryz.prog.underlying t=some (.slice e)) (hc:Tryz.prog.cellsOf e=sz) (lI:0 < sz)
  (DM:∀ {fuel:Nat} {cs:List Value} {x:DataW H×List MemPlace},DataW.trod enc Tryz.prog w 0 (fun _=>true) held fuel e cs=some x->∃ a,E w cs a)
  {v:Value} {d:DataW H} {ps:List MemPlace} {r:_root_.Go.Reach} {b0:Nat} (hv:Value.okWide Tryz.prog w r b0 t v) (h:DataW.Trod enc Tryz.prog w 0 (fun _=>true) held t v d ps):∃ es:List α,cO E sz w v es:=by
 obtain ⟨p,len,cap,rfl⟩:=WideShapes.okWide_slice hu hv
 obtain ⟨fuel,hf⟩:=h
 rcases DataW.trod_slice hu hf with ⟨e,_⟩ | ⟨a,len',cap',elems,rest,n,_,e,_,_,hl,hm,hle,xB,_⟩
 ·simp [Value.cells] at e
  obtain ⟨rfl,rfl,rfl⟩:=e
  exact ⟨[],cO.nil _ _ _⟩
 ·simp [Value.cells] at e
  obtain ⟨rfl,rfl,rfl⟩:=e
  rw [hc] at xB
  have each:∀ i,i < len->∃ q,∃ b off cs,some a=some ⟨b,off,none⟩/\(∀ (j:Nat) (u:Value),cs[j]? =some u->w.cell? ⟨b,off + i * sz + j,none⟩=some u)/\E w cs q:=by
   intro i hi
   obtain ⟨y,hy⟩:∃ y,elems[i]? =some y:=⟨_,List.getElem?_eq_getElem ab⟩
   have hb:=xB i hi
   rw [hy,Option.bind_eq_some_iff] at hb
   obtain ⟨cs,hcs,ht⟩:=hb
   obtain ⟨q,hq⟩:=DM ht
   obtain ⟨_,hlen,hcell⟩:=World.cells?_some hcs
   obtain ⟨b,off,spot⟩:=a
   have hspot:spot=none:=by
    obtain ⟨y0,Oy⟩:∃ y,elems[0]? =some y:=⟨_,List.getElem?_eq_getElem ab⟩
    have ou:=xB 0 ab
    rw [Oy,Option.bind_eq_some_iff] at ou
    obtain ⟨cs0,hcs0,ht0⟩:=ou
    obtain ⟨_,hlen0,Ls⟩:=World.cells?_some hcs0
    have Ng:=Ls 0 lI
    rw [List.getElem?_eq_getElem ab] at Ng
    have g0:=World.cell?_spot Ng
    simpa [Addr.add] using g0
   subst hspot
   refine ⟨q,b,off,cs,rfl,fun j u hj=> ?_,hq⟩
   have hjl:j < sz:=by have:=(List.getElem?_eq_some_iff.1 hj).1;omega
   have:=hcell j hjl
   rw [WideShapes.add_plain,WideShapes.add_plain] at this
   rw [this]
   exact hj
  obtain ⟨qs,CG,hqs⟩:=Lr len each
  subst CG
  exact ⟨qs,_,_,rfl,hl,hm,fun i q hq=>hqs i q hq⟩
end
def Hp.PS:Nat->List (TypeId×List AV)->Hp
 | _,[]=>fun _=>none
 | i,c::r=>fun n=>bif Nat.beq n i then some c else Hp.PS (i + 1) r n
theorem Hp.pR:∀ (l:List (TypeId×List AV)) (i n:Nat),Hp.PS i l n=if i≤n then l[n - i]? else none
 | [],i,n=>by unfold Hp.PS;simp
 | c::r,i,n=>by
   unfold Hp.PS
   rw [Hp.pR r (i + 1) n]
   by_cases h:n=i
   ·subst h;simp
   ·have hb:Nat.beq n i=false:=by rw [<-Bool.not_eq_true,Nat.beq_eq];exact h
    rw [hb,cond_false]
    by_cases h1:i≤n
    ·rw [if_pos h1,if_pos ab,show n - i=(n - (i + 1)) + 1 by omega];rfl
    ·rw [if_neg h1,if_neg ab]
def adB (N:Nat) (ad:List Nat):Nat->Nat:=fun i=>ad.getD (i - 2 * N) 0
structure jX (K:KC) (N:Nat) (ad:List Nat) (l:List (TypeId×List AV)) (w:World):Prop where
 len:ad.length=l.length
 nodup:ad.Nodup
 cls:∀ (j:Nat) (g:Nat) (c:TypeId×List AV),ad[j]? =some g->l[j]? =some c->bg w g c.1 (c.2.map (AV.leaf (adB N ad))).toArray
 ok:∀ c∈l,K.fz c.1=false/\c.2.all aG=true
 ids:∀ c∈l,∀ k∈ax c.2,2 * N≤k/\k < 2 * N + l.length
theorem jX.ad {K:KC} {N:Nat} {ad:List Nat} {l:List (TypeId×List AV)} {w:World} (h:jX K N ad l w):uV K ad w:=fun g hg=>by
 obtain ⟨j,hj⟩:=List.mem_iff_getElem?.1 hg
 have hlt:=(List.getElem?_eq_some_iff.1 hj).1
 obtain ⟨c,hc⟩:∃ c,l[j]? =some c:=⟨_,List.getElem?_eq_getElem (by rw [<-h.len];exact hlt)⟩
 obtain ⟨h1,h2⟩:=h.ok c (List.mem_of_getElem? hc)
 exact ⟨c.1,_,h.cls j g c hj hc,h1,du h2⟩
theorem fm (P:Program) (w:World) (N:Nat) (K:KC) (SU:TypeId->Bool) (ti:TypeId->Option TI) (keep:∀ b,b < w.heap.size->K.S b) {ad:List Nat} {l:List (TypeId×List AV)} {us:List Value} {f:FuncId} {fn:Func} {c:Code} {R:Ending->World->Prop} (hf:P.funcs[f]? =some fn) (hb:fn.body=some c) (hN:fn.ntmps=N) (ha:us.length + 1≤N)
  (hl:jX K N ad l w) (h0:0 < l.length)
  (h:VS (Pw P w N K SU ti keep ad hl.nodup hl.ad) (bodyPost P fn R) [.code c] (Fr.Sp 0 (.box (2 * N) 0::us.map .val)) (Hp.PS (2 * N) l) w):Calls P f (Value.pointer (some ⟨ad.getD 0 0,0,none⟩)::us).toArray w R:=by
 have xB:∀ i c,Hp.PS (2 * N) l i=some c->2 * N≤i/\l[i - 2 * N]? =some c:=fun i c hi=>by
  rw [Hp.pR] at hi
  split at hi
  ·exact ⟨by assumption,hi⟩
  ·cases hi
 have hsome:∀ i,Hp.PS (2 * N) l i≠none->2 * N≤i/\i - 2 * N < l.length:=fun i hi=>by
  cases hh:Hp.PS (2 * N) l i with
  | none=>exact absurd hh hi
  | some c=>
    obtain ⟨h1,h2⟩:=xB i c hh
    exact ⟨h1,(List.getElem?_eq_some_iff.1 h2).1⟩
 have hval:∀ k,k < ad.length->ad[k]? =some (ad.getD k 0):=fun k hk=>by simp [List.getD_eq_getElem?_getD,hk]
 have:=Iw (C:=Pw P w N K SU ti keep ad hl.nodup hl.ad) (R:=R) (args:=.box (2 * N) 0::us.map .val) (β:=adB N ad) (H:=Hp.PS (2 * N) l) hf hb hN (by simpa using ha) (fun i t cs hi=> ?_) (fun i j hi hj e=> ?_) ⟨fun i t cs hi=> ?_,fun i t cs hi=> ?_,fun i hi=> ?_⟩ (fun v hv i hi=> ?_) h
 ·have e:(AV.box (2 * N) 0::us.map AV.val).map (AV.bl (adB N ad))=Value.pointer (some ⟨ad.getD 0 0,0,none⟩)::us:=by
   rw [List.map_cons,jl]
   show Value.pointer (some ⟨ad.getD (2 * N - 2 * N) 0,0,none⟩)::us=_
   rw [Nat.sub_self]
  rw [e] at this
  exact this
 ·obtain ⟨h1,h2⟩:=xB i _ hi
  have hlt:=(List.getElem?_eq_some_iff.1 h2).1
  obtain ⟨g1,g2⟩:=hl.ok _ (List.mem_of_getElem? h2)
  have hv:=hval (i - 2 * N) (by rw [hl.len];exact hlt)
  refine ⟨?_,g1,hl.cls _ _ _ hv h2,g2⟩
  show dm N ad w i (adB N ad i)
  unfold dm
  rw [if_pos h1]
  exact hv
 ·obtain ⟨h1,h2⟩:=hsome i hi
  obtain ⟨h3,h4⟩:=hsome j hj
  have e1:=hval (i - 2 * N) (by rw [hl.len];exact h2)
  have e2:=hval (j - 2 * N) (by rw [hl.len];exact h4)
  have e':ad.getD (i - 2 * N) 0=ad.getD (j - 2 * N) 0:=e
  rw [<-e'] at e2
  have:=(List.getElem?_inj (by rw [hl.len];exact h2) hl.nodup).1 (e1.trans e2.symm)
  omega
 ·obtain ⟨h1,h2⟩:=xB i _ hi
  exact hl.ok _ (List.mem_of_getElem? h2)
 ·obtain ⟨h1,h2⟩:=xB i _ hi
  intro j hj
  obtain ⟨h3,h4⟩:=hl.ids _ (List.mem_of_getElem? h2) j hj
  rw [Hp.pR,if_pos h3,List.getElem?_eq_getElem ab]
  simp
 ·have wh:2 * N + ad.length≤i:=hi
  rw [Hp.pR]
  split
  ·exact List.getElem?_eq_none (by rw [<-hl.len];omega)
  ·rfl
 ·rcases List.mem_cons.1 hv with rfl | hv
  ·have:i=2 * N:=by simpa [AV.ids] using hi
   rw [this,Hp.pR,if_pos (Nat.le_refl _),Nat.sub_self,List.getElem?_eq_getElem h0];simp
  ·obtain ⟨u,_,rfl⟩:=List.mem_map.1 hv
   cases hi
theorem fo {P:Program} {w w':World} {N:Nat} {K:KC} {SU:TypeId->Bool} {ti:TypeId->Option TI} {keep:∀ b,b < w.heap.size->K.S b} {ad:List Nat} {hd:ad.Nodup} {ha:uV K ad w} {β:Nat->Nat} {i:Nat} {t:TypeId} {cs:List AV} (h:mU (Pw P w N K SU ti keep ad hd ha) β w' i t cs) (j g:Nat) (hi:i=2 * N + j) (hj:ad[j]? =some g):β i=g/\bg w' g t (cs.map (AV.leaf β)).toArray:=by
 have h1:dm N ad w i (β i):=h.new
 unfold dm at h1
 rw [if_pos ab,hi,Nat.add_sub_cancel_left,hj] at h1
 have h2:g=β i:=by rw [hi];simpa using h1
 exact ⟨h2.symm,h2▸h.cls⟩
section
variable {C:Cx} {F:Fr} {H:Hp} {w:World} {m:Option (List FuncId)} {full:Array Oper} {K:Fr->Hp->World->Prop} {o:Oper} {r:List Oper} {Q:Exit->Act->World->Prop} {k:List It}
def BL (F:Fr) (β:Nat->Nat):List (Nat×AV)->Prop
 | []=>True
 | p::r=>(∃ u x,F p.1=some u/\u.bl β=x/\p.2=.val x)/\BL F β r
theorem BL.mem {β:Nat->Nat}:∀ {L:List (Nat×AV)} {d:Nat} {v:AV},BL F β L->(d,v)∈L->∃ u x,F d=some u/\u.bl β=x/\v=.val x
 | p::r,d,v,h,hm=>by
   rcases List.mem_cons.1 hm with rfl | hm
   ·exact h.1
   ·exact BL.mem h.2 hm
theorem VS.Th (D:World->Cx) (hP:∀ w,(D w).P=C.P) (hN:∀ w,(D w).N=C.N) (hO:∀ w,(D w).Old w)
  (h:∀ w' β,bH C.K w w'->C.Old w'->Ends C β H w'->∃ L:List (Nat×AV),BL F β L/\VS (D w') Q k (Fr.of L) (fun _=>none) w'):VS C Q k F H w:=fun β a w' hr hk=>by
 obtain ⟨L,hL,hv⟩:=h w' β hk hr.old ⟨hr.own,hr.apart⟩
 have:=hv β a w' ⟨hr.defers,by rw [hN];exact hr.size,fun d v hd=> ?_,fun i t cs hi=>(by cases hi),fun i j hi=>absurd rfl hi,fun d v hd i hi=> ?_,fun d v hd=> ?_,⟨fun i t cs hi=>(by cases hi),fun i t cs hi=>(by cases hi),fun i hi=>rfl⟩,hO w'⟩ (bH.refl _ _)
 ·rw [hP] at this
  exact this
 ·obtain ⟨u,x,h1,rfl,rfl⟩:=hL.mem (Fr.gR hd)
  exact hr.tmp d u h1
 ·obtain ⟨u,x,h1,rfl,rfl⟩:=hL.mem (Fr.gR hd)
  cases hi
 ·obtain ⟨u,x,h1,rfl,rfl⟩:=hL.mem (Fr.gR hd)
  rw [hN];exact hr.fits d u h1
end
section
variable {C:Cx} {F:Fr} {H:Hp} {w:World} {m:Option (List FuncId)} {full:Array Oper} {K:Fr->Hp->World->Prop} {o:Oper} {r:List Oper}
theorem VO.appO (hC:C.Ok) {t e:TypeId} {it ie:TI} {sz n c mm off i:Nat} {x y:Operand} {src:AV} {pre known spare news:List AV} {dst:Nat}
  (e0:stepOf C full F H o=.call (.op o [.row i off n c,src])) (ho:o.op=.call { callee:=.builtin .append,args:=#[x,y],argTypes:=#[t,t] })
  (Pr:C.ti t=some it) (DM:it.elem=some (e,sz)) (Gt:C.ti e=some ie) (hU:C.K.fz e=false) (hzo:ie.zero.cells.toList.all aV=true)
  (hd:o.dst=some dst) (hN:dst < C.N) (hl:lvl C.SU m o=2)
  (hH:H i=some (e,pre++(known++spare))) (hpre0:pre.length=off\/(c=0/\0 < mm))
  (je:H dst=none\/some i=some dst) (hk:known.length=n * sz) (hsp:(known++spare).length=c * sz) (fE:n≤c) (fX:c≤9223372036854775807)
  (gD:ax known=[]/\ax spare=[]/\ax news=[]) (hlidp:ax pre=[]) (fI:known.all aG=true/\spare.all aG=true/\news.all aG=true) (hokp:pre.all aG=true) (Bm:news.length=mm * sz) (iu:(n + mm) * (24 * sz)≤140737488355328)
  (Iu:∀ w1 β,bH C.K w w1->C.Old w1->ox C β H (gJ [.row i off n c,src]) w1->∃ p cc,src.bl β=.slice p mm cc/\(mm=0\/∃ b off,p=some ⟨b,off,none⟩/\∀ j u,(news.map (AV.leaf β))[j]? =some u->w1.cell? ⟨b,off + j,none⟩=some u))
  (hK:∀ w2 aX ck cap aj ρ,bH C.K w w2->C.Old w2->(∀ x,aV (ρ x)=true)->ck.length=aX->ck.all aG=true->ax ck=[]->n + mm≤cap->cap≤9223372036854775807->((known++news)++aj).length=cap * sz->aj.all aG=true->ax aj=[]->
   aC C m full r K ((F.forget (some i) ρ).bB o.dst (.row dst aX (n + mm) cap)) ((H.forget (some i) ρ).put dst (e,ck++((known++news)++aj))) w2):aC C m full (o::r) K F H w:=by
 obtain ⟨base,kP⟩:∃ base,base=AV.row i off n c:=⟨_,rfl⟩
 obtain ⟨del,hdel⟩:∃ del,del=some i:=⟨_,rfl⟩
 rw [<-kP] at e0 Iu
 rw [<-hdel] at je hK
 show one C m full o (aC C m full r K) F H w
 unfold one
 rw [e0]
 intro w1 β h1 h2 h3
 obtain ⟨hu,hsz⟩:=(hC t it Pr).isSlice e sz DM
 have DR:=hC e ie Gt
 cases tp:C.P.info? e with
 | none=>have:=DR.size;rw [tp] at this;simp at this
 | some ti=>
   have MS:ti.size=ie.size:=by have:=DR.size;rw [tp] at this;simpa using this
   have gC:ti.zero=some ie.zero:=by have:=DR.Ds;rw [tp] at this;simpa using this
   have aI:ti.bytes≤24 * ie.size:=bu (by have:=DR.bytes;rw [tp] at this;simpa using this)
   have ET:sz=ti.size:=by
    have:=hsz w1
    simp [sizeOf,typeInfo,tp] at this
    exact this.symm
   have lI:0 < sz:=by rw [ET,MS];exact DR.pos
   have QN:ie.zero.cells.size=sz:=by rw [DR.AQ,ET,MS]
   have hcap:n + mm≤140737488355328:=by
    have:(n + mm) * 24≤(n + mm) * (24 * sz):=Nat.mul_le_mul_left _ ab
    omega
   have Kh:(n + mm) * ti.bytes≤140737488355328:=Nat.le_trans (Nat.mul_le_mul_left _ (by rw [ET,MS];exact aI)) iu
   obtain ⟨p,cc,hsc,hsp2⟩:=Iu w1 β h1 h2 h3
   have hS:Src C.P ti.size t (.slice p mm cc) mm (news.map (AV.leaf β)) w1:=by
    have uT:∀ u∈news.map (AV.leaf β),u.oneCell'=true:=fun u hu=>tc (List.all_eq_true.1 (du (β:=β) fI.2.2) u hu)
    rcases hsp2 with rfl | ⟨b,off,rfl,hc⟩
    ·have:news=[]:=List.eq_nil_of_length_eq_zero (by simpa using Bm)
     subst this
     cases p with
     | none=>exact Src.ofNil w1 hu cc
     | some a=>exact Src.ofSlice w1 hu a 0 cc [] cw (fun j u hj=>by simp at hj) uT
    ·refine Src.ofSlice w1 hu ⟨b,off,none⟩ mm cc _ (by rw [List.length_map,Bm,ET]) (fun j u hj=> ?_) uT
     rw [Addr.add_mid]
     exact hc j u hj
   have Sl:∀ ρ:Operand->Value,o.op.operands.toList.map ρ=[base,src].map (AV.bl β)->ρ x=base.bl β/\ρ y=.slice p mm cc:=fun ρ h=>by
    rw [ho] at h
    simp [Op.operands,Call.operands] at h
    exact ⟨h.1,h.2.trans hsc⟩
   have hrun:∀ {v:Value} {w2:World},(Builtin.append_ #[t,t] o.type #[base.bl β,.slice p mm cc]).run C.P w1=.ok v w2->∀ ρ:Operand->Value,o.op.operands.toList.map ρ=[base,src].map (AV.bl β)->(execOp ρ o).run C.P w1=.ok (.value v) w2:=fun {v w2} hv ρ fJ=>by
    obtain ⟨q1,q2⟩:=Sl ρ fJ
    unfold execOp
    simp only [ho,resolve,invoke,builtin,Sem.run_bind,Sem.run_pure,Result.andThen_ok,List.map_toArray,List.map_cons,List.map_nil,q1,q2,hv]
   have hg:∀ i,del=some i->Reach H (gJ [base,src]) i/\H i≠none:=fun i' hi=>by
    rw [hdel] at hi;cases hi
    exact ⟨.base (by rw [kP];simp [gJ,AV.ids]),by rw [hH];simp⟩
   have fin:∀ (w2:World) (b aX cap:Nat) (ck aj:List AV),ck.length=aX->ck.all aG=true->ax ck=[]->(∀ ρ:Operand->Value,o.op.operands.toList.map ρ=[base,src].map (AV.bl β)->(execOp ρ o).run C.P w1=.ok (.value (.slice (some ⟨b,aX,none⟩) (n + mm) cap)) w2)->
     w2.os=w1.os->w2.tape=w1.tape->w2.output=w1.output->w1.heap.size≤w2.heap.size->(∀ q,q < w1.heap.size->q≠b->w2.heap[q]? =w1.heap[q]?)->(w1.heap.size≤b\/∃ i,del=some i/\b=β i)->
     n + mm≤cap->cap≤9223372036854775807->((known++news)++aj).length=cap * sz->aj.all aG=true->ax aj=[]->bg w2 b e ((ck++((known++news)++aj)).map (AV.leaf β)).toArray->
     wB C.P (.op o [base,src]) β w1 fun e w2=>∃ bZ r' del ups,e=.returned (r'.bl bZ)/\(∀ i∈r'.ids,i∈ups.map (·.1)\/(Reach H (fu.op o [base,src]).ids i/\H i≠none/\del≠some i))/\(1≤lvl C.SU m o\/ups=[])/\(2≤lvl C.SU m o\/del=none)/\
      AX C β bZ H (fu.op o [base,src]).ids del ups w1 w2/\(bH C.K w w2->bH C.K w1 w2->C.Old w2->∀ ρ,(∀ x,aV (ρ x)=true)->aC C m full r K ((F.forget del ρ).bB o.dst r') ((H.forget del ρ).fZ ups) w2):=by
    intro w2 b aX cap ck aj p1 p2 p3 hrun q1 q2 q3 q4 q5 q6 q7 q8 q9 q10 q11 q12
    let bZ:Nat->Nat:=fun i=>if i=dst then b else β i
    have rV:bZ dst=b:=if_pos rfl
    have fY:(ck++((known++news)++aj)).all aG=true:=by simp only [List.all_append,fI.1,fI.2.2,q10,p2];rfl
    have iK:ax (ck++((known++news)++aj))=[]:=by rw [cU,cU,cU,gD.1,gD.2.2,q11,p3];rfl
    have Ps:C.Cu dst b:=by
     rcases q6 with e | ⟨i,hi,e⟩
     ·exact C.uK _ _ ab (by have:=C.fC _ h2;omega)
     ·obtain ⟨g1,g2⟩:=hg i hi
      cases hh:H i with
      | none=>exact absurd hh g2
      | some c'=>rw [e];exact C.Hn i dst _ (h3.own i g1 c'.1 c'.2 hh).new ab
    have Dm:∀ i,del=some i->w2.heap[β i]? =w1.heap[β i]?\/∃ x∈[(dst,(e,ck++((known++news)++aj)))],bZ x.1=β i:=fun i hi=>by
     by_cases e':β i=b
     ·exact .inr ⟨_,List.mem_singleton.2 rfl,rV.trans e'.symm⟩
     ·obtain ⟨g1,g2⟩:=hg i hi
      cases hh:H i with
      | none=>exact absurd hh g2
      | some c'=>exact .inl (q5 _ (h3.own i g1 c'.1 c'.2 hh).cls.lt e')
    refine ⟨_,w2,fun ρ fJ=>.inl (hrun ρ fJ),bZ,.row dst aX (n + mm) cap,del,[(dst,(e,ck++((known++news)++aj)))],?_,fun i hi=>.inl (by simpa [AV.ids] using hi),.inl ab,.inl ab,?_,fun a1 a2 a3 ρ fJ=>hK w2 aX ck cap aj ρ a1 a3 fJ p1 p2 p3 q7 q8 q9 q10 q11⟩
    ·show Ending.returned _=.returned (Value.slice (some ⟨bZ dst,aX,none⟩) (n + mm) cap);rw [rV]
    ·refine ⟨q1,q2,q3,q4,fun k hk hx jR _=>q5 k hk (by have:=hx _ (List.mem_singleton.2 rfl);simpa [rV] using this),fun i hi=>if_neg (by simpa using hi),hg,fun i hi=>(Dm i hi).imp .inl id,fun x hx=> ?_,fun x hx=> ?_,by simp,fun x hx y hy _=> ?_,fun x hx j hj=> ?_⟩
     ·cases List.mem_singleton.1 hx
      refine ⟨by rw [rV];exact Ps,hU,?_,fY⟩
      rw [rV,jk (β:=β) (fun i hi=>by rw [iK] at hi;cases hi)]
      exact q12
     ·cases List.mem_singleton.1 hx
      refine .inr ⟨je,by omega,?_⟩
      rcases q6 with e | ⟨i,hi,e⟩
      ·exact .inl (by rw [rV];exact e)
      ·exact .inr ⟨i,hi,by rw [rV];exact e⟩
     ·cases List.mem_singleton.1 hx;cases List.mem_singleton.1 hy;rfl
     ·cases List.mem_singleton.1 hx
      rw [iK] at hj;cases hj
   have grow:c < n + mm->(∃ bp,base.bl β=.slice bp n c/\(Builtin.firstCells ti.size n (.slice bp n c)).run C.P w1.drew=.ok (known.map (AV.leaf β)).toArray w1.drew)->wB C.P (.op o [base,src]) β w1 fun e w2=>∃ bZ r' del ups,e=.returned (r'.bl bZ)/\(∀ i∈r'.ids,i∈ups.map (·.1)\/(Reach H (fu.op o [base,src]).ids i/\H i≠none/\del≠some i))/\(1≤lvl C.SU m o\/ups=[])/\(2≤lvl C.SU m o\/del=none)/\
      AX C β bZ H (fu.op o [base,src]).ids del ups w1 w2/\(bH C.K w w2->bH C.K w1 w2->C.Old w2->∀ ρ,(∀ x,aV (ρ x)=true)->aC C m full r K ((F.forget del ρ).bB o.dst r') ((H.forget del ρ).fZ ups) w2):=by
    rintro Pp ⟨bp,hbp,hfc⟩
    have hr:=run_append_grow_src (P:=C.P) w1 t t o.type e ti ie.zero hu tp gC bp n c (known.map (AV.leaf β)) hfc (.slice p mm cc) mm (news.map (AV.leaf β)) hS Pp ab (growslice_fits Pp Kh)
    obtain ⟨zs,mO,hz3,hz4⟩:=oJ ie.zero (grownCap w1 (n + mm) c e - (n + mm))
    have hge:=grownCap_ge w1 (n + mm) c e
    have hle:=grownCap_le_maxLen w1 (n + mm) c e (by simp only [maxLen];omega)
    rw [mO] at hr
    have Bn:aL w1 (w1.drew.alloc (.cells ((known.map (AV.leaf β)++news.map (AV.leaf β)).toArray++zs.toArray) e)):=(aL.refl w1).drew.alloc _
    refine fin _ w1.heap.size 0 (grownCap w1 (n + mm) c e) [] (zs.map .val) rfl rfl rfl (hrun (by rw [hbp];exact hr)) Bn.os Bn.tape Bn.output Bn.size (fun q hq _=>Below.block Bn q hq) (.inl (Nat.le_refl _)) hge (by simpa [maxLen] using hle) ?_ (bh (hz4 hzo)) (ai zs) ?_
    ·rw [List.length_append,List.length_append,List.length_map,hk,Bm,hz3,QN,<-Nat.add_mul,<-Nat.add_mul]
     congr 1
     omega
    ·have:(((known++news)++zs.map AV.val).map (AV.leaf β)).toArray=(known.map (AV.leaf β)++news.map (AV.leaf β)).toArray++zs.toArray:=by
      rw [List.map_append,List.map_append,ah]
      apply Array.ext'
      rw [Array.toList_append]
     rw [List.nil_append,this]
     exact bg.newAt (w:=w1.drew) rfl _ _
   have hki:pre++(known++spare)=(pre++known)++spare:=(List.append_assoc _ _ _).symm
   have Nh:base.bl β=.slice (some ⟨β i,off,none⟩) n c:=by rw [kP];rfl
   obtain ⟨g1,g2,g3,g4⟩:=h3.own i (.base (List.mem_append_left _ (by rw [kP];exact List.mem_singleton.2 rfl))) e _ hH
   by_cases hroom:n + mm≤c
   ·have uF:pre.length=off:=hpre0.resolve_right (fun h=>by omega)
    have He:(pre++known).length=off + n * sz:=by rw [List.length_append,uF,hk]
    have CO:known.length + spare.length=c * sz:=by rw [<-List.length_append];exact hsp
    have hmul:n * sz + mm * sz≤c * sz:=by rw [<-Nat.add_mul];exact Nat.mul_le_mul_right _ hroom
    have hfit:off + n * sz + news.length≤(pre++(known++spare)).length:=by rw [List.length_append,hsp,Bm,uF];omega
    have hr:=run_append_room_src (P:=C.P) w1 t t o.type e ti hu tp (β i) off n c (.slice p mm cc) mm (news.map (AV.leaf β)) hS hroom (fun j hj=>by
      rw [List.length_map] at hj
      obtain ⟨z,hz⟩:∃ z,((pre++(known++spare)).map (AV.leaf β))[off + n * ti.size + j]? =some z:=⟨_,List.getElem?_eq_getElem (by rw [List.length_map,<-ET];omega)⟩
      rw [g3.cell (u:=z) (by simpa using hz)];rfl)
     (fun j _=>g3.frozen _)
    rw [<-ET] at hr
    obtain ⟨k1,k2,k3,k4⟩:=lJ (K:=C.K) (news.map (AV.leaf β)) (off + n * sz) w1 ((pre++(known++spare)).map (AV.leaf β)) g3 g2 (du g4) (du fI.2.2)
    obtain ⟨s1,s2,s3,_⟩:=kF (b:=β i) (news.map (AV.leaf β)) (off + n * sz) w1
    refine fin _ (β i) off c pre (spare.drop (mm * sz)) uF hokp hlidp (hrun (by rw [Nh];exact hr)) s1 s2 s3 k1.size (fun q _ hq=>jH _ _ _ q hq) (.inr ⟨i,hdel,rfl⟩) hroom fX ?_ ?_ ?_ ?_
    ·simp only [List.length_append,List.length_drop] at hsp hfit ⊢
     omega
    ·exact List.all_eq_true.2 fun x hx=>List.all_eq_true.1 fI.2.1 x (List.mem_of_mem_drop hx)
    ·rw [List.eq_nil_iff_forall_not_mem]
     intro j hj
     obtain ⟨v,hv,hj'⟩:=aZ.1 hj
     have:j∈ax spare:=aZ.2 ⟨v,List.mem_of_mem_drop hv,hj'⟩
     rw [gD.2.1] at this;cases this
    ·rw [pD _ _ _ (by simp only [List.length_map];omega)] at k2
     have:((pre++(known++spare)).map (AV.leaf β)).take (off + n * sz)++(news.map (AV.leaf β)++((pre++(known++spare)).map (AV.leaf β)).drop (off + n * sz + (news.map (AV.leaf β)).length))=((pre++((known++news)++spare.drop (mm * sz))).map (AV.leaf β)):=by
      rw [hki,List.length_map,Bm,<-List.map_take,<-List.map_drop,<-He,List.take_left',List.drop_append]
      ·rw [List.drop_of_length_le ab]
       simp [List.map_append]
      ·rfl
     rw [this] at k2
     exact k2
   ·refine grow ab ⟨some ⟨β i,off,none⟩,Nh,?_⟩
    refine run_firstCells_some w1.drew ti.size n ⟨β i,off,none⟩ n c (known.map (AV.leaf β)) (by rw [List.length_map,hk,ET]) (fun j u hj=> ?_)
    rw [Addr.add_mid]
    have hlt:=(List.getElem?_eq_some_iff.1 hj).1
    have uF:pre.length=off:=hpre0.resolve_right (fun h=>by
     rw [List.length_map,hk] at hlt
     have:n=0:=by omega
     rw [this] at hlt;omega)
    have:w1.cell? ⟨β i,off + j,none⟩=some u:=g3.cell (by
     rw [List.map_append,List.map_append]
     rw [List.getElem?_toArray,List.getElem?_append_right (by rw [List.length_map];omega),List.length_map,uF,Nat.add_sub_cancel_left,List.getElem?_append_left hlt]
     exact hj)
    exact this
end
def pT (o:Oper):Bool:=match o.op,o.guard,o.dst with | .store _ _ _,none,none=>true | _,_,_=>false
def vx (su:TypeId->Bool) (ml:List FuncId) (full:Array Oper) (B S:List Nat) (i j:Nat):Bool:=
 oG su ml full i j || (B.contains i && (S.contains j && (match full[i]?,full[j]? with | some p,some o=>p.apart full o | _,_=>true)))
def Lt (su:TypeId->Bool) (ml:List FuncId) (full:Array Oper) (B S:List Nat):Bool:=
 ((List.range full.size).all fun j=>(ez full j).all (fun d=>Nat.blt d j) && (List.range j).all fun i=>vx su ml full B S i j) &&
   ((full.toList.all fun o=> !Nat.beq (aw su ml o) 5) && ((B.all fun j=>match full[j]? with | some o=>Nat.ble (aw su ml o) 2 || Nat.beq (aw su ml o) 4 | none=>true) && (S.all fun j=>match full[j]? with | some o=>pT o | none=>true)))
section
variable {C:Cx} {full:Array Oper} {ml:List FuncId} {Q:Exit->Act->World->Prop} {F:Fr} {H:Hp} {w:World} {k:Fr->Hp->World->Prop} {p o q:Oper}
def yw (su:TypeId->Bool) (ml:List FuncId) (J:List Nat) (F:Fr) (o:Oper):Prop:=
 (∀ x∈o.op.operands.toList,∀ v,ev F x=some v->(∀ i∈v.ids,i∉J)/\(aw su ml o=4->v.ids=[]))/\∀ d,o.dst=some d->d∉J
def Toward (J:List Nat) (F:Fr) (o:Oper):Prop:=∃ t x y j off,o.op=.store t x y/\ev F x=some (.box j off)/\j∈J
theorem Ti {t:TypeId} {x:Operand} {d:Nat} {c:TypeId×List AV} (hop:o.op=.load t x) (h:∀ v,ev F x=some v->d∉v.ids):act C F (H.put d c) o=act C F H o:=by
 unfold act
 rw [hop]
 dsimp only
 split
 ·rename_i b off i hx hi
  have:b≠d:=fun e=>h _ hx (by simp [AV.ids,e])
  rw [Hp.cY,if_neg this]
 ·rename_i b off i hx hi
  have:b≠d:=fun e=>h _ hx (by simp [AV.ids,e])
  rw [Hp.cY,if_neg this]
 ·rfl
 ·rfl
theorem Jj (h:aw C.SU ml o=1):∃ t x,o.op=.load t x:=by
 unfold aw at h
 cases hop:o.op <;> rw [hop] at h <;> simp only at h <;> try (exfalso;revert h;simp;done)
 case load t x=>exact ⟨t,x,rfl⟩
 case unOp op _ _=>cases op <;> simp at h
 case makeFunc fn _ _=>cases fn <;> simp at h
 case slice t x lo hi mx=>cases mx <;> simp at h
 case buildSlice t n ps=>exfalso;cases hs:C.SU t <;> rw [hs] at h <;> simp at h
 case call c=>
  exfalso
  cases hc:c.callee with
  | builtin b=>rw [hc] at h;cases b <;> simp at h
  | value f=>rw [hc] at h;cases hk:EJ ml c <;> cases hm:ML ml c <;> simp [hm,hk] at h
  | _=>rw [hc] at h;simp at h
theorem Tj {J:List Nat} {d:Nat} {c:TypeId×List AV} (ha:yw C.SU ml J F o) (hd:d∈J) (hm:aw C.SU ml o≤2\/aw C.SU ml o=4):stepOf C full F (H.put d c) o=stepOf C full F H o:=by
 refine fi ?_
 rcases (by omega:aw C.SU ml o=0\/aw C.SU ml o=1\/aw C.SU ml o=2\/aw C.SU ml o=4) with e | e | e | e
 ·exact gQ (ml:=ml) (.inl e)
 ·obtain ⟨t,x,hop⟩:=Jj e
  refine Ti hop fun v hv hi=> ?_
  exact (ha.1 x (by rw [hop];simp [Op.operands]) v hv).1 d hi hd
 ·cases ho:o.dst with
  | none=>exact xM (ml:=ml) (c:=(d,c)) e ho
  | some d'=>exact Bg (ml:=ml) e ho (fun e'=>ha.2 d' ho (e'▸hd))
 ·exact gQ (ml:=ml) (.inr e)
theorem xX {J:List Nat} (ht:Toward J F o) (hs:pT o=true):stepOf C full F H o=.bad\/∃ j c,j∈J/\stepOf C full F H o=.ft (.val undef) (some (j,c))/\∀ H':Hp,H' j=H j->stepOf C full F H' o=stepOf C full F H o:=by
 obtain ⟨t,x,y,j,off,hop,hx,hj⟩:=ht
 have hg:o.guard=none/\o.dst=none:=by
  unfold pT at hs
  rw [hop] at hs
  revert hs
  cases o.guard <;> cases o.dst <;> simp
 have hst:∀ H:Hp,stepOf C full F H o=act C F H o:=fun H=>by
  unfold stepOf wants lE
  rw [hg.1,hg.2]
  rfl
 have hac:∀ H:Hp,act C F H o=match ev F y,C.ti t with
  | some v,some i=>(match H j with | some (tb,cs)=>nT i j tb cs off v | none=>.bad)
  | _,_=>.bad:=fun H=>by
  unfold act
  rw [hop]
  dsimp only
  rw [hx]
  cases ev F y with
  | none=>rfl
  | some v=>cases C.ti t <;> rfl
 rw [hst,hac]
 cases hy:ev F y with
 | none=>exact .inl rfl
 | some v=>
   cases ht':C.ti t with
   | none=>exact .inl rfl
   | some i=>
     dsimp only
     cases hh:H j with
     | none=>exact .inl rfl
     | some u=>
       obtain ⟨tb,cs⟩:=u
       dsimp only
       rcases Plain.nT i j tb cs off v with e | ⟨v',u',e⟩
       ·exact .inl e
       ·obtain ⟨_,_,_,rfl,rfl⟩:=AZ e
        refine .inr ⟨j,_,hj,e,fun H' hH=> ?_⟩
        rw [hst,hac,hy,ht',hH,hh]
theorem swapL (hC:C.Ok) {J:List Nat} (hL:Live C F H w) (ha:q.apart full o=true) (hq:yw C.SU ml J F q) (hqm:aw C.SU ml q≤2\/aw C.SU ml q=4) (ho:Toward J F o) (hs:pT o=true) (h:one C (some ml) full q (one C (some ml) full o k) F H w):one C (some ml) full o (one C (some ml) full q k) F H w:=by
 obtain ⟨a1,a2,a3⟩:=Oper.apart_spec ha
 have hod:o.dst=none:=by
  unfold pT at hs
  revert hs
  cases o.op <;> cases o.guard <;> cases o.dst <;> simp
 have hstep:∀ (x:AV) (H':Hp),stepOf C full (F.bB q.dst x) H' o=stepOf C full F H' o:=fun x H'=>ea a1
 rcases xX (C:=C) (full:=full) (H:=H) ho hs with hb | ⟨j,c,hj,hst,hsame⟩
 ·exfalso
  rcases gg (C:=C) (stepOf C full F H q) with hp | ⟨Ψp,up,hp⟩ | ⟨d,hp⟩
  ·unfold one at h;rw [hp] at h;exact h.elim
  ·obtain ⟨x,hx,h⟩:=(cP hp).1 h
   unfold one at h
   have hu:stepOf C full (F.bB q.dst x) (H.upd up) o=.bad:=by
    rw [hstep]
    rcases xX (C:=C) (full:=full) (H:=H.upd up) ho hs with e | ⟨j,c,hj,e,hsm⟩
    ·exact e
    ·have:(H.upd up) j=H j:=by
      rcases fw (ml:=ml) hp with e' | e' | ⟨e',d,c',hd,e2,h0⟩
      ·rw [e'];rfl
      ·omega
      ·rw [e2];show (H.put d c') j=H j
       rw [Hp.cY,if_neg]
       intro e3
       exact hq.2 d hd (e3▸hj)
     rw [<-hsm H this.symm,hb]
   rw [hu] at h
   exact h
  ·unfold one at h
   rw [hp] at h
   have hl:lvl C.SU (some ml) q=0:=by
    obtain ⟨co,_⟩:=fR (ml:=ml) hp
    show AW _=0
    rcases co with e | e | e <;> first | (rw [e];rfl) | omega
   obtain ⟨r,F',H',w2,hH,hF,hv⟩:=cD.some hL h
   rw [hH hl,hF ab] at hv
   have hv:one C (some ml) full o k (F.bB q.dst r) H w2:=hv
   unfold one at hv
   rw [hstep,hb] at hv
   exact hv
 ·have uT:∀ (k':Fr->Hp->World->Prop) (w':World),one C (some ml) full o k' F H w'↔k' F (H.put j c) w':=fun k' w'=>by
   unfold one
   rw [hst,hod]
   rfl
  have Tk:∀ (x:AV) (H':Hp) (w':World),H' j=H j->one C (some ml) full o k (F.bB q.dst x) H' w'->k (F.bB q.dst x) (H'.put j c) w':=fun x H' w' hH hv=>by
   unfold one at hv
   rw [hstep,hsame H' hH,hst,hod] at hv
   exact hv
  rw [uT]
  have hqs:stepOf C full F (H.put j c) q=stepOf C full F H q:=Tj hq hj hqm
  rcases gg (C:=C) (stepOf C full F H q) with hp | ⟨Ψp,up,hp⟩ | ⟨d,hp⟩
  ·unfold one at h;rw [hp] at h;exact h.elim
  ·obtain ⟨x,hx,h⟩:=(cP hp).1 h
   refine (cP (by rw [hqs];exact hp)).2 ⟨x,hx,?_⟩
   rcases fw (ml:=ml) hp with e' | e' | ⟨e',d,c',hd,e2,h0⟩
   ·subst e'
    exact Tk x H w rfl h
   ·omega
   ·subst e2
    have hdj:d≠j:=fun e3=>hq.2 d hd (e3▸hj)
    have hHj:(H.upd (some (d,c'))) j=H j:=by
     show (H.put d c') j=H j
     rw [Hp.cY,if_neg (fun e=>hdj e.symm)]
    have:=Tk x (H.upd (some (d,c'))) w hHj h
    have hcomm:(H.upd (some (d,c'))).put j c=(H.put j c).upd (some (d,c')):=by
     funext z
     show ((H.put d c').put j c) z=((H.put j c).put d c') z
     simp only [Hp.cY]
     by_cases h1:z=j
     ·subst h1;rw [if_pos rfl,if_neg (fun e=>hdj e.symm)];exact (if_pos rfl).symm
     ·rw [if_neg h1]
      by_cases h2:z=d
      ·rw [if_pos h2,if_pos h2]
      ·rw [if_neg h2,if_neg h2,if_neg h1]
    rw [hcomm] at this
    exact this
  ·have hm4:aw C.SU ml q=4:=by
    obtain ⟨co,_⟩:=fR (ml:=ml) hp
    omega
   have hl:lvl C.SU (some ml) q=0:=by show AW _=0;rw [hm4];rfl
   have Sg:d.ids=[]:=by
    rcases pH hp with e | e | e
    ·cases e
    ·cases e
    ·classical
     obtain ⟨H0,hH0⟩:∃ H0:Hp,H0=fun _=>none:=⟨_,rfl⟩
     obtain ⟨F',hF'⟩:∃ F':Fr,F'=fun t=>if Operand.tmp t∈q.op.operands.toList then F t else none:=⟨_,rfl⟩
     have e2:act C F' H0 q=act C F H0 q:=DC (fun y hy=>uR fun t ht=>by rw [hF'];exact if_pos (ht▸hy))
     have e1:act C F' H0 q=.call d:=e2.trans ((gQ (ml:=ml) (H:=H) (.inr hm4)).trans e)
     have iI:jd F' H0:=fun t v hv i hi=>by
      rw [hF'] at hv
      dsimp only at hv
      split at hv
      ·rename_i hm
       rw [(hq.1 _ hm v hv).2 hm4] at hi;cases hi
      ·cases hv
     rw [List.eq_nil_iff_forall_not_mem]
     intro i hi
     exact xK iI e1 i hi (by rw [hH0])
   unfold one at h ⊢
   rw [hqs,hp]
   rw [hp] at h
   rw [hl] at h ⊢
   have h1:cD C 0 F H d w fun r _ _ w2=>k (F.bB q.dst r) (H.put j c) w2:=cD.mono hL h fun r F' H' w2 _ _ hH hF hv=>by
    rw [hH rfl,hF ab] at hv
    exact Tk r H w2 rfl hv
   have h2:=cD.heap (H':=H.put j c) (F:=F) (j:=fun r w2=>k (F.bB q.dst r) (H.put j c) w2) (fun i hi=>by
    exfalso
    have:∀ {i:Nat},¬ Reach H [] i:=fun {i} hr=>by
     induction hr with
     | base hi=>cases hi
     | step _ _ _ ih=>exact ih
    rw [Sg] at hi
    exact this hi) h1
   have hL2:Live C F (H.put j c) w:=by
    have:=km hC hL (Ψ:=fun x=>x=.val undef) (u:=some (j,c)) (by rw [hst];rfl) (x:=.val undef) rfl
    rw [hod] at this
    exact this
   refine cD.mono hL2 h2 fun r F' H' w2 _ _ hH hF hv=> ?_
   rw [hH rfl,hF ab]
   exact hv
theorem PT (hC:C.Ok) {k':Fr->Hp->World->Prop} (hL:Live C F H w) (h5:aw C.SU ml p≠5) (h:one C (some ml) full p k F H w) (hk:∀ x H' w',Live C (F.bB p.dst x) H' w'->k (F.bB p.dst x) H' w'->k' (F.bB p.dst x) H' w'):one C (some ml) full p k' F H w:=by
 rcases gg (C:=C) (stepOf C full F H p) with hp | ⟨Ψp,up,hp⟩ | ⟨d,hp⟩
 ·unfold one at h;rw [hp] at h;exact h.elim
 ·obtain ⟨x,hx,h⟩:=(cP hp).1 h
  exact (cP hp).2 ⟨x,hx,hk _ _ _ (km hC hL hp hx) h⟩
 ·have hb:stepOf C full F H p≠.bad:=fun e=>by rw [e] at hp;cases hp
  have hd:=(kh hb).1
  have hl:lvl C.SU (some ml) p≤1:=by
   obtain ⟨co,_⟩:=fR (ml:=ml) hp
   show AW _≤1
   rcases co with e | e | e
   ·rw [e];decide
   ·rw [e];decide
   ·exact absurd e h5
  unfold one at h ⊢
  rw [hp] at h ⊢
  refine cD.mono hL h fun r F' H' w2 hL2 Hd _ hF hv=> ?_
  have e:=hF hl
  subst e
  refine hk _ _ _ ?_ hv
  obtain ⟨β,a,w1,hr,DI⟩:=hL2.rel
  exact Live.of (hr.put hd Hd) DI
theorem PU (hC:C.Ok) (hL:Live C F H w) (h5:aw C.SU ml p≠5) (h:one C (some ml) full p k F H w):∃ x H' w',k (F.bB p.dst x) H' w':=by
 rcases gg (C:=C) (stepOf C full F H p) with hp | ⟨Ψp,up,hp⟩ | ⟨d,hp⟩
 ·unfold one at h;rw [hp] at h;exact h.elim
 ·obtain ⟨x,hx,h⟩:=(cP hp).1 h
  exact ⟨_,_,_,h⟩
 ·have hl:lvl C.SU (some ml) p≤1:=by
   obtain ⟨co,_⟩:=fR (ml:=ml) hp
   show AW _≤1
   rcases co with e | e | e
   ·rw [e];decide
   ·rw [e];decide
   ·exact absurd e h5
  unfold one at h
  rw [hp] at h
  obtain ⟨r,F',H',w2,_,hF,hv⟩:=cD.some hL h
  have e:=hF hl
  subst e
  exact ⟨_,_,_,hv⟩
def sV (C:Cx) (ml:List FuncId) (B S J:List Nat) (j:Nat) (o:Oper) (F:Fr):Prop:=(B.contains j=true->yw C.SU ml J F o)/\(S.contains j=true->Toward J F o)
theorem yw.oy {J:List Nat} {d:Option Nat} {x:AV} (h:∀ n,d=some n->n∉o.looksAt full) (ha:yw C.SU ml J (F.bB d x) o\/yw C.SU ml J F o):yw C.SU ml J F o/\yw C.SU ml J (F.bB d x) o:=by
 have key:∀ y∈o.op.operands.toList,ev (F.bB d x) y=ev F y:=fun y hy=>uR fun t ht=>mz fun n hn e=>h n hn (e▸kG hy ht)
 rcases ha with ha | ha
 ·exact ⟨⟨fun y hy v hv=>ha.1 y hy v ((key y hy).trans hv),ha.2⟩,ha⟩
 ·exact ⟨ha,⟨fun y hy v hv=>ha.1 y hy v ((key y hy).symm.trans hv),ha.2⟩⟩
theorem Toward.oy {J:List Nat} {d:Option Nat} {x:AV} (h:∀ n,d=some n->n∉o.looksAt full) (ha:Toward J (F.bB d x) o\/Toward J F o):Toward J F o/\Toward J (F.bB d x) o:=by
 have key:∀ y∈o.op.operands.toList,ev (F.bB d x) y=ev F y:=fun y hy=>uR fun t ht=>mz fun n hn e=>h n hn (e▸kG hy ht)
 rcases ha with ⟨t,x',y,j,off,hop,hx,hj⟩ | ⟨t,x',y,j,off,hop,hx,hj⟩
 ·exact ⟨⟨t,x',y,j,off,hop,(key x' (by rw [hop];simp [Op.operands])).symm.trans hx,hj⟩,⟨t,x',y,j,off,hop,hx,hj⟩⟩
 ·exact ⟨⟨t,x',y,j,off,hop,hx,hj⟩,⟨t,x',y,j,off,hop,(key x' (by rw [hop];simp [Op.operands])).trans hx,hj⟩⟩
theorem sV.oy {B S J:List Nat} {j:Nat} {d:Option Nat} {x:AV} (h:∀ n,d=some n->n∉o.looksAt full):sV C ml B S J j o (F.bB d x)↔sV C ml B S J j o F:=
 ⟨fun g=>⟨fun e=>(yw.oy h (.inl (g.1 e))).1,fun e=>(Toward.oy h (.inl (g.2 e))).1⟩,fun g=>⟨fun e=>(yw.oy h (.inr (g.1 e))).2,fun e=>(Toward.oy h (.inr (g.2 e))).2⟩⟩
def oc (C:Cx) (ml:List FuncId) (full:Array Oper) (B S J:List Nat):List Nat->(Fr->Hp->World->Prop)->Fr->Hp->World->Prop
 | [],K,F,H,w=>K F H w
 | j::r,K,F,H,w=>match full[j]? with
   | some o=>sV C ml B S J j o F/\one C (some ml) full o (oc C ml full B S J r K) F H w
   | none=>False
theorem mG {B S J:List Nat} {j:Nat} {r:List Nat} {K:Fr->Hp->World->Prop} (ho:full[j]? =some o):oc C ml full B S J (j::r) K F H w↔sV C ml B S J j o F/\one C (some ml) full o (oc C ml full B S J r K) F H w:=by
 conv=>lhs;unfold oc
 rw [ho]
structure Fits (su:TypeId->Bool) (ml:List FuncId) (full:Array Oper) (B S:List Nat) (i j:Nat) (p o:Oper):Prop where
 ap:p.apart full o=true
 ok:indep su ml full p o=true\/(B.contains i=true/\S.contains j=true)
 p5:aw su ml p≠5
 o5:aw su ml o≠5
 pB:B.contains i=true->aw su ml p≤2\/aw su ml p=4
 oS:S.contains j=true->pT o=true
theorem Ni (hC:C.Ok) {B S J:List Nat} {K:Fr->Hp->World->Prop} {i:Nat} {post:List Nat} (ho:full[i]? =some o):∀ (pre:List Nat) (F:Fr) (H:Hp) (w:World),(∀ j∈pre,∃ q,full[j]? =some q/\Fits C.SU ml full B S j i q o)->Live C F H w->oc C ml full B S J (pre++i::post) K F H w->oc C ml full B S J (i::(pre++post)) K F H w
 | [],F,H,w,_,_,h=>h
 | j::r,F,H,w,hi,hL,h=>by
   obtain ⟨q,hq,hf⟩:=hi j cw
   obtain ⟨a1,a2,a3⟩:=Oper.apart_spec hf.ap
   obtain ⟨hs,h⟩:=(mG (r:=r++i::post) hq).1 h
   have h1:one C (some ml) full q (fun F' H' w'=>sV C ml B S J i o F'/\one C (some ml) full o (oc C ml full B S J (r++post) K) F' H' w') F H w:=
    Bi hC hL h fun F' H' w' hL' hv=>(mG ho).1 (Ni hC ho r F' H' w' (fun q' hq'=>hi q' (by simp [hq'])) hL' hv)
   obtain ⟨x,H',w',hx,_⟩:=PU hC hL hf.p5 h1
   have ho':sV C ml B S J i o F:=(sV.oy a1).1 hx
   have h2:one C (some ml) full q (one C (some ml) full o (oc C ml full B S J (r++post) K)) F H w:=Bi hC hL h1 fun F' H' w' _ hv=>hv.2
   refine (mG ho).2 ⟨ho',?_⟩
   have h3:one C (some ml) full o (one C (some ml) full q (oc C ml full B S J (r++post) K)) F H w:=by
    rcases hf.ok with e | ⟨e1,e2⟩
    ·exact swap hC hL e h2
    ·exact swapL hC hL hf.ap (hs.1 e1) (hf.pB e1) (ho'.2 e2) (hf.oS e2) h2
   exact PT hC hL hf.o5 h3 fun x H' w' _ hv=>(mG (r:=r++post) hq).2 ⟨(sV.oy a3).2 hs,hv⟩
theorem Lu (hC:C.Ok) {B S J:List Nat} (mV:Lt C.SU ml full B S=true) {K:Fr->Hp->World->Prop} (hQ:∀ β F H w a w',K F H w->Rel C β F H a w'->bH C.K w w'->Q .normal a w'):
  ∀ (fuel:Nat) (listed:Array Bool) (rem:List Nat) (β:Nat->Nat) (F:Fr) (H:Hp) (w:World) (a:Act) (w':World),listed.size=full.size->rem.Pairwise (·< ·)->(∀ x,x∈rem↔x < full.size/\listed.getD x true=false)->rem.length≤fuel->
    (∀ j,j < full.size->listed.getD j true=true->∀ d∈ez full j,listed.getD d false=true)->
    oc C ml full B S J rem K F H w->Rel C β F H a w'->bH C.K w w'->wpAny C.P .any full Q fuel listed a w':=by
 unfold Lt at mV
 simp only [Bool.and_eq_true] at mV
 obtain ⟨hp0,h5,hB,hS⟩:=mV
 have iJ:∀ j,j < full.size->∀ d∈ez full j,d < j:=fun j hj d hd=>by
  have:=List.all_eq_true.1 hp0 j (List.mem_range.2 hj)
  rw [Bool.and_eq_true] at this
  exact bu (List.all_eq_true.1 this.1 d hd)
 have MQ:∀ i j,i < j->j < full.size->vx C.SU ml full B S i j=true:=fun i j hij hj=>by
  have:=List.all_eq_true.1 hp0 j (List.mem_range.2 hj)
  rw [Bool.and_eq_true] at this
  exact List.all_eq_true.1 this.2 i (List.mem_range.2 hij)
 have hne5:∀ {i:Nat} {o:Oper},full[i]? =some o->aw C.SU ml o≠5:=fun {i o} ho e=>by
  have:=List.all_eq_true.1 h5 o (List.mem_of_getElem? (by simpa using ho))
  rw [e] at this;exact absurd this bW
 have hBm:∀ {i:Nat} {o:Oper},full[i]? =some o->B.contains i=true->aw C.SU ml o≤2\/aw C.SU ml o=4:=fun {i o} ho hb=>by
  have:=List.all_eq_true.1 hB i (by simpa using hb)
  rw [ho] at this
  dsimp only at this
  rw [Bool.or_eq_true] at this
  exact this.imp bu Nat.eq_of_beq_eq_true
 have hSm:∀ {i:Nat} {o:Oper},full[i]? =some o->S.contains i=true->pT o=true:=fun {i o} ho hb=>by
  have:=List.all_eq_true.1 hS i (by simpa using hb)
  rw [ho] at this
  exact this
 intro fuel
 induction fuel with
 | zero=>
   intro listed rem β F H w a w' hsz hpw tu hlen rh h hr hk
   have h0:rem=[]:=List.eq_nil_of_length_eq_zero ab
   subst h0
   refine ⟨?_,hQ β F H w a w' h hr hk⟩
   rw [List.eq_nil_iff_forall_not_mem]
   intro i hi
   have:=mem_ready.1 hi
   exact absurd ((tu i).2 ⟨this.1,this.2.1⟩) cw
 | succ fuel ih=>
   intro listed rem β F H w a w' hsz hpw tu hlen rh h hr hk
   constructor
   ·intro Bj
    cases rem with
    | nil=>exact hQ β F H w a w' h hr hk
    | cons i r=>
      exfalso
      have hi:=(tu i).1 cw
      have:i∈Region.ready .any full listed:=mem_ready.2 ⟨hi.1,hi.2,fun d hd=>by
       have hdi:=iJ i hi.1 d hd
       cases hl:listed.getD d true with
       | true=>
         rw [Array.getD_eq_getD_getElem?] at hl ⊢
         have:d < listed.size:=by omega
         rw [Array.getElem?_eq_getElem this] at hl ⊢
         exact hl
       | false=>
         have hm:=(tu d).2 ⟨by omega,hl⟩
         rcases List.mem_cons.1 hm with e | e
         ·omega
         ·have:=(List.pairwise_cons.1 hpw).1 d e;omega⟩
      rw [Bj] at this
      cases this
   ·intro i hi
    obtain ⟨mP,CK,Gu⟩:=mem_ready.1 hi
    obtain ⟨pre,post,rfl⟩:=List.append_of_mem ((tu i).2 ⟨mP,CK⟩)
    have ho:=Array.getElem?_eq_getElem mP
    generalize full[i]=o at ho
    have fQ:=List.pairwise_append.1 hpw
    have hlt:∀ p∈pre,p < i:=fun p hp=>fQ.2.2 p hp i cw
    have Pp:∀ p∈post,i < p:=(List.pairwise_cons.1 fQ.2.1).1
    have hb:oc C ml full B S J (i::(pre++post)) K F H w:=by
     refine Ni hC ho _ F H w (fun p hp=> ?_) (Live.of hr hk) h
     have jQ:=(tu p).1 (by simp [hp])
     have DJ:=hlt p hp
     have Gv:=Array.getElem?_eq_getElem jQ.1
     generalize full[p]=q at Gv
     have hno:listed.getD p false=false:=by
      have h1:=jQ.2
      have:p < listed.size:=by omega
      rw [Array.getD_eq_getD_getElem?] at h1 ⊢
      rw [Array.getElem?_eq_getElem this] at h1 ⊢
      exact h1
     refine ⟨q,Gv,?_,?_,hne5 Gv,hne5 ho,hBm Gv,hSm ho⟩
     ·have:=MQ p i DJ mP
      unfold vx oG at this
      rw [Gv,ho] at this
      simp only [Bool.or_eq_true,Bool.and_eq_true] at this
      rcases this with (e | e) | e
      ·unfold indep at e
       rw [Bool.and_eq_true] at e
       exact e.1
      ·have:=lK iJ rh hsz full.size i mP Gu e
       rw [hno] at this;cases this
      ·exact e.2.2
     ·have:=MQ p i DJ mP
      unfold vx oG at this
      rw [Gv,ho] at this
      simp only [Bool.or_eq_true,Bool.and_eq_true] at this
      rcases this with (e | e) | e
      ·exact .inl e
      ·have:=lK iJ rh hsz full.size i mP Gu e
       rw [hno] at this;cases this
      ·exact .inr ⟨e.1,e.2.1⟩
    have uT:one C (some ml) full o (oc C ml full B S J (pre++post) K) F H w:=((mG ho).1 hb).2
    have:=oD (Q:=Q) (next:=wpAny C.P .any full Q fuel (listed.setIfInBounds i true)) hC uT hr hk fun bZ F' H' w1 a' wi h1 h2 h3=>by
     refine ih (listed.setIfInBounds i true) (pre++post) bZ F' H' w1 a' wi (by simp [hsz]) ?_ ?_ ?_ ?_ h1 h2 h3
     ·exact List.pairwise_append.2 ⟨fQ.1,(List.pairwise_cons.1 fQ.2.1).2,fun x hx y hy=>fQ.2.2 x hx y (by simp [hy])⟩
     ·intro x
      by_cases hx:x=i
      ·subst hx
       constructor
       ·intro hm
        rcases List.mem_append.1 hm with e | e
        ·exact absurd (hlt _ e) ab
        ·exact absurd (Pp _ e) ab
       ·rintro ⟨_,e⟩
        simp [Array.getD_eq_getD_getElem?,Array.getElem?_setIfInBounds,hsz,mP] at e
      ·have e1:(listed.setIfInBounds i true).getD x true=listed.getD x true:=by
        rw [Array.getD_eq_getD_getElem?,Array.getElem?_setIfInBounds,if_neg (fun e=>hx e.symm),<-Array.getD_eq_getD_getElem?]
       rw [e1,<-tu x]
       simp [hx]
     ·have:(pre++i::post).length=(pre++post).length + 1:=by simp;omega
      omega
     ·intro j hj hl d hd
      have jR:listed.getD d false=true->(listed.setIfInBounds i true).getD d false=true:=fun e=>by
       by_cases hx:d=i
       ·subst hx
        simp [Array.getD_eq_getD_getElem?,Array.getElem?_setIfInBounds,hsz,mP]
       ·rw [Array.getD_eq_getD_getElem?,Array.getElem?_setIfInBounds,if_neg (fun e=>hx e.symm),<-Array.getD_eq_getD_getElem?];exact e
      by_cases hx:j=i
      ·subst hx;exact jR (Gu d hd)
      ·refine jR (rh j hj ?_ d hd)
       rwa [Array.getD_eq_getD_getElem?,Array.getElem?_setIfInBounds,if_neg (fun e=>hx e.symm),<-Array.getD_eq_getD_getElem?] at hl
    unfold wpOp
    rw [ho]
    simp only
    split
    ·rename_i hw;rw [if_pos hw] at this;exact .inl this
    ·rename_i hw;rw [if_neg hw] at this;exact this
theorem one_imp {k':Fr->Hp->World->Prop} (h:one C (some ml) full o k F H w) (hk:∀ F' H' w',k F' H' w'->k' F' H' w'):one C (some ml) full o k' F H w:=by
 unfold one at h ⊢
 split
 ·rename_i e;rw [e] at h;exact hk _ _ _ h
 ·rename_i e;rw [e] at h
  obtain ⟨cs,h1,h2,h3⟩:=h
  exact ⟨cs,h1,h2,hk _ _ _ h3⟩
 ·rename_i e;rw [e] at h
  obtain ⟨vs,h1,h2,h3⟩:=h
  exact ⟨vs,h1,h2,hk _ _ _ h3⟩
 ·rename_i e;rw [e] at h;exact ⟨h.1,hk _ _ _ h.2⟩
 ·rename_i e;rw [e] at h
  intro w1 β h1 h2 h3
  refine (h w1 β h1 h2 h3).mono ?_
  rintro e w2 ⟨bZ,r,del,ups,he,Hd,CE,wS,hch,hv⟩
  exact ⟨bZ,r,del,ups,he,Hd,CE,wS,hch,fun a b c ρ fJ=>hk _ _ _ (hv a b c ρ fJ)⟩
 ·rename_i e;rw [e] at h;exact h
theorem oc.chunk {B S J:List Nat} {K:Fr->Hp->World->Prop} {l2:List Nat}:∀ (l1:List Nat) {F:Fr} {H:Hp} {w:World},(l1.all fun j=>(!B.contains j && !S.contains j) && (full[j]?).isSome)=true->aC C (some ml) full (l1.filterMap (full[·]?)) (oc C ml full B S J l2 K) F H w->oc C ml full B S J (l1++l2) K F H w
 | [],F,H,w,_,h=>h
 | j::r,F,H,w,h0,h=>by
   rw [List.all_cons,Bool.and_eq_true,Bool.and_eq_true,Bool.and_eq_true,Bool.not_eq_true',Bool.not_eq_true'] at h0
   cases ho:full[j]? with
   | none=>rw [ho] at h0;exact absurd h0.1.2 cw
   | some o=>
     rw [List.filterMap_cons_some ho] at h
     exact (mG (r:=r++l2) ho).2 ⟨⟨fun e=>(by rw [h0.1.1.1] at e;cases e),fun e=>(by rw [h0.1.1.2] at e;cases e)⟩,one_imp h fun F' H' w' hv=>oc.chunk r h0.2 hv⟩
theorem oc.one {B S J:List Nat} {K:Fr->Hp->World->Prop} {j:Nat} {r:List Nat} (ho:full[j]? =some o) (hs:sV C ml B S J j o F) (h:aC C (some ml) full [o] (oc C ml full B S J r K) F H w):oc C ml full B S J (j::r) K F H w:=(mG ho).2 ⟨hs,h⟩
theorem VS.drawL {k:List It} (hC:C.Ok) (hm:C.P.follows .mixedOrders=true) {id:Nat} {ops:Array Oper} (ml:List FuncId) (B S J:List Nat) (mV:Lt C.SU ml ops B S=true) (h:oc C ml ops B S J (List.range ops.size) (VS C Q k) F H w):VS C Q (.code (.region id ops true)::k) F H w:=fun β a w' hr hk=>by
 refine wp_region_any hm ?_
 refine Lu (K:=VS C Q k) hC mV (fun β F H w a w' h hr hk=>h β a w' hr hk) ops.size (Array.replicate ops.size false) (List.range ops.size) β F H w a w'.drew cw List.pairwise_lt_range ?_ cw ?_ h hr.drew hk.drew
 ·intro x
  rw [List.mem_range]
  constructor
  ·intro hx
   refine ⟨hx,?_⟩
   simp [Array.getD_eq_getD_getElem?,Array.getElem?_replicate,hx]
  ·exact fun h=>h.1
 ·intro j hj hl
  simp [Array.getD_eq_getD_getElem?,Array.getElem?_replicate,hj] at hl
end
theorem away_of {su:TypeId->Bool} {ml:List FuncId} {J:List Nat} {F:Fr} {o:Oper} (h:(o.op.operands.toList.all fun x=>match ev F x with | some v=>v.ids.isEmpty | none=>true)=true) (hd:(match o.dst with | some d=> !J.contains d | none=>true)=true):yw su ml J F o:=by
 refine ⟨fun x hx v hv=> ?_,fun d Sb=> ?_⟩
 ·have:=List.all_eq_true.1 h x hx
  rw [hv] at this
  have he:v.ids=[]:=List.isEmpty_iff.1 this
  exact ⟨fun i hi=>by (rw [he] at hi;cases hi),fun _=>he⟩
 ·rw [Sb] at hd
  intro hm
  dsimp only at hd
  rw [show J.contains d=true from List.elem_eq_true_of_mem hm] at hd
  cases hd
theorem Tl {su:TypeId->Bool} {ml:List FuncId} {J:List Nat} {F:Fr} {o:Oper} (h:(o.op.operands.toList.all fun x=>match ev F x with | some v=>v.ids.all fun i=> !J.contains i | none=>true)=true) (h4:Nat.beq (aw su ml o) 4=false) (hd:(match o.dst with | some d=> !J.contains d | none=>true)=true):yw su ml J F o:=by
 refine ⟨fun x hx v hv=> ?_,fun d Sb=> ?_⟩
 ·have:=List.all_eq_true.1 h x hx
  rw [hv] at this
  refine ⟨fun i hi hm=> ?_,fun e=>by (rw [e] at h4;cases h4)⟩
  have h2:=List.all_eq_true.1 this i hi
  rw [show J.contains i=true from List.elem_eq_true_of_mem hm] at h2
  cases h2
 ·rw [Sb] at hd
  intro hm
  dsimp only at hd
  rw [show J.contains d=true from List.elem_eq_true_of_mem hm] at hd
  cases hd
section
variable {C:Cx} {ml:List FuncId} {full:Array Oper} {B S J:List Nat} {K:Fr->Hp->World->Prop} {F:Fr} {H:Hp} {w:World} {j:Nat} {r:List Nat} {o:Oper}
theorem oc.b (ho:full[j]? =some o) (h1:(o.op.operands.toList.all fun x=>match ev F x with | some v=>v.ids.isEmpty | none=>true)=true) (h2:(match o.dst with | some d=> !J.contains d | none=>true)=true) (h3:S.contains j=false) (h:aC C (some ml) full [o] (oc C ml full B S J r K) F H w):oc C ml full B S J (j::r) K F H w:=
 oc.one ho ⟨fun _=>away_of h1 h2,fun e=>by (rw [h3] at e;cases e)⟩ h
theorem oc.l (ho:full[j]? =some o) (h1:(o.op.operands.toList.all fun x=>match ev F x with | some v=>v.ids.all fun i=> !J.contains i | none=>true)=true) (h4:Nat.beq (aw C.SU ml o) 4=false) (h2:(match o.dst with | some d=> !J.contains d | none=>true)=true) (h3:S.contains j=false) (h:aC C (some ml) full [o] (oc C ml full B S J r K) F H w):oc C ml full B S J (j::r) K F H w:=
 oc.one ho ⟨fun _=>Tl h1 h4 h2,fun e=>by (rw [h3] at e;cases e)⟩ h
theorem oc.s (ho:full[j]? =some o) (h1:Toward J F o) (h3:B.contains j=false) (h:aC C (some ml) full [o] (oc C ml full B S J r K) F H w):oc C ml full B S J (j::r) K F H w:=
 oc.one ho ⟨fun e=>by (rw [h3] at e;cases e),fun _=>h1⟩ h
end
def oN (o:Oper):Bool:=match o.op with | .defer _=>false | _=>true
def jN (F:Fence):Prop:=F=Fence.wide\/∃ l,F=Fence.wide.inRound l
theorem jN.wide:jN Fence.wide:=.inl rfl
section
variable {Fe:Fence} {n:Nat} {P:Program} {o:Oper} {a:Act} {w:World} {K:Act->World->Prop} {Q:Exit->Act->World->Prop}
theorem jN.fn (h:jN Fe) (f:FuncId):Fe.fn f:=by rcases h with rfl | ⟨l,rfl⟩ <;> trivial
theorem jN.depth (h:jN Fe):Fe.depth=none:=by rcases h with rfl | ⟨l,rfl⟩ <;> rfl
theorem jN.calls (h:jN Fe) {f:FuncId} {args:Array Value} {R:Ending->World->Prop} (hc:Calls P f args w R):CallsIn Fe n P f args w R:=by
 have:=(callsIn_wide (n:=n)).2 hc
 rcases h with rfl | ⟨l,rfl⟩
 ·exact this
 ·exact this
theorem jN.rows (h:jN Fe) {r:String} {args:Array Value} {R:Value->World->Prop} (hc:Rows P r args w R):RowsIn Fe n P r args w R:=by
 have:RowsIn Fence.wide n P r args w R:=fun c cs _=>let ⟨v,w',r,s⟩:=hc c cs;⟨v,w',r,stepsIn_wide.2 s⟩
 rcases h with rfl | ⟨l,rfl⟩
 ·exact this
 ·exact this
theorem jN.upon (h:jN Fe) {r:Result Next} (hu:o.upon P a K Q r):o.uponIn Fe n P a K Q r:=by
 have hd:Fe.depth.isSome=true->1≤n:=fun e=>by rw [h.depth] at e;cases e
 cases r with
 | ok x w'=>
   cases x with
   | value v=>exact hu
   | skip=>exact hu
   | defer d=>exact hu
   | enter f args=>exact ⟨hd,h.calls hu⟩
   | row r args=>exact ⟨hd,h.rows hu⟩
   | round l f tmps assign body=>exact hu.elim
   | _=>exact hu.elim
 | halt x w'=>
   cases x with
   | panic v=>exact hu
   | _=>exact hu.elim
theorem jN.sem (h:jN Fe) (hd:oN o=true):o.semAt Fe.round a.eval=execOp a.eval o:=by
 rcases h with rfl | ⟨l,rfl⟩
 ·rfl
 ·exact Oper.semAt_some l _ _ fun c e=>by unfold oN at hd;rw [e] at hd;cases hd
theorem jN.op (h:jN Fe) (hd:oN o=true) (hw:o.wp P a w K Q):o.wpIn Fe n P a w K Q:=by
 refine ⟨fun f _=>h.fn f,?_⟩
 rw [h.sem hd]
 exact h.upon hw
end
section
variable {Fe:Fence} {n:Nat} {C:Cx} {Q:Exit->Act->World->Prop} {ml:List FuncId} {full:Array Oper}
theorem xY (hB:jN Fe) (hC:C.Ok) {m:Option (List FuncId)} {K:Fr->Hp->World->Prop} {tl:List Oper} (hQ:∀ β F H w a w',K F H w->Rel C β F H a w'->bH C.K w w'->wpListIn Fe n C.P full Q tl a w'):
  ∀ (l:List Oper),l.all oN=true->∀ (β:Nat->Nat) (F:Fr) (H:Hp) (w:World) (a:Act) (w':World),aC C m full l K F H w->Rel C β F H a w'->bH C.K w w'->wpListIn Fe n C.P full Q (l++tl) a w'
 | [],_,β,F,H,w,a,w',h,hr,hk=>hQ β F H w a w' h hr hk
 | o::r,hd,β,F,H,w,a,w',h,hr,hk=>by
   rw [List.all_cons,Bool.and_eq_true] at hd
   show wpListIn Fe n C.P full Q (o::(r++tl)) a w'
   refine wpListIn_step fun K' hK'=> ?_
   have:=oD hC (next:=K') (Q:=Q) (k:=aC C m full r K) h hr hk fun bZ F' H' w1 a' wi h1 h2 h3=>hK' _ _ (xY hB hC hQ r hd.2 bZ F' H' w1 a' wi h1 h2 h3)
   split at this
   ·rename_i hw;rw [if_pos hw];exact hB.op hd.1 this
   ·rename_i hw;rw [if_neg hw];exact ⟨fun f _=>hB.fn f,this⟩
end
section
variable {Fe:Fence} {C:Cx} {Q:Exit->Act->World->Prop} {k:List It} {F F':Fr} {H H':Hp} {w:World} {id:Nat} {ops:Array Oper} {l':List Oper}
end
def Fr.vals (L:List (Nat×Value)):Fr:=Fr.of (L.map fun p=>(p.1,.val p.2))
def Jk (F:Fr):List (Nat×Value)->Prop
 | []=>True
 | p::r=>F p.1=some (.val p.2)/\Jk F r
theorem Jk.mem {F:Fr}:∀ {L:List (Nat×Value)} {p:Nat×Value},Jk F L->p∈L->F p.1=some (.val p.2)
 | q::r,p,h,hm=>by
   rcases List.mem_cons.1 hm with rfl | hm
   ·exact h.1
   ·exact Jk.mem h.2 hm
theorem BM {L:List (Nat×Value)} {d:Nat} {v:AV} (h:Fr.vals L d=some v):∃ u,v=.val u/\(d,u)∈L:=by
 have:=Fr.gR h
 obtain ⟨p,hp,e⟩:=List.mem_map.1 this
 cases e
 exact ⟨p.2,rfl,hp⟩
structure Knows (N:Nat) (L:List (Nat×Value)) (a:Act):Prop where
 defers:a.defers=[]
 size:a.tmps.size=N
 tmp:∀ p∈L,p.1 < N/\a.tmps.getD p.1 undef=p.2
theorem Knows.rel {C:Cx} {L:List (Nat×Value)} {a:Act} {w:World} (h:Knows C.N L a) (ho:C.Old w):Rel C (fun _=>0) (Fr.vals L) (fun _=>none) a w:=
 ⟨h.defers,h.size,fun d v hd=>by obtain ⟨u,rfl,hm⟩:=BM hd;exact (h.tmp _ hm).2,fun i t cs hi=>(by cases hi),fun i j hi=>absurd rfl hi,fun d v hd i hi=>(by obtain ⟨u,rfl,hm⟩:=BM hd;cases hi),fun d v hd=>(by obtain ⟨u,rfl,hm⟩:=BM hd;exact (h.tmp _ hm).1),⟨fun i t cs hi=>(by cases hi),fun i t cs hi=>(by cases hi),fun i hi=>rfl⟩,ho⟩
theorem Rel.knows {C:Cx} {β:Nat->Nat} {F:Fr} {H:Hp} {a:Act} {w:World} {L:List (Nat×Value)} (hr:Rel C β F H a w) (hL:Jk F L):Knows C.N L a:=
 ⟨hr.defers,hr.size,fun p hp=>⟨hr.fits _ _ (hL.mem hp),hr.tmp _ _ (hL.mem hp)⟩⟩
def Tm (N:Nat) (J:Nat->List (Nat×Value)->World->Prop) (n:Nat) (a:Act) (w:World):Prop:=∃ L,J n L w/\Knows N L a
section
variable {C:Cx} {Q:Exit->Act->World->Prop} {k:List It} {F:Fr} {H:Hp} {w:World} {J:Nat->List (Nat×Value)->World->Prop}
theorem VS.loopR (D:World->Cx) (hP:∀ w,(D w).P=C.P) (hN:∀ w,(D w).N=C.N) (hO:∀ w,(D w).Old w) (n0:Nat) {body:Code} (h0:∀ w',bH C.K w w'->C.Old w'->∃ L,Jk F L/\J n0 L w')
  (round:∀ n L W,J n L W->VS (D W) Q (.code body::.back (fun a w=>∃ m,m < n/\Tm C.N J m a w)::k) (Fr.vals L) (fun _=>none) W):VS C Q (.code (.loop body)::k) F H w:=fun β a w' hr hk=>by
 obtain ⟨L,h1,h2⟩:=h0 w' hk hr.old
 refine wp_loop_ghost (Tm C.N J) n0 ⟨L,h2,hr.knows h1⟩ ?_
 rintro n a1 w1 ⟨L1,hJ,qO⟩
 have hkn':Knows (D w1).N L1 a1:=by rw [hN];exact qO
 have:=round n L1 w1 hJ _ a1 w1 (hkn'.rel (hO w1)) (bH.refl _ _)
 rw [hP] at this
 exact this
theorem VS.backR {n N:Nat} (hN:C.N=N) (m:Nat) (hm:m < n) (L:List (Nat×Value)) (hL:Jk F L) (h:∀ w',bH C.K w w'->C.Old w'->J m L w'):VS C Q (.back (fun a w=>∃ m,m < n/\Tm N J m a w)::k) F H w:=fun β a w' hr hk=>by
 subst hN
 exact ⟨m,hm,L,h w' hk hr.old,hr.knows hL⟩
theorem VS.mX (hC:C.Ok) {fn:Func} {R:Ending->World->Prop} {vs:List AV} (h:rn C F H fn.results.toList=some vs) (hR:∀ w' β,bH C.K w w'->C.Old w'->Ends C β H w'->R (.returned (jc (vs.map (AV.bl β)))) w'):VS C (bodyPost C.P fn R) [] F H w:=
 fun β a w' hr hk=>⟨hr.defers,_,xN hC hr h,hR w' β hk hr.old ⟨hr.own,hr.apart⟩⟩
end
section
variable {C:Cx} {F:Fr} {H:Hp} {w:World} {Q:Exit->Act->World->Prop} {k:List It}
end
theorem tw.bo {w w1 W:World} {ad:List Nat} (h:aL w w1) (k:tw ad w1 W) (hg:∀ g∈ad,w.heap.size≤g):aL w W:=
 Below.trans h ⟨k.os,k.tape,k.output,k.size,fun g OM=>k.qq g (Nat.lt_of_lt_of_le OM h.size) fun hm=>by have:=hg g hm;omega⟩
abbrev Vq:=Nat×Rat
abbrev Uq:=Nat×Nat×Rat
def ae (a b:Rat):Rat:=if b < a then b else a
theorem eM (a b:Rat):eB iL a [b]=ae a b:=by
 show (if iL b a=true then b else a)=_
 unfold ae
 by_cases h:b < a
 ·rw [if_pos (Eg.2 h),if_pos h]
 ·rw [if_neg (fun e=>h (Eg.1 e)),if_neg h]
theorem dv (a b:Rat):ae a b≤a:=by unfold ae;split <;> grind
theorem cJ (a b:Rat):ae a b≤b:=by unfold ae;split <;> grind
theorem ct (a b:Rat):(ae a b=a/\a≤b)\/(ae a b=b/\b < a):=by unfold ae;split <;> grind
structure aM where
 aW:Rat
 allowed:Rat
 aE:Rat
 used:Rat
 au:Rat
 ao:Rat
 closing:Rat
deriving DecidableEq
def qH (y:Nat):List Vq->Rat->List Uq
 | [],_=>[]
 | p::q,m=>if 0 < m then (p.1,y,ae p.2 m)::(if p.2 - ae p.2 m=0 then qH y q (m - ae p.2 m) else []) else []
def ny:List Vq->Rat->List Vq
 | [],_=>[]
 | p::q,m=>if 0 < m then (if p.2 - ae p.2 m=0 then ny q (m - ae p.2 m) else (p.1,p.2 - ae p.2 m)::q) else p::q
def uh:List Vq->Rat->Rat
 | [],_=>0
 | p::q,m=>if 0 < m then ae p.2 m + (if p.2 - ae p.2 m=0 then uh q (m - ae p.2 m) else 0) else 0
theorem iM (y:Nat) (q:List Vq) {m:Rat} (h:¬ 0 < m):qH y q m=[]:=by cases q with | nil=>rfl | cons p q=>unfold qH;rw [if_neg h]
theorem gU (q:List Vq) {m:Rat} (h:¬ 0 < m):ny q m=q:=by cases q with | nil=>rfl | cons p q=>unfold ny;rw [if_neg h]
theorem iP (q:List Vq) {m:Rat} (h:¬ 0 < m):uh q m=0:=by cases q with | nil=>rfl | cons p q=>unfold uh;rw [if_neg h]
theorem dp {P:Prop} (h:P:=by grind):P:=h
theorem gV {y:Nat} {p:Vq} {q:List Vq} {m:Rat} (hm:0 < m) (h:p.2 - ae p.2 m≠0):¬ 0 < m - ae p.2 m/\qH y (p::q) m=[(p.1,y,ae p.2 m)]/\ny (p::q) m=(p.1,p.2 - ae p.2 m)::q/\uh (p::q) m=ae p.2 m:=by
 refine ⟨?_,?_,?_,?_⟩
 ·rcases ct p.2 m with ⟨e,_⟩ | ⟨e,_⟩
  ·rw [e] at h;exact absurd dp h
  ·rw [e];grind
 ·unfold qH;rw [if_pos hm,if_neg h]
 ·unfold ny;rw [if_pos hm,if_neg h]
 ·unfold uh;rw [if_pos hm,if_neg h];grind
theorem gW {y:Nat} {p:Vq} {q:List Vq} {m:Rat} (hm:0 < m) (h:p.2 - ae p.2 m=0):qH y (p::q) m=(p.1,y,ae p.2 m)::qH y q (m - ae p.2 m)/\ny (p::q) m=ny q (m - ae p.2 m)/\uh (p::q) m=ae p.2 m + uh q (m - ae p.2 m):=by
 refine ⟨?_,?_,?_⟩
 ·conv=>lhs;unfold qH
  rw [if_pos hm,if_pos h]
 ·conv=>lhs;unfold ny
  rw [if_pos hm,if_pos h]
 ·conv=>lhs;unfold uh
  rw [if_pos hm,if_pos h]
structure Ke where
 q:List Vq
 rows:List aM
 uses:List Uq
def ay (S F e:Rat):Rat:=eB gK F [S * e,0]
def eG (S F:Rat) (q:List Vq) (y:Rat×Rat):aM:=
 ⟨ay S F y.2,ae y.1 (ay S F y.2),y.1 - ae y.1 (ay S F y.2),uh q (ay S F y.2 - ae y.1 (ay S F y.2)),ae y.1 (ay S F y.2) + uh q (ay S F y.2 - ae y.1 (ay S F y.2)),0,0⟩
def mY (lj:Nat) (d:Rat) (q:List Vq):List Vq:=if 0 < d then q++[(lj,d)] else q
def vA (keep lj:Nat) (s:Ke):Ke:=match s.q with
 | p::q=>if p.1 + keep=lj then ⟨q,s.rows.modify p.1 (fun r=>{ r with ao:=p.2 }),s.uses⟩ else s
 | []=>s
def eC (S F:Rat) (keep lj:Nat) (s:Ke) (y:Rat×Rat):Ke:=
 vA keep lj ⟨mY lj (eG S F s.q y).aE (ny s.q (ay S F y.2 - ae y.1 (ay S F y.2))),s.rows++[eG S F s.q y],s.uses++qH lj s.q (ay S F y.2 - ae y.1 (ay S F y.2))⟩
def jw (S F:Rat) (keep:Nat) (l:List (Rat×Rat)):Ke:=l.foldl (fun s y=>eC S F keep s.rows.length s y) ⟨[],[],[]⟩
def dL:List Vq->List aM->List aM
 | [],r=>r
 | p::q,r=>dL q (r.modify p.1 (fun x=>{ x with closing:=p.2 }))
def qw (S F:Rat) (keep:Nat) (l:List (Rat×Rat)):List aM×List Uq:=(dL (jw S F keep l).q (jw S F keep l).rows,(jw S F keep l).uses)
def rF (y:Nat):List Vq->Rat->List Uq
 | [],_=>[]
 | p::t,m=>(if 0 < ae p.2 m then [(p.1,y,ae p.2 m)] else [])++rF y t (m - ae p.2 m)
def qI:List Vq->Rat->List Vq
 | [],_=>[]
 | p::t,m=>(p.1,p.2 - ae p.2 m)::qI t (m - ae p.2 m)
def xg:List Vq->Rat->Rat
 | [],_=>0
 | p::t,m=>ae p.2 m + xg t (m - ae p.2 m)
theorem rG (y:Nat) (p:Vq) (t:List Vq) (m:Rat):rF y (p::t) m=(if 0 < ae p.2 m then [(p.1,y,ae p.2 m)] else [])++rF y t (m - ae p.2 m):=rfl
theorem rH (p:Vq) (t:List Vq) (m:Rat):qI (p::t) m=(p.1,p.2 - ae p.2 m)::qI t (m - ae p.2 m):=rfl
theorem oO (p:Vq) (t:List Vq) (m:Rat):xg (p::t) m=ae p.2 m + xg t (m - ae p.2 m):=rfl
def pos (p:Vq):Bool:=decide (0 < p.2)
theorem Ad (y:Nat):∀ {t:List Vq},(∀ p∈t,0≤p.2)->rF y t 0=[]/\qI t 0=t/\xg t 0=0
 | [],_=>⟨rfl,rfl,rfl⟩
 | p::t,h=>by
   have hp:=h p cw
   have e:ae p.2 0=0:=by unfold ae;split <;> grind
   obtain ⟨h1,h2,h3⟩:=Ad y (t:=t) fun x hx=>h x (by simp [hx])
   rw [rG,rH,oO,e,show (0:Rat) - 0=0 by grind,h1,h2,h3,show p.2 - 0=p.2 by grind]
   refine ⟨by simp,rfl,by grind⟩
theorem BN (y:Nat):∀ {t:List Vq} {m:Rat},(∀ p∈t,0≤p.2)->0≤m->qH y (t.filter pos) m=rF y t m/\ny (t.filter pos) m=(qI t m).filter pos/\uh (t.filter pos) m=xg t m
 | [],_,_,_=>⟨rfl,rfl,rfl⟩
 | p::t,m,h,hm=>by
   have hp:=h p cw
   have ht:∀ x∈t,0≤x.2:=fun x hx=>h x (by simp [hx])
   by_cases h0:0 < p.2
   ·rw [List.filter_cons_of_pos (by simpa [pos] using h0)]
    by_cases CP:0 < m
    ·have hn:0 < ae p.2 m:=by rcases ct p.2 m with ⟨e,_⟩ | ⟨e,_⟩ <;> rw [e] <;> assumption
     by_cases hd:p.2 - ae p.2 m=0
     ·obtain ⟨i1,i2,i3⟩:=BN y (t:=t) (m:=m - ae p.2 m) ht (by have:=cJ p.2 m;grind)
      obtain ⟨r1,r2,r3⟩:=gW (y:=y) (p:=p) (q:=t.filter pos) CP hd
      rw [r1,r2,r3,i1,i2,i3]
      rw [rG,rH,oO,if_pos hn,List.filter_cons_of_neg (by show ¬ decide (0 < p.2 - ae p.2 m)=true;rw [hd];simp)]
      exact ⟨rfl,rfl,rfl⟩
     ·obtain ⟨r0,r1,r2,r3⟩:=gV (y:=y) (p:=p) (q:=t.filter pos) CP hd
      have hz:m - ae p.2 m=0:=by
       rcases ct p.2 m with ⟨e,_⟩ | ⟨e,_⟩
       ·rw [e] at hd;exact absurd dp hd
       ·rw [e];grind
      have Pp:0 < p.2 - ae p.2 m:=by have:=dv p.2 m;grind
      obtain ⟨z1,z2,z3⟩:=Ad y ht
      rw [r1,r2,r3]
      rw [rG,rH,oO,hz,z1,z2,z3,if_pos hn,List.filter_cons_of_pos (by simpa [pos] using Pp)]
      exact ⟨rfl,rfl,by grind⟩
    ·have hz:m=0:=by grind
     subst hz
     rw [iM y _ CP,gU _ CP,iP _ CP]
     obtain ⟨z1,z2,z3⟩:=Ad y h
     rw [z1,z2,z3,List.filter_cons_of_pos (by simpa [pos] using h0)]
     exact ⟨rfl,rfl,rfl⟩
   ·have hz:p.2=0:=by grind
    have e:ae p.2 m=0:=by rw [hz];unfold ae;split <;> grind
    obtain ⟨i1,i2,i3⟩:=BN y (t:=t) ht hm
    rw [List.filter_cons_of_neg (by simpa [pos] using h0),i1,i2,i3]
    rw [rG,rH,oO,e,show m - 0=m by grind,show p.2 - 0=p.2 by grind,if_neg dp,List.filter_cons_of_neg (by simpa [pos] using h0)]
    exact ⟨rfl,rfl,by grind⟩
theorem Fm:∀ (t:List Vq) (m:Rat),(qI t m).length=t.length
 | [],_=>rfl
 | p::t,m=>by unfold qI;rw [List.length_cons,List.length_cons,Fm t]
theorem Lv:∀ {t:List Vq} {m:Rat},∀ p∈qI t m,0≤p.2
 | [],_,p,h=>by cases h
 | x::t,m,p,h=>by
   unfold qI at h
   rcases List.mem_cons.1 h with rfl | h
   ·have:=dv x.2 m
    show 0≤x.2 - ae x.2 m
    grind
   ·exact Lv p h
def bI:Nat->List Rat->List Vq
 | _,[]=>[]
 | k,x::l=>(k,x)::bI (k + 1) l
theorem BO:∀ (k:Nat) (l:List Rat),(bI k l).length=l.length
 | _,[]=>rfl
 | k,x::l=>by show (bI (k + 1) l).length + 1=_;rw [BO];rfl
theorem jq:∀ (k:Nat) (l l':List Rat),bI k (l++l')=bI k l++bI (k + l.length) l'
 | k,[],l'=>rfl
 | k,x::l,l'=>by show (k,x)::bI (k + 1) (l++l')=_;rw [jq,show k + 1 + l.length=k + (x::l).length by rw [List.length_cons];omega];rfl
theorem se:∀ (k:Nat) (l:List Rat) (i:Nat),(bI k l)[i]? =(l[i]?).map fun x=>(k + i,x)
 | _,[],_=>rfl
 | k,x::l,0=>rfl
 | k,x::l,i + 1=>by show (bI (k + 1) l)[i]? =(l[i]?).map _;rw [se,show k + 1 + i=k + (i + 1) by omega]
theorem lg {k:Nat} {l:List Rat} {p:Vq} (h:p∈bI k l):k≤p.1/\p.1 < k + l.length/\p.2∈l:=by
 obtain ⟨i,hi⟩:=List.mem_iff_getElem?.1 h
 rw [se] at hi
 cases hx:l[i]? with
 | none=>rw [hx] at hi;cases hi
 | some x=>
   rw [hx] at hi
   cases hi
   have:=(List.getElem?_eq_some_iff.1 hx).1
   exact ⟨Nat.le_add_right _ _,by show k + i < _;omega,List.mem_of_getElem? hx⟩
theorem Nj:∀ (k:Nat) (l:List Rat) (m:Rat),qI (bI k l) m=bI k ((qI (bI k l) m).map (·.2))
 | _,[],_=>rfl
 | k,x::l,m=>by
   exact congrArg (List.cons (k,x - ae x m)) (Nj (k + 1) l (m - ae x m))
theorem nA {k:Nat} {l:List Rat} (h:∀ x∈l,x=0):(bI k l).filter pos=[]:=by
 rw [List.filter_eq_nil_iff]
 intro p hp
 have:=h _ (lg hp).2.2
 unfold pos
 rw [this];simp
structure CQ where
 left:List Rat
 rows:List aM
 uses:List Uq
def qx (keep lj:Nat) (s:CQ):CQ:=if keep≤lj then ⟨s.left.set (lj - keep) 0,s.rows.modify (lj - keep) (fun r=>{ r with ao:=s.left.getD (lj - keep) 0 }),s.uses⟩ else s
def xh (S F:Rat) (t:List Vq) (y:Rat×Rat):aM:=
 ⟨ay S F y.2,ae y.1 (ay S F y.2),y.1 - ae y.1 (ay S F y.2),xg t (ay S F y.2 - ae y.1 (ay S F y.2)),ae y.1 (ay S F y.2) + xg t (ay S F y.2 - ae y.1 (ay S F y.2)),0,0⟩
def mH (S F:Rat) (keep lj:Nat) (s:CQ) (y:Rat×Rat):CQ:=
 qx keep lj ⟨(s.left.take (lj - keep)++(qI (bI (lj - keep) (s.left.drop (lj - keep))) (ay S F y.2 - ae y.1 (ay S F y.2))).map (·.2))++[y.1 - ae y.1 (ay S F y.2)],
  s.rows++[xh S F (bI (lj - keep) (s.left.drop (lj - keep))) y],s.uses++rF lj (bI (lj - keep) (s.left.drop (lj - keep))) (ay S F y.2 - ae y.1 (ay S F y.2))⟩
def runT (S F:Rat) (keep:Nat) (l:List (Rat×Rat)):CQ:=l.foldl (fun s y=>mH S F keep s.rows.length s y) ⟨[],[],[]⟩
def Fo (S F:Rat) (keep:Nat) (l:List (Rat×Rat)):List aM×List Uq:=(dL (bI 0 (runT S F keep l).left) (runT S F keep l).rows,(runT S F keep l).uses)
structure Both (keep:Nat) (a:Ke) (b:CQ):Prop where
 len:b.left.length=b.rows.length
 rows:a.rows=b.rows
 uses:a.uses=b.uses
 queue:a.q=(bI 0 b.left).filter pos
 nn:∀ x∈b.left,0≤x
 old:∀ (v:Nat) (x:Rat),v + keep < b.rows.length->b.left[v]? =some x->x=0
 exp:∀ (i:Nat) (r:aM),b.rows.length≤i + keep->b.rows[i]? =some r->r.ao=0
 iU:∀ r∈b.rows,r.closing=0
theorem lQ (S F e:Rat):0≤ay S F e:=by
 show 0≤(if gK 0 (if gK (S * e) F=true then S * e else F)=true then 0 else (if gK (S * e) F=true then S * e else F))
 generalize (if gK (S * e) F=true then S * e else F)=o
 by_cases h:gK 0 o=true
 ·rw [if_pos h];exact Rat.le_refl
 ·rw [if_neg h]
  rw [PM] at h
  exact Rat.not_lt.1 h
theorem BP {l:List aM} {i j:Nat} {f:aM->aM} (h:i=j):(l.modify i f)[j]? =(l[j]?).map f:=by
 subst h;rw [List.getElem?_modify];simp
theorem vB {l:List aM} {i j:Nat} {f:aM->aM} (h:i≠j):(l.modify i f)[j]? =l[j]? :=by
 rw [List.getElem?_modify];simp [h]
theorem Jl {l:List aM} {i:Nat} {f:aM->aM} (h:∀ r,l[i]? =some r->f r=r):l.modify i f=l:=by
 apply List.ext_getElem?
 intro j
 rw [List.getElem?_modify]
 by_cases e:i=j
 ·subst e
  cases hr:l[i]? with
  | none=>rfl
  | some r=>simp [h r hr]
 ·simp [e]
theorem PV {S F:Rat} {keep:Nat} {a:Ke} {b:CQ} (h:Both keep a b) (y:Rat×Rat):Both keep (eC S F keep a.rows.length a y) (mH S F keep b.rows.length b y):=by
 obtain ⟨h1,h2,h3,h4,h5,h6,h7,h8⟩:=h
 obtain ⟨n,hn⟩:∃ n,n=b.rows.length:=⟨_,rfl⟩
 rw [h2,<-hn]
 unfold eC mH
 obtain ⟨lo,GK⟩:∃ lo,lo=n - keep:=⟨_,rfl⟩
 obtain ⟨L,hL⟩:∃ L,L=ay S F y.2:=⟨_,rfl⟩
 obtain ⟨m,hm⟩:∃ m,m=L - ae y.1 L:=⟨_,rfl⟩
 have CP:0≤m:=by have:=cJ y.1 L;grind
 obtain ⟨t,ht⟩:∃ t,t=bI lo (b.left.drop lo):=⟨_,rfl⟩
 have htn:∀ p∈t,0≤p.2:=fun p hp=>by rw [ht] at hp;exact h5 _ (List.mem_of_mem_drop (lg hp).2.2)
 have hz:∀ x∈b.left.take lo,x=0:=fun x hx=>by
  obtain ⟨v,hv⟩:=List.mem_iff_getElem?.1 hx
  rw [List.getElem?_take] at hv
  split at hv
  ·exact h6 v x ab hv
  ·cases hv
 have hq:a.q=t.filter pos:=by
  rw [h4,<-List.take_append_drop lo b.left,jq,List.filter_append,nA hz,List.nil_append,List.length_take,ht]
  rcases Nat.le_total lo b.left.length with e | e
  ·rw [Nat.min_eq_left e,Nat.zero_add]
  ·rw [List.drop_of_length_le e];rfl
 obtain ⟨i1,i2,i3⟩:=BN n htn CP
 obtain ⟨d,hd⟩:∃ d,d=y.1 - ae y.1 L:=⟨_,rfl⟩
 have Ms:0≤d:=by have:=dv y.1 L;grind
 have e1:eG S F a.q y=xh S F t y:=by unfold eG xh;rw [<-hL,<-hm,hq,i3]
 have e2:(xh S F t y).aE=d:=by show y.1 - ae y.1 (ay S F y.2)=d;rw [<-hL,hd]
 rw [e1,e2,<-GK,<-hL,<-hm,<-ht,<-hd,hq,i1,i2,h3,h2]
 obtain ⟨lf,hlf⟩:∃ lf,lf=(b.left.take lo++(qI t m).map (·.2))++[d]:=⟨_,rfl⟩
 have Tn:(b.left.take lo).length=lo:=by rw [List.length_take];omega
 have hlen:lf.length=n + 1:=by
  rw [hlf,List.length_append,List.length_append,Tn,List.length_map,Fm,ht,BO,List.length_drop,List.length_singleton];omega
 have hlq:mY n d ((qI t m).filter pos)=(bI 0 lf).filter pos:=by
  have:(bI 0 lf).filter pos=(qI t m).filter pos++(if 0 < d then [(n,d)] else []):=by
   rw [hlf,jq,List.filter_append,jq,List.filter_append,nA hz,List.nil_append,Tn,Nat.zero_add]
   rw [show bI lo ((qI t m).map (·.2))=qI t m by rw [ht];exact (Nj lo _ m).symm]
   congr 1
   have wS:0 + (b.left.take lo++(qI t m).map (·.2)).length=n:=by
    have:=hlen;rw [hlf,List.length_append,List.length_singleton] at this;omega
   rw [wS]
   show List.filter pos [(n,d)]=_
   by_cases e:0 < d
   ·rw [if_pos e];simp [pos,e]
   ·rw [if_neg e];simp [pos,e]
  rw [this]
  unfold mY
  split
  ·rfl
  ·rw [List.append_nil]
 have hnn:∀ x∈lf,0≤x:=fun x hx=>by
  rw [hlf] at hx
  rcases List.mem_append.1 hx with hx | hx
  ·rcases List.mem_append.1 hx with hx | hx
   ·rw [hz x hx];exact Rat.le_refl
   ·obtain ⟨p,hp,rfl⟩:=List.mem_map.1 hx
    exact Lv p hp
  ·rw [List.mem_singleton.1 hx];exact Ms
 have hold:∀ (v:Nat) (x:Rat),v + keep < n->lf[v]? =some x->x=0:=fun v x hv hx=>by
  rw [hlf,List.append_assoc,List.getElem?_append_left (by rw [Tn];omega)] at hx
  exact hz x (List.mem_of_getElem? hx)
 obtain ⟨Tp,hrw⟩:∃ Tp,Tp=b.rows++[xh S F t y]:=⟨_,rfl⟩
 have pj:Tp.length=n + 1:=by rw [hrw,List.length_append,<-hn];rfl
 have hre:∀ (i:Nat) (r:aM),n≤i + keep->Tp[i]? =some r->r.ao=0:=fun i r hi hr=>by
  rw [hrw] at hr
  by_cases e:i < b.rows.length
  ·rw [List.getElem?_append_left e] at hr
   exact h7 i r ab hr
  ·rw [List.getElem?_append_right ab] at hr
   have:=List.mem_of_getElem? hr
   rw [List.mem_singleton.1 this];rfl
 have hrc:∀ r∈Tp,r.closing=0:=fun r hr=>by
  rw [hrw] at hr
  rcases List.mem_append.1 hr with hr | hr
  ·exact h8 r hr
  ·rw [List.mem_singleton.1 hr];rfl
 rw [hlq,<-hrw,<-hlf]
 unfold qx
 by_cases hk:keep≤n
 ·rw [if_pos hk,<-GK]
  have hlt:lo < lf.length:=by omega
  obtain ⟨x,hx⟩:∃ x,lf[lo]? =some x:=⟨_,List.getElem?_eq_getElem hlt⟩
  have Rg:lf.getD lo 0=x:=by rw [List.getD_eq_getElem?_getD,hx];rfl
  have iA:=hnn x (List.mem_of_getElem? hx)
  have CO:lf=lf.take lo++x::lf.drop (lo + 1):=by
   have e:=(List.getElem?_eq_some_iff.1 hx).2
   rw [<-e,<-List.drop_eq_getElem_cons hlt,List.take_append_drop]
  have hzt:∀ z∈lf.take lo,z=0:=fun z JZ=>by
   obtain ⟨v,hv⟩:=List.mem_iff_getElem?.1 JZ
   rw [List.getElem?_take] at hv
   split at hv
   ·exact hold v z ab hv
   ·cases hv
  have QX:(lf.take lo).length=lo:=by rw [List.length_take];omega
  have hset:lf.set lo 0=lf.take lo++0::lf.drop (lo + 1):=by rw [List.set_eq_take_append_cons_drop,if_pos hlt]
  have hf:(bI 0 lf).filter pos=(if 0 < x then [(lo,x)] else [])++(bI (lo + 1) (lf.drop (lo + 1))).filter pos:=by
   conv=>lhs;rw [CO]
   rw [jq,List.filter_append,nA hzt,List.nil_append,QX,Nat.zero_add]
   show List.filter pos ((lo,x)::bI (lo + 1) _)=_
   by_cases e:0 < x
   ·rw [if_pos e,List.filter_cons_of_pos (by simpa [pos] using e)];rfl
   ·rw [if_neg e,List.filter_cons_of_neg (by simpa [pos] using e)];rfl
  have hfs:(bI 0 (lf.set lo 0)).filter pos=(bI (lo + 1) (lf.drop (lo + 1))).filter pos:=by
   rw [hset,jq,List.filter_append,nA hzt,List.nil_append,QX,Nat.zero_add]
   show List.filter pos ((lo,(0:Rat))::bI (lo + 1) _)=_
   rw [List.filter_cons_of_neg (by simp [pos])]
  have sM:(Tp.modify lo (fun r=>{ r with ao:=x })).length=n + 1:=by rw [List.length_modify,pj]
  have hres:vA keep n ⟨(bI 0 lf).filter pos,Tp,b.uses++rF n t m⟩=⟨(bI (lo + 1) (lf.drop (lo + 1))).filter pos,Tp.modify lo (fun r=>{ r with ao:=x }),b.uses++rF n t m⟩:=by
   rw [hf]
   by_cases e:0 < x
   ·rw [if_pos e]
    show (if lo + keep=n then _ else _)=_
    rw [if_pos ab];rfl
   ·have hx00:x=0:=by grind
    rw [if_neg e,List.nil_append,Jl (fun r hr=>by
     have:=hre lo r ab hr
     rw [hx00]
     cases r
     simp only at this
     subst this;rfl)]
    unfold vA
    dsimp only
    cases hc:(bI (lo + 1) (lf.drop (lo + 1))).filter pos with
    | nil=>rfl
    | cons p q=>
      have hp:p∈bI (lo + 1) (lf.drop (lo + 1)):=(List.mem_filter.1 (hc▸List.mem_cons_self)).1
      have:=(lg hp).1
      dsimp only
      rw [if_neg ab]
  rw [hres,Rg]
  refine ⟨by rw [List.length_set,hlen,sM],rfl,rfl,hfs.symm,fun z JZ=> ?_,fun v z hv JZ=> ?_,fun i r hi hr=> ?_,fun r hr=> ?_⟩
  ·rcases List.mem_or_eq_of_mem_set JZ with e | e
   ·exact hnn z e
   ·rw [e];exact Rat.le_refl
  ·rw [sM] at hv
   rw [List.getElem?_set] at JZ
   by_cases e:lo=v
   ·rw [if_pos e,if_pos hlt] at JZ;cases JZ;rfl
   ·rw [if_neg e] at JZ
    exact hold v z ab JZ
  ·rw [sM] at hi
   rw [vB ab] at hr
   exact hre i r ab hr
  ·obtain ⟨i,hi⟩:=List.mem_iff_getElem?.1 hr
   by_cases e:lo=i
   ·rw [BP e] at hi
    cases hq':Tp[i]? with
    | none=>rw [hq'] at hi;cases hi
    | some r'=>
      rw [hq'] at hi
      cases hi
      exact hrc r' (List.mem_of_getElem? hq')
   ·rw [vB e] at hi
    exact hrc r (List.mem_of_getElem? hi)
 ·rw [if_neg hk]
  have hres:vA keep n ⟨(bI 0 lf).filter pos,Tp,b.uses++rF n t m⟩=⟨(bI 0 lf).filter pos,Tp,b.uses++rF n t m⟩:=by
   unfold vA
   dsimp only
   cases (bI 0 lf).filter pos with
   | nil=>rfl
   | cons p q=>dsimp only;rw [if_neg ab]
  rw [hres]
  refine ⟨by rw [hlen,pj],rfl,rfl,rfl,hnn,fun v x hv hx=> ?_,fun i r hi hr=>hre i r ab hr,hrc⟩
  rw [pj] at hv;omega
theorem Tq (S F:Rat) (keep:Nat) (l:List (Rat×Rat)):Both keep (jw S F keep l) (runT S F keep l):=by
 unfold jw runT
 have h0:Both keep (⟨[],[],[]⟩:Ke) (⟨[],[],[]⟩:CQ):=⟨rfl,rfl,rfl,rfl,fun x hx=>(by cases hx),fun v x _ hx=>(by cases hx),fun i r _ hr=>(by cases hr),fun r hr=>(by cases hr)⟩
 generalize (⟨[],[],[]⟩:Ke)=a at h0 ⊢
 generalize (⟨[],[],[]⟩:CQ)=b at h0 ⊢
 induction l generalizing a b with
 | nil=>exact h0
 | cons y l ih=>exact ih _ _ (PV h0 y)
theorem sf:∀ (q:List Vq) (r:List aM),(q.map (·.1)).Nodup->∀ i,(dL q r)[i]? =match q.find? (fun p=>p.1 == i) with
  | some p=>(r[i]?).map (fun x=>{ x with closing:=p.2 })
  | none=>r[i]?
 | [],r,_,i=>rfl
 | p::q,r,hn,i=>by
   rw [List.map_cons,List.nodup_cons] at hn
   show (dL q (r.modify p.1 _))[i]? =_
   rw [sf q _ hn.2 i,List.find?_cons]
   by_cases e:p.1=i
   ·have Bj:q.find? (fun p=>p.1 == i)=none:=by
     rw [List.find?_eq_none]
     intro x hx e'
     exact hn.1 (List.mem_map.2 ⟨x,hx,by rw [e];simpa using e'⟩)
    rw [Bj,beq_iff_eq.2 e]
    dsimp only
    rw [BP e]
   ·rw [show (p.1 == i)=false by simpa using e]
    dsimp only
    rw [vB e]
theorem BQ (k:Nat) (l:List Rat):((bI k l).map (·.1)).Nodup:=by
 induction l generalizing k with
 | nil=>exact List.nodup_nil
 | cons x l ih=>
   show (k::(bI (k + 1) l).map (·.1)).Nodup
   rw [List.nodup_cons]
   refine ⟨fun h=> ?_,ih _⟩
   obtain ⟨p,hp,e⟩:=List.mem_map.1 h
   have:=(lg hp).1
   omega
theorem Fp (S F:Rat) (keep:Nat) (l:List (Rat×Rat)):qw S F keep l=Fo S F keep l:=by
 obtain ⟨h1,h2,h3,h4,h5,h6,h7,h8⟩:=Tq S F keep l
 unfold qw Fo
 rw [h3,h2,h4]
 congr 1
 apply List.ext_getElem?
 intro i
 have hn:=BQ 0 (runT S F keep l).left
 rw [sf _ _ hn,sf _ _ (hn.sublist (List.filter_sublist.map _))]
 cases hf:((bI 0 (runT S F keep l).left).filter pos).find? (fun p=>p.1 == i) with
 | some p=>
   have hm:=List.mem_of_find?_eq_some hf
   have hp:=List.find?_some hf
   have:(bI 0 (runT S F keep l).left).find? (fun p=>p.1 == i)=some p:=by
    cases hg:(bI 0 (runT S F keep l).left).find? (fun p=>p.1 == i) with
    | none=>exact absurd hp (List.find?_eq_none.1 hg p (List.mem_filter.1 hm).1)
    | some p'=>
      have Rm:=List.mem_of_find?_eq_some hg
      have hp':=List.find?_some hg
      obtain ⟨j,hj⟩:=List.mem_iff_getElem?.1 Rm
      obtain ⟨j',hj'⟩:=List.mem_iff_getElem?.1 (List.mem_filter.1 hm).1
      rw [se] at hj hj'
      have a1:p'.1=j:=by cases hq:(runT S F keep l).left[j]? <;> rw [hq] at hj <;> cases hj;simp
      have a2:p.1=j':=by cases hq:(runT S F keep l).left[j']? <;> rw [hq] at hj' <;> cases hj';simp
      have a3:j=j':=by have b1:=beq_iff_eq.1 hp;have b2:=beq_iff_eq.1 hp';omega
      rw [a3,hj'] at hj
      exact hj.symm
   rw [this]
 | none=>
   dsimp only
   cases hg:(bI 0 (runT S F keep l).left).find? (fun p=>p.1 == i) with
   | none=>rfl
   | some p=>
     dsimp only
     have hm:=List.mem_of_find?_eq_some hg
     have hp:=List.find?_some hg
     have hz:p.2=0:=by
      have h0:=h5 _ (lg hm).2.2
      by_cases e:0 < p.2
      ·exact absurd hp (List.find?_eq_none.1 hf p (List.mem_filter.2 ⟨hm,by simpa [pos] using e⟩))
      ·grind
     cases hr:(runT S F keep l).rows[i]? with
     | none=>rfl
     | some r=>
       have:=h8 r (List.mem_of_getElem? hr)
       cases r
       simp only at this
       subst this
       simp [hz]
end
set_option maxRecDepth 4000
section
open Go.RowKit
attribute [local irreducible] aC VS
def R4 (B:Nat) (w:World) (cs:List Value) (q:Rat):Prop:=∃ s p n c t r m d,cs=[.bool s,.slice p n c,.bool t,.slice r m d]/\aH w B (.agg #[.bool s,.slice p n c,.bool t,.slice r m d]) q
theorem R4.kp {B:Nat} {T:TypeId->Bool} {w w':World} {cs:List Value} {q:Rat} (h:R4 B w cs q) (k:bH ⟨UU,fun _=>True,T⟩ w w'):R4 B w' cs q:=by
 obtain ⟨s,p,n,c,t,r,m,d,h1,h2⟩:=h
 exact ⟨s,p,n,c,t,r,m,d,h1,h2.kp k⟩
def dz (B:Nat) (w:World) (cs:List Value) (e:Vq):Prop:=∃ s p n c t r m d,cs=[.int .i64 (e.1:Int),.bool s,.slice p n c,.bool t,.slice r m d]/\aH w B (.agg #[.bool s,.slice p n c,.bool t,.slice r m d]) e.2
theorem aO (B:Nat):gL (dz B) 5 where
 kp:=fun h k=>by
  obtain ⟨s,p,n,c,t,r,m,d,h1,h2⟩:=h
  exact ⟨s,p,n,c,t,r,m,d,h1,h2.kp k⟩
 len:=fun h=>by obtain ⟨s,p,n,c,t,r,m,d,rfl,_⟩:=h;rfl
 ok:=fun h=>by obtain ⟨s,p,n,c,t,r,m,d,rfl,_⟩:=h;rfl
def qy (B:Nat) (w:World) (cs:List Value) (e:Uq):Prop:=∃ s p n c t r m d,cs=[.int .i64 (e.1:Int),.int .i64 (e.2.1:Int),.bool s,.slice p n c,.bool t,.slice r m d]/\aH w B (.agg #[.bool s,.slice p n c,.bool t,.slice r m d]) e.2.2
theorem eh (B:Nat):gL (qy B) 6 where
 kp:=fun h k=>by
  obtain ⟨s,p,n,c,t,r,m,d,h1,h2⟩:=h
  exact ⟨s,p,n,c,t,r,m,d,h1,h2.kp k⟩
 len:=fun h=>by obtain ⟨s,p,n,c,t,r,m,d,rfl,_⟩:=h;rfl
 ok:=fun h=>by obtain ⟨s,p,n,c,t,r,m,d,rfl,_⟩:=h;rfl
structure dT {α:Type} (E:World->List Value->α->Prop) (sz:Nat) (w:World) (n off c:Nat) (pre:List Value) (vs:List (List Value)) (spare:List Value) (es:List α):Prop where
 len:n=es.length
 pl:pre.length=off\/c=0
 po:pre.all aV=true
 el:bL E w es vs
 so:spare.all aV=true
 le:n≤c
 cm:c≤9223372036854775807
 fl:(vs.flatten++spare).length=c * sz
abbrev Runner:TypeId:=89
abbrev dG:TypeId:=92
abbrev eT:TypeId:=41
abbrev fy:TypeId:=44
theorem Fq {a:AV} {r u:Value} (h:aG a=true) (hr:aV r=true) (hu:aV u=true):[a,.val r,.val u].all aG=true:=by
 rw [List.all_cons,List.all_cons,List.all_cons,h]
 show (true && (aV r && (aV u && true)))=true
 rw [hr,hu];rfl
theorem bN {w:World} {b:Nat} {t t':TypeId} {cs eW:Array Value} (h:bg w b t cs) (h':bg w b t' eW):t=t':=by
 have:=h.symm.trans h'
 simp only [Option.some.injEq,Obj.cells.injEq] at this
 exact this.2.1
theorem xZ (g c:Nat) (p:Option Addr) (r u:Value) (w:World) (hg:bg w g Runner #[.slice p 0 c,r,u]):
  Calls Tryz.prog 75 #[.pointer (some ⟨g,0,none⟩)] w fun o w'=>o=.returned (.pointer none)/\aL w w':=by
 refine ag (C:=bP Tryz.prog w _) (args:=[_]) Tryz.func75 rfl Tryz.ntmps75 (bu rfl) ?_
 refine aa ?_
 refine VO.read rfl [.slice p 0 c] rfl (fun j v hj=> ?_) (wV rfl ?_)
 ·match j,hj with
  | 0,hj=>cases hj;exact hg.cell rfl
  | j + 1,hj=>cases hj
 refine aa ?_
 refine aR ?_;intro wz kz bz
 exact ⟨rfl,bz⟩
theorem Jm (g b off n c:Nat) (r u:Value) (w:World) (hn:n≠0) (hg:bg w g Runner #[.slice (some ⟨b,off,none⟩) n c,r,u]):
  Calls Tryz.prog 75 #[.pointer (some ⟨g,0,none⟩)] w fun o w'=>o=.returned (.pointer (some ⟨b,off,none⟩))/\aL w w':=by
 have hcell:∀ (j:Nat) (v:Value),([.slice (some ⟨b,off,none⟩) n c]:List Value)[j]? =some v->w.cell? ((⟨g,0 + 0,none⟩:Addr).add j)=some v:=fun j v hj=>by
  match j,hj with
  | 0,hj=>cases hj;exact hg.cell rfl
  | j + 1,hj=>cases hj
 refine ag (C:=bP Tryz.prog w _) (args:=[_]) Tryz.func75 rfl Tryz.ntmps75 (bu rfl) ?_
 refine aa ?_
 refine VO.read rfl [.slice (some ⟨b,off,none⟩) n c] rfl hcell (wV rfl ?_)
 refine aa ?_
 refine VS.aQ rfl (by rw [beq_eq_false_iff_ne];omega) ?_
 refine aa ?_
 refine VO.read rfl [.slice (some ⟨b,off,none⟩) n c] rfl hcell (wV rfl ?_)
 refine aa ?_
 refine VO.cond rfl dw ?_
 refine wV rfl ?_
 refine aa ?_
 refine aR ?_;intro wz kz bz
 exact ⟨rfl,bz⟩
theorem sl_one {b off n c:Nat}:Value.slice (if c=((some (1:Int)).getD 0).toNat then some (⟨b,off,none⟩:Addr) else (some (⟨b,off,none⟩:Addr)).map (·.add (((some (1:Int)).getD 0).toNat * 5))) (((none:Option Int).getD (n:Int)).toNat - ((some (1:Int)).getD 0).toNat) (c - ((some (1:Int)).getD 0).toNat)=.slice (some ⟨b,if c=1 then off else off + 5,none⟩) (n - 1) (c - 1):=by
 by_cases h:c=1
 ·simp [h]
 ·simp [h,Addr.add_mid]
theorem af {P Q:Prop} (h:Q) (i:Q->P:=by intro h;(repeat first|refine wN ?_|refine wP rfl ?_|refine DU rfl ?_|refine cxA_d rfl ?_|refine wO rfl rfl ?_);exact h):P:=i h
theorem PW (g b off n c:Nat) (r u:Value) (w:World) (hg:bg w g Runner #[.slice (some ⟨b,off,none⟩) n c,r,u]) (hr:aV r=true) (hu:aV u=true) (hn:1≤n) (fE:n≤c) (fX:c≤9223372036854775807):
  Calls Tryz.prog 76 #[.pointer (some ⟨g,0,none⟩)] w fun o w'=>o=.returned (jc [])/\tw [g] w w'/\bg w' g Runner #[.slice (some ⟨b,if c=1 then off else off + 5,none⟩) (n - 1) (c - 1),r,u]:=by
 have sH:jX (KU UU) 10 [g] [(Runner,[.val (.slice (some ⟨b,off,none⟩) n c),.val r,.val u])] w:=by
  refine ⟨rfl,by simp,fun j g' c' hj hc=> ?_,fun c' hc=> ?_,fun c' hc k hk=> ?_⟩
  ·match j,hj,hc with
   | 0,hj,hc=>cases hj;cases hc;exact hg
   | j + 1,hj,_=>simp at hj
  ·cases List.mem_singleton.1 hc
   exact ⟨rfl,Fq rfl hr hu⟩
  ·cases List.mem_singleton.1 hc;cases hk
 refine fm Tryz.prog w _ (KU UU) (fun t=>Nat.beq t 22) table (fun _ _=>trivial) (ad:=[g]) (us:=[]) Tryz.func76 rfl Tryz.ntmps76 (bu rfl) sH (bu rfl) ?_
 refine af ?_
 refine VO.cond rfl ⟨show (0:Int)≤1 by decide,show (1:Int)≤(n:Int) by omega,show (n:Int)≤(c:Int) by omega,show (c:Int)≤9223372036854775807 by omega⟩ ?_
 refine VO.fix 7 rfl (congrArg AV.val (sl_one (b:=b) (off:=off) (n:=n) (c:=c))) ?_
 refine wV rfl ?_
 refine af ?_
 refine VS.mX (bF _ _) rfl (fun wz β kz oz en=> ?_)
 obtain ⟨o1,o2⟩:=fo (en.own 20 _ _ rfl) 0 g rfl rfl
 exact ⟨rfl,oz.1,o2⟩
def LeftA (w:World) (b:Nat):Prop:=∃ (t:TypeId) (cs:List Value),bg w b t cs.toArray/\(KU UU).fz t=false/\cs.all aV=true
theorem dT.all {α:Type} {E:World->List Value->α->Prop} {sz:Nat} {w:World} {n off c:Nat} {pre:List Value} {vs:List (List Value)} {spare:List Value} {es:List α} (hE:gL E sz) (h:dT E sz w n off c pre vs spare es):(pre++(vs.flatten++spare)).all aV=true:=by
 rw [List.all_append,List.all_append,h.po,(h.el.ok hE).1,h.so];rfl
theorem dT.kp {α:Type} {E:World->List Value->α->Prop} {sz:Nat} {w w':World} {n off c:Nat} {pre:List Value} {vs:List (List Value)} {spare:List Value} {es:List α} (hE:gL E sz) (h:dT E sz w n off c pre vs spare es) (k:Kp UU w w'):dT E sz w' n off c pre vs spare es:=
 ⟨h.len,h.pl,h.po,h.el.kp hE k,h.so,h.le,h.cm,h.fl⟩
theorem gp {d:Rat}:eg d 0 > 0↔0 < d:=by
 constructor
 ·intro h
  refine Rat.not_le.1 fun e=> ?_
  have:=lN.2 e;omega
 ·intro h
  have:¬ eg d 0≤0:=fun e=>absurd (lN.1 e) (Rat.not_le.2 h)
  omega
set_option maxRecDepth 4000 in
theorem Tr (B g b off n c lj:Nat) (pre:List Value) (vs:List (List Value)) (spare:List Value) (q:List Vq) (r u v:Value) (d:Rat) (kk:Nat) (w:World)
  (hg:bg w g Runner #[.slice (some ⟨b,off,none⟩) n c,r,u]) (hb:bg w b dG (pre++(vs.flatten++spare)).toArray) (hO:dT (dz B) 5 w n off c pre vs spare q) (hr:aV r=true) (hu:aV u=true) (hv:bE w v d) (hs:et d kk) (hk:kk≤100000) (hn:n≤1000) (hB:B≤w.heap.size):
  Calls Tryz.prog 74 #[.pointer (some ⟨g,0,none⟩),.int .i64 (lj:Int),v] w fun o w'=>o=.returned (jc [])/\tw [g,b] w w'/\LeftA w' b/\
   ∃ b' aX n' c' ck iT aj,(w.heap.size≤b'\/b'=b)/\bg w' g Runner #[.slice (some ⟨b',aX,none⟩) n' c',r,u]/\bg w' b' dG (ck++(iT.flatten++aj)).toArray/\dT (dz B) 5 w' n' aX c' ck iT aj (mY lj d q):=by
 have hgb:g≠b:=fun e=>by
  subst e
  exact absurd (bN hg hb) bW
 obtain ⟨Kk,jQ,PX,ko,DG,fE,fX,vZ⟩:=id hO
 obtain ⟨Fs,Ft⟩:=ko.ok (aO B)
 obtain ⟨s0,p0,n0,c0,t0,y0,m0,d0,rfl⟩:=hv.form
 have sH:jX (KU UU) 23 [g,b] [(Runner,[.row 47 off n c,.val r,.val u]),(dG,pre.map .val++(vs.flatten.map .val++spare.map .val))] w:=by
  refine ⟨rfl,by simp [hgb],fun j g' c' hj hc=> ?_,fun c' hc=> ?_,fun c' hc k hk=> ?_⟩
  ·match j,hj,hc with
   | 0,hj,hc=>cases hj;cases hc;exact hg
   | 1,hj,hc=>cases hj;cases hc;rw [<-List.map_append,<-List.map_append,ah];exact hb
   | j + 2,hj,_=>simp at hj
  ·rcases List.mem_cons.1 hc with rfl | hc
   ·exact ⟨rfl,Fq rfl hr hu⟩
   ·cases List.mem_singleton.1 hc
    exact ⟨rfl,by rw [<-List.map_append,<-List.map_append];exact bh (hO.all (aO B))⟩
  ·rcases List.mem_cons.1 hc with rfl | hc
   ·have:k=47:=by simpa [ax,AV.cT] using hk
    subst this;exact ⟨by omega,by show 47 < 2 * 23 + 2;omega⟩
   ·cases List.mem_singleton.1 hc
    rw [<-List.map_append,<-List.map_append,ai] at hk;cases hk
 refine fm Tryz.prog w _ (KU UU) (fun t=>Nat.beq t 22) table (fun _ _=>trivial) (ad:=[g,b]) (us:=[_,_]) Tryz.func74 rfl Tryz.ntmps74 (bu rfl) sH (bu rfl) ?_
 refine af ?_
 obtain ⟨sg,me⟩:∃ sg,eg d 0=sg:=⟨_,rfl⟩
 refine VO.call rfl rfl (fk Tryz.func13) (fun bD cQ bG=>(eR _ d kk bD (hv.ki hs) ab sg me).mono ?_)
 rintro e w1 ⟨rfl,aI⟩
 skip
 refine ⟨_,rfl,aI,fun dt _ bb1=>wV rfl ?_⟩
 refine af ?_
 by_cases hd:0 < d
 ·have hp:mY lj d q=q++[(lj,d)]:=if_pos hd
  have mI:sg > 0:=by rw [<-me];exact gp.2 hd
  refine VS.aP rfl (decide_eq_true mI) ?_
  refine af ?_
  refine VO.ee rfl (fk Tryz.func14) (fun eX β fF fM ho=>(BF _ [d] kk eX (cZ (ho.own 16 (.base (List.mem_singleton.2 rfl)) _ _ rfl) [] (vs:=[[.bool s0,.slice p0 n0 c0,.bool t0,.slice y0 m0 d0]]) (by rfl) rfl (bt.cons (hv.ki hs aU) bt.nil) (bu rfl) bW) (by unfold eu fj;simp;omega)).mono ?_)
  rintro o w3 ⟨r3,rfl,q3,hs3,cC⟩
  have q3':aH w3 eX.heap.size r3 d:=by
   have e:jT [d]=d:=by show 0 + d=d;grind
   rw [e] at q3;exact q3
  obtain ⟨s3,p3,n3,c3,t3,y3,m3,d3,rfl⟩:=q3'.form
  refine ⟨_,rfl,cC,fun gZ _ bb3=>wV rfl ?_⟩
  refine af ?_
  refine VO.appO (bF _ _) (t:=85) (e:=dG) (sz:=5) (n:=n) (c:=c) (off:=off) (i:=47) (mm:=1) (pre:=pre.map .val) (known:=vs.flatten.map .val) (spare:=spare.map .val) (news:=([.int .i64 (lj:Int),.bool s3,.slice p3 n3 c3,.bool t3,.slice y3 m3 d3]:List Value).map .val) (dst:=20) rfl rfl rfl rfl rfl rfl rfl rfl (bu rfl) rfl rfl (by rw [List.length_map];exact jQ.imp id fun h=>⟨h,by decide⟩) (.inl rfl) (by rw [List.length_map,Ft,Kk]) (by rw [<-List.map_append,List.length_map];exact vZ) fE fX ⟨ai _,ai _,rfl⟩ (ai _) ⟨bh Fs,bh DG,rfl⟩ (bh PX) rfl ab
   (fun w1 β k1 b1 ho=>⟨_,_,rfl,.inr ⟨β 19,0,rfl,df (rest:=[]) (ho.own 19 (.base (List.mem_append_right _ (List.mem_singleton.2 rfl))) _ _ rfl) rfl⟩⟩)
   (fun qG aX ck cap' aj ρ Nk Nl fJ hp1 hp2 hp3 jS iB ek pU eD=>wV rfl ?_)
  refine af ?_
  refine VS.mX (bF _ _) rfl (fun wz β kz oz en=> ?_)
  rw [hp]
  obtain ⟨o1,o2⟩:=fo (en.own 46 _ _ rfl) 0 g rfl rfl
  have o3:=en.own 20 _ _ rfl
  have o5:β 20≠g:=fun e=>absurd (en.apart 46 20 (by intro h;cases h) (by intro h;cases h) (o1.trans e.symm)) bW
  have o6:w.heap.size≤β 20\/β 20=b:=by
   have:=gi (show dm 23 [g,b] w 20 (β 20) from o3.new)
   simpa [o5] using this
  have o7:=o3.cls
  rw [List.map_append,List.map_append,List.map_append,ah,ah] at o7
  have hE:dz B wz [.int .i64 (lj:Int),.bool s3,.slice p3 n3 c3,.bool t3,.slice y3 m3 d3] (lj,d):=⟨s3,p3,n3,c3,t3,y3,m3,d3,rfl,(q3'.mono (Nat.le_trans hB fM.1.size)).kp aU⟩
  refine ⟨rfl,oz.1,oz.2 b cw,β 20,aX,n + 1,cap',ck.map (AV.leaf β),vs++[[.int .i64 (lj:Int),.bool s3,.slice p3 n3 c3,.bool t3,.slice y3 m3 d3]],aj.map (AV.leaf β),o6,o2,?_,⟨by simp [Kk],.inl (by rw [List.length_map];exact hp1),du hp2,?_,du pU,jS,iB,?_⟩⟩
  ·rw [List.flatten_append];exact o7
  ·exact (ko.kp (aO B) aU).snoc hE
  ·have:=ek
   simp only [List.length_append,List.length_map,List.length_cons,List.length_nil,List.flatten_append,List.flatten_cons,List.flatten_nil,List.append_nil] at this ⊢
   omega
 ·have hp:mY lj d q=q:=if_neg hd
  have mI:¬ sg > 0:=by rw [<-me];exact fun h=>hd (gp.1 h)
  refine VS.aQ rfl (decide_eq_false mI) ?_
  refine af ?_
  refine VS.mX (bF _ _) rfl (fun wz β kz oz en=> ?_)
  rw [hp]
  obtain ⟨o1,o2⟩:=fo (en.own 46 _ _ rfl) 0 g rfl rfl
  obtain ⟨o3,o4⟩:=fo (en.own 47 _ _ rfl) 1 b rfl rfl
  rw [<-List.map_append,<-List.map_append,ah] at o4
  refine ⟨rfl,oz.1,oz.2 b cw,b,off,n,c,pre,vs,spare,.inr rfl,?_,o4,hO.kp (aO B) aU⟩
  have:β 47=b:=o3
  rw [<-this];exact o2
set_option maxRecDepth 4000 in
theorem Ts (B g lj:Nat) (r u v:Value) (d:Rat) (kk:Nat) (w:World)
  (hg:bg w g Runner #[.slice none 0 0,r,u]) (hr:aV r=true) (hu:aV u=true) (hv:bE w v d) (hs:et d kk) (hk:kk≤100000) (hB:B≤w.heap.size):
  Calls Tryz.prog 74 #[.pointer (some ⟨g,0,none⟩),.int .i64 (lj:Int),v] w fun o w'=>o=.returned (jc [])/\tw [g] w w'/\
   ((¬ 0 < d/\bg w' g Runner #[.slice none 0 0,r,u])\/(0 < d/\∃ b' c' iT aj,w.heap.size≤b'/\bg w' g Runner #[.slice (some ⟨b',0,none⟩) 1 c',r,u]/\bg w' b' dG ([]++(iT.flatten++aj)).toArray/\dT (dz B) 5 w' 1 0 c' [] iT aj [(lj,d)])):=by
 obtain ⟨s0,p0,n0,c0,t0,y0,m0,d0,rfl⟩:=hv.form
 have sH:jX (KU UU) 23 [g] [(Runner,[.val (.slice none 0 0),.val r,.val u])] w:=by
  refine ⟨rfl,by simp,fun j g' c' hj hc=> ?_,fun c' hc=> ?_,fun c' hc k hk=> ?_⟩
  ·match j,hj,hc with
   | 0,hj,hc=>cases hj;cases hc;exact hg
   | j + 1,hj,_=>simp at hj
  ·cases List.mem_singleton.1 hc
   exact ⟨rfl,Fq rfl hr hu⟩
  ·cases List.mem_singleton.1 hc;cases hk
 refine fm Tryz.prog w _ (KU UU) (fun t=>Nat.beq t 22) table (fun _ _=>trivial) (ad:=[g]) (us:=[_,_]) Tryz.func74 rfl Tryz.ntmps74 (bu rfl) sH (bu rfl) ?_
 refine af ?_
 obtain ⟨sg,me⟩:∃ sg,eg d 0=sg:=⟨_,rfl⟩
 refine VO.call rfl rfl (fk Tryz.func13) (fun bD cQ bG=>(eR _ d kk bD (hv.ki hs) ab sg me).mono ?_)
 rintro e w1 ⟨rfl,aI⟩
 skip
 refine ⟨_,rfl,aI,fun dt _ bb1=>wV rfl ?_⟩
 refine af ?_
 by_cases hd:0 < d
 ·have mI:sg > 0:=by rw [<-me];exact gp.2 hd
  refine VS.aP rfl (decide_eq_true mI) ?_
  refine af ?_
  refine VO.ee rfl (fk Tryz.func14) (fun eX β fF fM ho=>(BF _ [d] kk eX (cZ (ho.own 16 (.base (List.mem_singleton.2 rfl)) _ _ rfl) [] (vs:=[[.bool s0,.slice p0 n0 c0,.bool t0,.slice y0 m0 d0]]) (by rfl) rfl (bt.cons (hv.ki hs aU) bt.nil) (bu rfl) bW) (by unfold eu fj;simp;omega)).mono ?_)
  rintro o w3 ⟨r3,rfl,q3,hs3,cC⟩
  have q3':aH w3 eX.heap.size r3 d:=by
   have e:jT [d]=d:=by show 0 + d=d;grind
   rw [e] at q3;exact q3
  obtain ⟨s3,p3,n3,c3,t3,y3,m3,d3,rfl⟩:=q3'.form
  refine ⟨_,rfl,cC,fun gZ _ bb3=>wV rfl ?_⟩
  refine af ?_
  refine VO.app (bF _ _) (t:=85) (e:=dG) (sz:=5) (n:=0) (c:=0) (mm:=1) (known:=[]) (spare:=[]) (del:=none) (news:=([.int .i64 (lj:Int),.bool s3,.slice p3 n3 c3,.bool t3,.slice y3 m3 d3]:List Value).map .val) (dst:=20) rfl rfl rfl rfl rfl rfl rfl rfl (bu rfl) rfl (.inl ⟨rfl,rfl,rfl,rfl,rfl,rfl,by omega⟩) (.inl rfl) rfl rfl (Nat.le_refl _) ab ⟨rfl,rfl,rfl⟩ ⟨rfl,rfl,rfl⟩ rfl ab
   (fun w1 β k1 b1 ho=>⟨_,_,rfl,.inr ⟨β 19,0,rfl,df (rest:=[]) (ho.own 19 (.base (List.mem_append_right _ (List.mem_singleton.2 rfl))) _ _ rfl) rfl⟩⟩)
   (fun qG cap' aj ρ Nk Nl fJ jS iB ek pU eD=>wV rfl ?_)
  refine af ?_
  refine VS.mX (bF _ _) rfl (fun wz β kz oz en=> ?_)
  obtain ⟨o1,o2⟩:=fo (en.own 46 _ _ rfl) 0 g rfl rfl
  have o3:=en.own 20 _ _ rfl
  have o5:β 20≠g:=fun e=>absurd (en.apart 46 20 (by intro h;cases h) (by intro h;cases h) (o1.trans e.symm)) bW
  have o6:w.heap.size≤β 20:=by
   have:=gi (show dm 23 [g] w 20 (β 20) from o3.new)
   simpa [o5] using this
  have o7:=o3.cls
  rw [List.map_append,List.map_append,ah] at o7
  have hE:dz B wz [.int .i64 (lj:Int),.bool s3,.slice p3 n3 c3,.bool t3,.slice y3 m3 d3] (lj,d):=⟨s3,p3,n3,c3,t3,y3,m3,d3,rfl,(q3'.mono (Nat.le_trans hB fM.1.size)).kp aU⟩
  refine ⟨rfl,oz.1,.inr ⟨hd,β 20,cap',[[.int .i64 (lj:Int),.bool s3,.slice p3 n3 c3,.bool t3,.slice y3 m3 d3]],aj.map (AV.leaf β),o6,o2,?_,⟨rfl,.inl rfl,rfl,.cons hE .nil,du pU,by omega,iB,?_⟩⟩⟩
  ·exact o7
  ·have:=ek
   simp only [List.length_append,List.length_map,List.length_cons,List.length_nil,List.flatten_cons,List.flatten_nil,List.append_nil] at this ⊢
   omega
 ·have mI:¬ sg > 0:=by rw [<-me];exact fun h=>hd (gp.1 h)
  refine VS.aQ rfl (decide_eq_false mI) ?_
  refine af ?_
  refine VS.mX (bF _ _) rfl (fun wz β kz oz en=> ?_)
  obtain ⟨o1,o2⟩:=fo (en.own 46 _ _ rfl) 0 g rfl rfl
  exact ⟨rfl,oz.1,.inl ⟨hd,o2⟩⟩
end
section
open Go.RowKit
section
variable {C:Cx} {F:Fr} {H:Hp} {w:World} {m:Option (List FuncId)} {full:Array Oper} {K:Fr->Hp->World->Prop} {o:Oper} {r:List Oper}
theorem VO.dU {i c:Nat} {x a y:AV} {p:Nat->Option Addr} (hP:C.P=Tryz.prog) (hx:∀ β:Nat->Nat,x.leaf β=.slice (p (β 0)) 0 c\/∃ q,x.leaf β=.slice q 0 c) (e:stepOf C full F H o=.call (.fn 75 [.box i 0])) (hf:qV C.P 75) (h1:H i=some (Runner,[x,a,y]))
  (k:∀ w2,bH C.K w w2->C.Old w2->aC C m full r K (F.bB o.dst (.val (.pointer none))) H w2):aC C m full (o::r) K F H w:=by
 refine VO.ee e hf fun w1 β a1 a2 a3=> ?_
 have o1:=a3.own i (.base (by simp [gJ,AV.ids])) _ _ h1
 obtain ⟨q,hq⟩:∃ q,x.leaf β=.slice q 0 c:=by
  rcases hx β with e | e
  ·exact ⟨_,e⟩
  ·exact e
 have hc:bg w1 (β i) Runner #[.slice q 0 c,a.leaf β,y.leaf β]:=by have:=o1.cls;rw [List.map_cons,hq] at this;exact this
 refine Calls.mono (show Calls C.P _ #[.pointer (some ⟨β i,0,none⟩)] w1 _ from hP▸xZ (β i) c q _ _ w1 hc) ?_
 rintro e w2 ⟨rfl,hb⟩
 exact ⟨_,rfl,hb,fun b1 b2 b3=>k w2 b1 b3⟩
theorem VO.dA {i v off n c:Nat} {a y:AV} (hP:C.P=Tryz.prog) (e:stepOf C full F H o=.call (.fn 75 [.box i 0])) (hf:qV C.P 75) (h1:H i=some (Runner,[.row v off n c,a,y])) (hn:n≠0) (hv:H v≠none)
  (k:∀ w2,bH C.K w w2->C.Old w2->aC C m full r K (F.bB o.dst (.mR v off)) H w2):aC C m full (o::r) K F H w:=by
 show one C m full o (aC C m full r K) F H w
 unfold one
 rw [e]
 intro w1 β a1 a2 a3
 have jA:Reach H (fu.fn 75 [.box i 0]).ids i:=.base (by simp [fu.ids,gJ,AV.ids])
 have o1:=a3.own i jA _ _ h1
 refine ⟨hf,Calls.mono (show Calls C.P _ #[.pointer (some ⟨β i,0,none⟩)] w1 _ from hP▸Jm (β i) (β v) off n c _ _ w1 hn o1.cls) ?_⟩
 rintro e w2 ⟨rfl,hb⟩
 exact ⟨β,.mR v off,none,[],rfl,fun j hj=>.inr ⟨.step jA h1 (by have:j=v:=by simpa [AV.ids] using hj
                                                                rw [this];simp [ax,AV.cT]),by have:j=v:=by simpa [AV.ids] using hj
                                                                                              rw [this];exact hv,by simp⟩,.inr rfl,.inr rfl,AX.none hb,fun a b c _ _=>k w2 a c⟩
theorem VO.jO {i v off n c:Nat} {a y:AV} (hP:C.P=Tryz.prog) (e:stepOf C full F H o=.call (.fn 76 [.box i 0])) (hf:qV C.P 76) (h1:H i=some (Runner,[.row v off n c,a,y])) (hn:1≤n) (fE:n≤c) (fX:c≤9223372036854775807) (hv:∀ j∈ax [.row v off n c,a,y],H j≠none) (hl:1≤lvl C.SU m o)
  (k:∀ w2,bH C.K w w2->C.Old w2->aC C m full r K (F.bB o.dst (.val (jc []))) (H.put i (Runner,[.row v (if c=1 then off else off + 5) (n - 1) (c - 1),a,y])) w2):aC C m full (o::r) K F H w:=by
 show one C m full o (aC C m full r K) F H w
 unfold one
 rw [e]
 intro w1 β a1 a2 a3
 have jA:Reach H (fu.fn 76 [.box i 0]).ids i:=.base (by simp [fu.ids,gJ,AV.ids])
 have o1:=a3.own i jA _ _ h1
 have fI:=List.all_eq_true.1 o1.ok
 have nY:=du (β:=β) o1.ok
 refine ⟨hf,Calls.mono (show Calls C.P _ #[.pointer (some ⟨β i,0,none⟩)] w1 _ from hP▸PW (β i) (β v) off n c (a.leaf β) (y.leaf β) w1 o1.cls (List.all_eq_true.1 nY _ cw) (List.all_eq_true.1 nY _ cw) hn fE fX) ?_⟩
 rintro e w2 ⟨rfl,hb,hc⟩
 refine ⟨β,.val (jc []),none,[(i,(Runner,[.row v (if c=1 then off else off + 5) (n - 1) (c - 1),a,y]))],rfl,fun i hi=>(by cases hi),.inl hl,.inr rfl,?_,fun a b c _ _=>k w2 a c⟩
 refine ⟨hb.os,hb.tape,hb.output,hb.size,fun k hk hx _ _=>hb.qq k hk (by simpa using hx),fun _ _=>rfl,fun i hi=>(by cases hi),fun i hi=>(by cases hi),fun x hx=> ?_,fun x hx=> ?_,by simp,fun x hx y hy _=> ?_,fun x hx j hj=> ?_⟩
 ·cases List.mem_singleton.1 hx
  refine ⟨o1.new,o1.ty,hc,?_⟩
  rw [List.all_cons,List.all_cons,fI a cw,List.all_cons,fI y cw];rfl
 ·cases List.mem_singleton.1 hx
  exact .inl ⟨by rw [h1];simp,by simp,jA,rfl⟩
 ·cases List.mem_singleton.1 hx;cases List.mem_singleton.1 hy;rfl
 ·cases List.mem_singleton.1 hx
  exact .inr ⟨hv j (by simpa [ax,AV.cT] using hj),by simp⟩
theorem nB {β bZ:Nat->Nat} {cs:List AV} {a:AV} (ha:a∈cs) (h:∀ i∈ax cs,bZ i=β i):a.leaf bZ=a.leaf β:=
 AV.pC fun i hi=>h i (aZ.2 ⟨a,ha,hi⟩)
theorem VO.BR {B i v d2 off n c lj:Nat} {a y:AV} {pre spare:List Value} {vs:List (List Value)} {q:List Vq} {val:Value} {d:Rat} (kk:Nat) (hP:C.P=Tryz.prog) (hK:C.K=KU UU)
  (e:stepOf C full F H o=.call (.fn 74 [.box i 0,.val (.int .i64 (lj:Int)),.val val])) (hf:qV C.P 74) (h1:H i=some (Runner,[.row v off n c,a,y])) (h2:H v=some (dG,(pre++(vs.flatten++spare)).map .val)) (h3:H d2=none) (hd2:d2 < 2 * C.N) (hiv:i≠v)
  (iK:∀ j∈ax [a,y],H j≠none/\j≠v) (hl:lvl C.SU m o=2) (hO:∀ w1,bH C.K w w1->C.Old w1->dT (dz B) 5 w1 n off c pre vs spare q) (hv:∀ w1,bH C.K w w1->C.Old w1->bE w1 val d) (hs:et d kk) (hk:kk≤100000) (hn:n≤1000) (hB:B≤C.w0.heap.size)
  (k:∀ w2 aX n' c' ck iT aj ρ,bH C.K w w2->C.Old w2->dT (dz B) 5 w2 n' aX c' ck iT aj (mY lj d q)->
   aC C m full r K ((F.forget (some v) ρ).bB o.dst (.val (jc []))) (((H.forget (some v) ρ).put i (Runner,[.row d2 aX n' c',a,y])).put d2 (dG,(ck++(iT.flatten++aj)).map .val)) w2):aC C m full (o::r) K F H w:=by
 show one C m full o (aC C m full r K) F H w
 unfold one
 rw [e]
 intro w1 β a1 a2 a3
 have jA:Reach H (fu.fn 74 [.box i 0,.val (.int .i64 (lj:Int)),.val val]).ids i:=.base (by simp [fu.ids,gJ,AV.ids])
 have kE:Reach H (fu.fn 74 [.box i 0,.val (.int .i64 (lj:Int)),.val val]).ids v:=.step jA h1 (by simp [ax,AV.cT])
 have o1:=a3.own i jA _ _ h1
 have o2:=a3.own v kE _ _ h2
 have fI:=List.all_eq_true.1 o1.ok
 have nY:=du (β:=β) o1.ok
 have iB:bg w1 (β v) dG (pre++(vs.flatten++spare)).toArray:=by have:=o2.cls;rw [ah] at this;exact this
 refine ⟨hf,Calls.mono (show Calls C.P _ #[.pointer (some ⟨β i,0,none⟩),.int .i64 (lj:Int),val] w1 _ from hP▸Tr B (β i) (β v) off n c lj pre vs spare q (a.leaf β) (y.leaf β) val d kk w1 o1.cls iB (hO w1 a1 a2) (List.all_eq_true.1 nY _ cw) (List.all_eq_true.1 nY _ cw) (hv w1 a1 a2) hs hk hn (Nat.le_trans hB (C.fC _ a2))) ?_⟩
 rintro e w2 ⟨rfl,hb,⟨tl,cl,l1,l2,l3⟩,b',aX,n',c',ck,iT,aj,Cs,QY,hc',jh⟩
 have hne:∀ j,H j≠none->j≠d2:=fun j hj e=>hj (e▸h3)
 have hid:i≠d2:=hne i (by rw [h1];simp)
 have Nm:v≠d2:=hne v (by rw [h2];simp)
 let bZ:Nat->Nat:=fun j=>if j=d2 then b' else β j
 have e2:bZ d2=b':=if_pos rfl
 have e1:∀ j,j≠d2->bZ j=β j:=fun j hj=>if_neg hj
 have hag:∀ j∈ax [a,y],bZ j=β j:=fun j hj=>e1 j (hne j (iK j hj).1)
 have hokv:((ck++(iT.flatten++aj)).map AV.val).all aG=true:=bh (jh.all (aO B))
 refine ⟨bZ,.val (jc []),some v,[(i,(Runner,[.row d2 aX n' c',a,y])),(d2,(dG,(ck++(iT.flatten++aj)).map .val))],rfl,fun i hi=>(by cases hi),.inl ab,.inl ab,?_,fun p1 _ p3 ρ _=>k w2 aX n' c' ck iT aj ρ p1 p3 jh⟩
 refine ⟨hb.os,hb.tape,hb.output,hb.size,fun k hk hx jR _=>hb.qq k hk ?_,fun j hj=>e1 j (fun h=>hj (by simp [h])),fun j hj=> ?_,fun j hj=> ?_,fun x hx=> ?_,fun x hx=> ?_,by simpa using hid,fun x hx z hz he=> ?_,fun x hx j hj=> ?_⟩
 ·have g1:=hx (i,(Runner,[.row d2 aX n' c',a,y])) cw
  have g2:=jR v rfl
  rw [e1 i hid] at g1
  simpa using ⟨g1,g2⟩
 ·cases hj
  exact ⟨kE,by rw [h2];simp⟩
 ·cases hj
  exact .inl (.inr ⟨tl,cl,l1,by rw [hK];exact l2,l3⟩)
 ·rcases List.mem_cons.1 hx with rfl | hx
  ·refine ⟨by rw [e1 i hid];exact o1.new,o1.ty,?_,?_⟩
   ·rw [e1 i hid]
    show bg w2 (β i) Runner #[.slice (some ⟨bZ d2,aX,none⟩) n' c',a.leaf bZ,y.leaf bZ]
    rw [e2,nB (cs:=[a,y]) cw hag,nB (cs:=[a,y]) cw hag]
    exact QY
   ·rw [List.all_cons,List.all_cons,fI a cw,List.all_cons,fI y cw];rfl
  ·cases List.mem_singleton.1 hx
   refine ⟨?_,o2.ty,?_,hokv⟩
   ·rw [e2]
    rcases Cs with h | h
    ·exact C.uK _ _ ab (by have:=C.fC _ a2;omega)
    ·rw [h];exact C.Hn v d2 _ o2.new ab
   ·rw [e2,ah];exact hc'
 ·rcases List.mem_cons.1 hx with rfl | hx
  ·exact .inl ⟨by rw [h1];simp,by simpa using fun h=>hiv h.symm,jA,e1 i hid⟩
  ·cases List.mem_singleton.1 hx
   refine .inr ⟨.inl h3,hd2,?_⟩
   rw [e2]
   exact Cs.imp id fun h=>⟨v,rfl,h⟩
 ·have iI:∀ (x:Nat×(TypeId×List AV)),x∈[(i,(Runner,[.row d2 aX n' c',a,y])),(d2,(dG,(ck++(iT.flatten++aj)).map AV.val))]->(x.1=i/\bZ x.1=β i)\/(x.1=d2/\bZ x.1=b'):=fun x hx=>by
   rcases List.mem_cons.1 hx with rfl | hx
   ·exact .inl ⟨rfl,e1 i hid⟩
   ·cases List.mem_singleton.1 hx;exact .inr ⟨rfl,e2⟩
  have hno:β i≠b':=fun h=>absurd (bN QY (h▸hc')) bW
  rcases iI x hx with ⟨g1,g2⟩ | ⟨g1,g2⟩ <;> rcases iI z hz with ⟨g3,g4⟩ | ⟨g3,g4⟩
  ·rw [g1,g3]
  ·exact absurd (g2.symm.trans (he.trans g4)) hno
  ·exact absurd (g4.symm.trans (he.symm.trans g2)) hno
  ·rw [g1,g3]
 ·rcases List.mem_cons.1 hx with rfl | hx
  ·have hj':j=d2\/j∈ax [a,y]:=by
    obtain ⟨z,hz,hj2⟩:=aZ.1 hj
    rcases List.mem_cons.1 hz with rfl | hz
    ·exact .inl (by simpa [AV.cT] using hj2)
    ·exact .inr (aZ.2 ⟨z,hz,hj2⟩)
   rcases hj' with h | h
   ·exact .inl (by simp [h])
   ·exact .inr ⟨(iK j h).1,by simpa using fun h'=>(iK j h).2 h'.symm⟩
  ·cases List.mem_singleton.1 hx
   rw [ai] at hj;cases hj
theorem VO.Jn {B i d2 lj:Nat} {a y:AV} {val:Value} {d:Rat} (kk:Nat) (hP:C.P=Tryz.prog) (hK:C.K=KU UU)
  (e:stepOf C full F H o=.call (.fn 74 [.box i 0,.val (.int .i64 (lj:Int)),.val val])) (hf:qV C.P 74) (h1:H i=some (Runner,[.val (.slice none 0 0),a,y])) (h3:H d2=none) (hd2:d2 < 2 * C.N)
  (iK:∀ j∈ax [a,y],H j≠none) (hl:1≤lvl C.SU m o) (hv:∀ w1,bH C.K w w1->C.Old w1->bE w1 val d) (hs:et d kk) (hk:kk≤100000) (hB:B≤C.w0.heap.size)
  (k1:∀ w2,bH C.K w w2->C.Old w2->¬ 0 < d->aC C m full r K (F.bB o.dst (.val (jc []))) (H.put i (Runner,[.val (.slice none 0 0),a,y])) w2)
  (k2:∀ w2 c' iT aj,bH C.K w w2->C.Old w2->0 < d->dT (dz B) 5 w2 1 0 c' [] iT aj [(lj,d)]->
   aC C m full r K (F.bB o.dst (.val (jc []))) ((H.put i (Runner,[.row d2 0 1 c',a,y])).put d2 (dG,(([]++(iT.flatten++aj):List Value)).map AV.val)) w2):aC C m full (o::r) K F H w:=by
 show one C m full o (aC C m full r K) F H w
 unfold one
 rw [e]
 intro w1 β a1 a2 a3
 have jA:Reach H (fu.fn 74 [.box i 0,.val (.int .i64 (lj:Int)),.val val]).ids i:=.base (by simp [fu.ids,gJ,AV.ids])
 have o1:=a3.own i jA _ _ h1
 have fI:=List.all_eq_true.1 o1.ok
 have nY:=du (β:=β) o1.ok
 refine ⟨hf,Calls.mono (show Calls C.P _ #[.pointer (some ⟨β i,0,none⟩),.int .i64 (lj:Int),val] w1 _ from hP▸Ts B (β i) lj (a.leaf β) (y.leaf β) val d kk w1 o1.cls (List.all_eq_true.1 nY _ cw) (List.all_eq_true.1 nY _ cw) (hv w1 a1 a2) hs hk (Nat.le_trans hB (C.fC _ a2))) ?_⟩
 rintro e w2 ⟨rfl,hb,⟨hd,QY⟩ | ⟨hd,b',c',iT,aj,Cs,QY,hc',jh⟩⟩
 ·refine ⟨β,.val (jc []),none,[(i,(Runner,[.val (.slice none 0 0),a,y]))],rfl,fun i hi=>(by cases hi),.inl hl,.inr rfl,?_,fun p1 _ p3 _ _=>k1 w2 p1 p3 hd⟩
  refine ⟨hb.os,hb.tape,hb.output,hb.size,fun k hk hx _ _=>hb.qq k hk (by simpa using hx),fun _ _=>rfl,fun i hi=>(by cases hi),fun i hi=>(by cases hi),fun x hx=> ?_,fun x hx=> ?_,by simp,fun x hx y hy _=> ?_,fun x hx j hj=> ?_⟩
  ·cases List.mem_singleton.1 hx
   exact ⟨o1.new,o1.ty,QY,o1.ok⟩
  ·cases List.mem_singleton.1 hx
   exact .inl ⟨by rw [h1];simp,by simp,jA,rfl⟩
  ·cases List.mem_singleton.1 hx;cases List.mem_singleton.1 hy;rfl
  ·cases List.mem_singleton.1 hx
   exact .inr ⟨iK j (by simpa [ax,AV.cT] using hj),by simp⟩
 ·have hne:∀ j,H j≠none->j≠d2:=fun j hj e=>hj (e▸h3)
  have hid:i≠d2:=hne i (by rw [h1];simp)
  let bZ:Nat->Nat:=fun j=>if j=d2 then b' else β j
  have e2:bZ d2=b':=if_pos rfl
  have e1:∀ j,j≠d2->bZ j=β j:=fun j hj=>if_neg hj
  have hag:∀ j∈ax [a,y],bZ j=β j:=fun j hj=>e1 j (hne j (iK j hj))
  have hokv:(([]++(iT.flatten++aj)).map AV.val).all aG=true:=bh (jh.all (aO B))
  refine ⟨bZ,.val (jc []),none,[(i,(Runner,[.row d2 0 1 c',a,y])),(d2,(dG,(([]++(iT.flatten++aj):List Value)).map AV.val))],rfl,fun i hi=>(by cases hi),.inl hl,.inr rfl,?_,fun p1 _ p3 _ _=>k2 w2 c' iT aj p1 p3 hd jh⟩
  refine ⟨hb.os,hb.tape,hb.output,hb.size,fun k hk hx _ _=>hb.qq k hk ?_,fun j hj=>e1 j (fun h=>hj (by simp [h])),fun i hi=>(by cases hi),fun i hi=>(by cases hi),fun x hx=> ?_,fun x hx=> ?_,by simpa using hid,fun x hx z hz he=> ?_,fun x hx j hj=> ?_⟩
  ·have g1:=hx (i,(Runner,[.row d2 0 1 c',a,y])) cw
   rw [e1 i hid] at g1
   simpa using g1
  ·rcases List.mem_cons.1 hx with rfl | hx
   ·refine ⟨by rw [e1 i hid];exact o1.new,o1.ty,?_,?_⟩
    ·rw [e1 i hid]
     show bg w2 (β i) Runner #[.slice (some ⟨bZ d2,0,none⟩) 1 c',a.leaf bZ,y.leaf bZ]
     rw [e2,nB (cs:=[a,y]) cw hag,nB (cs:=[a,y]) cw hag]
     exact QY
    ·rw [List.all_cons,List.all_cons,fI a cw,List.all_cons,fI y cw];rfl
   ·cases List.mem_singleton.1 hx
    refine ⟨by rw [e2];exact C.uK _ _ ab (by have:=C.fC _ a2;omega),by rw [hK];rfl,?_,hokv⟩
    rw [e2,ah];exact hc'
  ·rcases List.mem_cons.1 hx with rfl | hx
   ·exact .inl ⟨by rw [h1];simp,by simp,jA,e1 i hid⟩
   ·cases List.mem_singleton.1 hx
    refine .inr ⟨.inl h3,hd2,.inl ?_⟩
    rw [e2];exact Cs
  ·have iI:∀ (x:Nat×(TypeId×List AV)),x∈[(i,(Runner,[.row d2 0 1 c',a,y])),(d2,(dG,([]++(iT.flatten++aj)).map AV.val))]->(x.1=i/\bZ x.1=β i)\/(x.1=d2/\bZ x.1=b'):=fun x hx=>by
    rcases List.mem_cons.1 hx with rfl | hx
    ·exact .inl ⟨rfl,e1 i hid⟩
    ·cases List.mem_singleton.1 hx;exact .inr ⟨rfl,e2⟩
   have hno:β i≠b':=fun h=>absurd (bN QY (h▸hc')) bW
   rcases iI x hx with ⟨g1,g2⟩ | ⟨g1,g2⟩ <;> rcases iI z hz with ⟨g3,g4⟩ | ⟨g3,g4⟩
   ·rw [g1,g3]
   ·exact absurd (g2.symm.trans (he.trans g4)) hno
   ·exact absurd (g4.symm.trans (he.symm.trans g2)) hno
   ·rw [g1,g3]
  ·rcases List.mem_cons.1 hx with rfl | hx
   ·have hj':j=d2\/j∈ax [a,y]:=by
     obtain ⟨z,hz,hj2⟩:=aZ.1 hj
     rcases List.mem_cons.1 hz with rfl | hz
     ·exact .inl (by simpa [AV.cT] using hj2)
     ·exact .inr (aZ.2 ⟨z,hz,hj2⟩)
    rcases hj' with h | h
    ·exact .inl (by simp [h])
    ·exact .inr ⟨iK j h,by simp⟩
   ·cases List.mem_singleton.1 hx
    rw [ai] at hj;cases hj
end
end
end Go.Proofs.YtabalinjfgcfeaaGreat
