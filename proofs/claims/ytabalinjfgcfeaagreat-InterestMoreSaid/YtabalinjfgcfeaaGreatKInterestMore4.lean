/- BD of the proof,laid behind one another. -/
import Derived.Test.YtabalinjfgcfeaaGreatKInterestMore3
set_option linter.all false
set_option maxRecDepth 4000
namespace Go.Proofs.YtabalinjfgcfeaaGreat
open Go.RowKit
attribute [local irreducible] aA VS
theorem qQ (w:World):Calls Tryz.prog 77 #[] w fun e w'=>∃ r,e=.returned r∧aE w' w.heap.size r 1∧aj w w':=by
 refine aw (C:=bP Tryz.prog w _) (args:=[]) Tryz.func77 rfl Tryz.ntmps77 (Nat.le_of_ble_eq_true rfl) ?_
 (repeat first|refine wN ?_|refine wP rfl ?_|refine aa rfl ?_|refine ab rfl ?_|refine wO rfl rfl ?_)
 refine VO.call rfl rfl (fk Tryz.func82) (fun cB eu dt=>(GQ 1 cB (by omega) (by omega)).mono ?_)
 rintro e w1 ⟨r1,rfl,h1,aU⟩
 obtain ⟨s1,p1,n1,c1,rfl⟩:=h1.form
 refine ⟨_,rfl,aU,fun fq _ bb1=>wV rfl ?_⟩
 (repeat first|refine wN ?_|refine wP rfl ?_|refine aa rfl ?_|refine ab rfl ?_|refine wO rfl rfl ?_)
 refine VS.ret (aJ _ _) rfl rfl (fun wz kz bz=> ?_)
 exact ⟨_,rfl,(h1.kp kz).mono dt.size,bz⟩
def Fy (s:Bool) (xs:List Nat) (t:Bool) (ys:List Nat):Bool:=dp s xs && (dp t ys && (decide (0 < numOf t ys) && decide (Int.gcd (numOf s xs) (numOf t ys)=1)))
theorem LW {s t:Bool} {xs ys:List Nat} (h:Fy s xs t ys=false):rq s xs t ys=0:=by
 unfold rq Fo
 split
 ·rename_i hc
  cases h1:dp s xs with
  | false=>unfold numOf;rw [if_neg (by simp [h1])];simp
  | true=>
    cases h2:dp t ys with
    | false=>
      have:numOf t ys=0:=by unfold numOf;rw [if_neg (by simp [h2])]
      omega
    | true=>
      unfold Fy at h
      rw [h1,h2,decide_eq_true hc.1,decide_eq_true hc.2] at h
      cases h
 ·rfl
theorem rtB_inv {s t:Bool} {xs ys:List Nat} (h:Fy s xs t ys=true):dp s xs=true∧dp t ys=true∧0 < numOf t ys∧Int.gcd (numOf s xs) (numOf t ys)=1:=by
 unfold Fy at h
 simp only [Bool.and_eq_true,decide_eq_true_eq] at h
 exact h
theorem eX.lim {w:World} {v:Value} {s:Bool} {xs:List Nat} (h:eX w v s xs):cd xs:=by
 obtain ⟨_,_,_,_,l⟩:=h
 exact l
theorem LX {w:World} {v:Value} {s t:Bool} {xs ys:List Nat} (hv:eR w v s xs t ys) (h:Fy s xs t ys=true):cP w v (rq s xs t ys):=by
 obtain ⟨h1,h2,h3,h4⟩:=rtB_inv h
 obtain ⟨p,c,r,d,rfl,a1,a2⟩:=hv
 obtain ⟨e1,e2⟩:=qN ⟨h3,h4⟩
 refine ⟨s,p,_,c,t,r,_,d,rfl,?_,?_⟩
 ·unfold rq;rw [e1]
  have l:=a1.lim
  unfold numOf
  rw [if_pos h1]
  obtain ⟨c1,c2⟩:=canon l h1
  show eX _ _ _ _
  rw [←c1,←c2]
  assumption
 ·unfold rq;rw [e2]
  have l:=a2.lim
  unfold numOf
  rw [if_pos h2]
  obtain ⟨c1,c2⟩:=canon l h2
  show eX _ _ _ _
  rw [←c1,←c2]
  assumption
theorem eX.in {w:World} {v:Value} {s:Bool} {xs:List Nat} {k:Nat} (h:eX w v s xs) (hk:xs.length≤k):bS w v (numOf s xs) k:=⟨s,xs,h,rfl,hk⟩
theorem rY (s t:Bool) (xs ys:List Nat) (v:Value) (w:World) (h:eR w v s xs t ys) (hx:xs.length≤536870912) (hy:ys.length≤536870912):
  Calls Tryz.prog 68 #[v] w fun e w'=>e=.returned (.bool (Fy s xs t ys))∧aj w w':=by
 obtain ⟨p,c,r,d,rfl,h1,h2⟩:=h
 refine aw (C:=bP Tryz.prog w _) (args:=[_]) Tryz.func68 rfl Tryz.ntmps68 (Nat.le_of_ble_eq_true rfl) ?_
 (repeat first|refine wN ?_|refine wP rfl ?_|refine aa rfl ?_|refine ab rfl ?_|refine wO rfl rfl ?_)
 refine VO.call rfl rfl (fk Tryz.func102) (fun cB eu dt=>(qK s xs _ cB (h1.bk dt)).mono ?_)
 rintro e w1 ⟨rfl,aU⟩
 cases q1:dp s xs
 ·refine ⟨_,rfl,aU,fun fq _ bb1=>wV rfl ?_⟩
  (repeat first|refine wN ?_|refine wP rfl ?_|refine aa rfl ?_|refine ab rfl ?_|refine wO rfl rfl ?_)
  refine VS.ret (aJ _ _) rfl rfl (fun wz kz bz=> ?_)
  exact ⟨by simp [Fy,q1,iC],bz⟩
 refine ⟨_,rfl,aU,fun fq _ bb1=>wV rfl ?_⟩
 (repeat first|refine wN ?_|refine wP rfl ?_|refine aa rfl ?_|refine ab rfl ?_|refine wO rfl rfl ?_)
 refine VO.call rfl rfl (fk Tryz.func102) (fun dR gS eW=>(qK t ys _ dR (h2.bk eW)).mono ?_)
 rintro e w2 ⟨rfl,bn⟩
 cases q2:dp t ys
 ·refine ⟨_,rfl,bn,fun gw _ bb2=>wV rfl ?_⟩
  (repeat first|refine wN ?_|refine wP rfl ?_|refine aa rfl ?_|refine ab rfl ?_|refine wO rfl rfl ?_)
  refine VS.ret (aJ _ _) rfl rfl (fun wz kz bz=> ?_)
  exact ⟨by simp [Fy,q1,q2,iC],bz⟩
 refine ⟨_,rfl,bn,fun gw _ bb2=>wV rfl ?_⟩
 (repeat first|refine wN ?_|refine wP rfl ?_|refine aa rfl ?_|refine ab rfl ?_|refine wO rfl rfl ?_)
 refine VO.call rfl rfl (fk Tryz.func43) (fun gY iD jd=>(pz _ (numOf t ys) _ gY ((h2.in (Nat.le_refl _)).bk jd)).mono ?_)
 rintro e w3 ⟨rfl,cI⟩
 by_cases q3:0 < numOf t ys
 ·rw [eZ q3]
  refine ⟨_,rfl,cI,fun kS _ bb3=>wV rfl ?_⟩
  (repeat first|refine wN ?_|refine wP rfl ?_|refine aa rfl ?_|refine ab rfl ?_|refine wO rfl rfl ?_)
  refine VO.call rfl rfl (fk Tryz.func103) (fun mW pV nI=>(CY _ _ (numOf s xs) (numOf t ys) _ _ mW ((h1.in (Nat.le_refl _)).bk nI) ((h2.in (Nat.le_refl _)).bk nI) hx hy).mono ?_)
  rintro e w4 ⟨r4,rfl,h4,gI⟩
  obtain ⟨s4,p4,n4,c4,rfl⟩:=h4.form
  refine ⟨_,rfl,gI,fun oL _ AM=>wV rfl ?_⟩
  (repeat first|refine wN ?_|refine wP rfl ?_|refine aa rfl ?_|refine ab rfl ?_|refine wO rfl rfl ?_)
  refine VO.call rfl rfl (fk Tryz.func77) (fun jK mD jy=>(qQ jK).mono ?_)
  rintro e w5 ⟨r5,rfl,h5,fY⟩
  obtain ⟨s5,p5,n5,c5,rfl⟩:=h5.form
  refine ⟨_,rfl,fY,fun mX _ vQ=>wV rfl ?_⟩
  (repeat first|refine wN ?_|refine wP rfl ?_|refine aa rfl ?_|refine ab rfl ?_|refine wO rfl rfl ?_)
  have hg:Sz (Int.gcd (numOf s xs) (numOf t ys):Int) ys.length:=by
   obtain ⟨_,_,_,_,l2⟩:=h2
   refine Sz.le (Y:=numOf t ys) (xx l2 (Nat.le_refl _)) ?_
   rw [Int.natAbs_natCast,←Int.natAbs_natCast (Int.gcd (numOf s xs) (numOf t ys))]
   have:=Int.gcd_dvd_right (numOf s xs) (numOf t ys)
   have:=Int.natAbs_dvd_natAbs.2 this
   exact Nat.le_of_dvd (by omega) this
  refine VO.call rfl rfl (fk Tryz.func41) (fun pW uC uZ=>(xr _ _ (Int.gcd (numOf s xs) (numOf t ys):Int) 1 _ 1 pW ((h4.kp (mD.aI ((Kp.of fY).aI uC))).in hg) ((h5.kp uC).in (Sz.small (by decide))) (by omega) (by omega)).mono ?_)
  rintro e w6 ⟨rfl,ny⟩
  by_cases q4:Int.gcd (numOf s xs) (numOf t ys)=1
  ·rw [show ((Int.gcd (numOf s xs) (numOf t ys):Int) - 1).sign=0 by rw [q4];rfl]
   refine ⟨_,rfl,ny,fun tD _ Dl=>wV rfl ?_⟩
   (repeat first|refine wN ?_|refine wP rfl ?_|refine aa rfl ?_|refine ab rfl ?_|refine wO rfl rfl ?_)
   refine VS.ret (aJ _ _) rfl rfl (fun wz kz bz=> ?_)
   exact ⟨by simp [Fy,q1,q2,q3,q4,iC],bz⟩
  ·have hne:(((Int.gcd (numOf s xs) (numOf t ys):Int) - 1).sign == 0)=false:=by
    rw [beq_eq_false_iff_ne]
    intro e
    have:=Int.sign_eq_zero_iff_zero.1 e
    omega
   refine ⟨_,rfl,ny,fun tD _ Dl=>wV rfl ?_⟩
   (repeat first|refine wN ?_|refine wP rfl ?_|refine aa rfl ?_|refine ab rfl ?_|refine wO rfl rfl ?_)
   refine VS.ret (aJ _ _) rfl rfl (fun wz kz bz=> ?_)
   exact ⟨by simp only [Fy,q1,q2,q3,q4,iC,Bool.true_and,decide_true,decide_false,hne],bz⟩
 ·have q4:(numOf t ys).sign=0∨(numOf t ys).sign= -1:=by
   rcases Int.lt_trichotomy (numOf t ys) 0 with e | e | e
   ·exact .inr (sign_neg e)
   ·rw [e];exact .inl rfl
   ·exact absurd e q3
  rcases q4 with q4 | q4
  all_goals
   rw [q4]
   refine ⟨_,rfl,cI,fun kS _ bb3=>wV rfl ?_⟩
   (repeat first|refine wN ?_|refine wP rfl ?_|refine aa rfl ?_|refine ab rfl ?_|refine wO rfl rfl ?_)
   refine VS.ret (aJ _ _) rfl rfl (fun wz kz bz=> ?_)
   exact ⟨by simp [Fy,q1,q2,q3,iC],bz⟩
theorem cP.zero {w:World} {p:Option Addr} {n c:Nat} {s:Bool} (h:bQ w (.agg #[.bool s,.slice p n c]) 1):cP w (.agg #[.bool false,.slice none 0 0,.bool s,.slice p n c]) 0:=⟨_,_,_,_,_,_,_,_,rfl,bQ.zero _,h⟩
theorem cC (v:Value) (q:Rat) (k:Nat) (w:World) (h:bO w v q k) (hk:k≤536870912):
  Calls Tryz.prog 40 #[v] w fun e w'=>∃ r,e=.returned r∧cP w' r q∧aj w w':=by
 obtain ⟨s,xs,t,ys,uU,rfl,hx,hy⟩:=h
 have hraw':=uU
 obtain ⟨p,c,r,d,rfl,_,_⟩:=uU
 refine aw (C:=bP Tryz.prog w _) (args:=[_]) Tryz.func40 rfl Tryz.ntmps40 (Nat.le_of_ble_eq_true rfl) ?_
 (repeat first|refine wN ?_|refine wP rfl ?_|refine aa rfl ?_|refine ab rfl ?_|refine wO rfl rfl ?_)
 refine VO.call rfl rfl (fk Tryz.func68) (fun cB eu dt=>(rY s t xs ys _ cB (hraw'.kp eu) (by omega) (by omega)).mono ?_)
 rintro e w1 ⟨rfl,aU⟩
 cases hq:Fy s xs t ys
 ·refine ⟨_,rfl,aU,fun fq _ bb1=>wV rfl ?_⟩
  (repeat first|refine wN ?_|refine wP rfl ?_|refine aa rfl ?_|refine ab rfl ?_|refine wO rfl rfl ?_)
  refine VO.call rfl rfl (fk Tryz.func77) (fun dR gS eW=>(qQ dR).mono ?_)
  rintro e w2 ⟨r2,rfl,h2,bn⟩
  obtain ⟨s2,p2,n2,c2,rfl⟩:=h2.form
  refine ⟨_,rfl,bn,fun gw _ bb2=>wV rfl ?_⟩
  (repeat first|refine wN ?_|refine wP rfl ?_|refine aa rfl ?_|refine ab rfl ?_|refine wO rfl rfl ?_)
  refine VS.ret (aJ _ _) rfl rfl (fun wz kz bz=> ?_)
  exact ⟨_,rfl,by rw [LW hq];exact cP.zero (h2.kp kz).rd,bz⟩
 ·refine ⟨_,rfl,aU,fun fq _ bb1=>wV rfl ?_⟩
  (repeat first|refine wN ?_|refine wP rfl ?_|refine aa rfl ?_|refine ab rfl ?_|refine wO rfl rfl ?_)
  refine VS.ret (aJ _ _) rfl rfl (fun wz kz bz=> ?_)
  exact ⟨_,rfl,(LX hraw' hq).kp (fq.aI kz),bz⟩
theorem Fz {X Y:Int} {k:Nat} (hY:Sz Y k) (h:Y≠0):Sz (Int.gcd X Y:Int) k:=by
 refine Sz.le (Y:=Y) hY ?_
 rw [Int.natAbs_natCast,←Int.natAbs_natCast (Int.gcd X Y)]
 exact Nat.le_of_dvd (by omega) (Int.natAbs_dvd_natAbs.2 (Int.gcd_dvd_right X Y))
theorem eI {w w':World} {X Y:Int} {e:Ending} (h:xt w w' X Y e) (hY:Y≠0):∃ v u,e=.returned (.tuple #[v,u,.int .i64 0])∧aE w' w.heap.size v (X.fdiv Y)∧aE w' w.heap.size u (X.fmod Y):=by
 rcases h with ⟨h0,_⟩ | ⟨_,h⟩
 ·exact absurd h0 hY
 ·exact h
theorem oP (v u:Value) (X Y:Int) (j k:Nat) (w:World) (hv:bS w v X j) (hu:bS w u Y k) (hj:j≤268435456) (hk:k≤268435456) (hY:Y≠0):
  Calls Tryz.prog 83 #[v,u] w fun e w'=>∃ r,e=.returned r∧aK w' w.heap.size r (Rat.divInt X Y)∧aj w w':=by
 obtain ⟨s,p,n,c,rfl⟩:=hv.form
 obtain ⟨t,r,m,d,rfl⟩:=hu.form
 refine aw (C:=bP Tryz.prog w _) (args:=[_,_]) Tryz.func83 rfl Tryz.ntmps83 (Nat.le_of_ble_eq_true rfl) ?_
 (repeat first|refine wN ?_|refine wP rfl ?_|refine aa rfl ?_|refine ab rfl ?_|refine wO rfl rfl ?_)
 refine VO.call rfl rfl (fk Tryz.func103) (fun cB eu dt=>(CY _ _ X Y j k cB (hv.kp eu) (hu.kp eu) (by omega) (by omega)).mono ?_)
 rintro e w1 ⟨r1,rfl,h1,aU⟩
 obtain ⟨s1,p1,n1,c1,rfl⟩:=h1.form
 refine ⟨_,rfl,aU,fun fq _ bb1=>wV rfl ?_⟩
 (repeat first|refine wN ?_|refine wP rfl ?_|refine aa rfl ?_|refine ab rfl ?_|refine wO rfl rfl ?_)
 refine VO.call rfl rfl (fk Tryz.func43) (fun dR gS eW=>(pz _ Y k dR (hu.bk eW)).mono ?_)
 rintro e w2 ⟨rfl,bn⟩
 have LY:Sz (Int.gcd X Y:Int) k:=Fz hu.len hY
 have Lu:(Int.gcd X Y:Int)≠0:=by
  intro e
  have:=(Int.gcd_eq_zero_iff.1 (show Int.gcd X Y=0 by omega)).2
  exact hY this
 rcases Int.lt_or_lt_of_ne hY with q | q
 ·rw [sign_neg q]
  obtain ⟨l1,l2⟩:=low_neg (X:=X) q
  refine ⟨_,rfl,bn,fun gw _ bb2=>wV rfl ?_⟩
  (repeat first|refine wN ?_|refine wP rfl ?_|refine aa rfl ?_|refine ab rfl ?_|refine wO rfl rfl ?_)
  refine VO.call rfl rfl (fk Tryz.func113) (fun gY iD jd=>(CX _ (Int.gcd X Y:Int) k gY ((h1.kp (gw.aI iD)).in LY) (by omega)).mono ?_)
  rintro e w3 ⟨r3,rfl,h3,cI⟩
  obtain ⟨s3,p3,n3,c3,rfl⟩:=h3.form
  refine ⟨_,rfl,cI,fun kS _ bb3=>wV rfl ?_⟩
  (repeat first|refine wN ?_|refine wP rfl ?_|refine aa rfl ?_|refine ab rfl ?_|refine wO rfl rfl ?_)
  refine VO.call rfl rfl (fk Tryz.func114) (fun mW pV nI=>(kO _ _ X (-(Int.gcd X Y:Int)) j k mW (hv.bk nI) ((h3.kp pV).in LY.neg) (by omega) (by omega)).mono ?_)
  rintro e w4 ⟨hd4,gI⟩
  obtain ⟨v4,u4,rfl,h4,h4'⟩:=eI hd4 (by omega)
  obtain ⟨s4,p4,n4,c4,rfl⟩:=h4.form
  obtain ⟨t4,r4,m4,d4,rfl⟩:=h4'.form
  refine ⟨_,rfl,gI,fun oL _ AM=>wV rfl ?_⟩
  (repeat first|refine wN ?_|refine wP rfl ?_|refine aa rfl ?_|refine ab rfl ?_|refine wO rfl rfl ?_)
  refine VO.call rfl rfl (fk Tryz.func114) (fun jK mD jy=>(kO _ _ Y (-(Int.gcd X Y:Int)) k k jK (hu.bk jy) ((h3.kp (oL.aI mD)).in LY.neg) (by omega) (by omega)).mono ?_)
  rintro e w5 ⟨hd5,fY⟩
  obtain ⟨v5,u5,rfl,h5,h5'⟩:=eI hd5 (by omega)
  obtain ⟨s5,p5,n5,c5,rfl⟩:=h5.form
  obtain ⟨t5,r5,m5,d5,rfl⟩:=h5'.form
  refine ⟨_,rfl,fY,fun mX _ vQ=>wV rfl ?_⟩
  (repeat first|refine wN ?_|refine wP rfl ?_|refine aa rfl ?_|refine ab rfl ?_|refine wO rfl rfl ?_)
  refine VS.ret (aJ _ _) rfl rfl (fun wz kz bz=> ?_)
  exact ⟨_,rfl,⟨_,_,_,_,_,_,_,_,rfl,aE.cast ((h4.kp (mX.aI kz)).mono nI.size) l1,aE.cast ((h5.kp kz).mono jy.size) l2⟩,bz⟩
 ·rw [eZ q]
  obtain ⟨l1,l2⟩:=vP (X:=X) q
  refine ⟨_,rfl,bn,fun gw _ bb2=>wV rfl ?_⟩
  (repeat first|refine wN ?_|refine wP rfl ?_|refine aa rfl ?_|refine ab rfl ?_|refine wO rfl rfl ?_)
  refine VO.call rfl rfl (fk Tryz.func114) (fun mW pV nI=>(kO _ _ X (Int.gcd X Y:Int) j k mW (hv.bk nI) ((h1.kp (gw.aI pV)).in LY) (by omega) (by omega)).mono ?_)
  rintro e w4 ⟨hd4,gI⟩
  obtain ⟨v4,u4,rfl,h4,h4'⟩:=eI hd4 (by omega)
  obtain ⟨s4,p4,n4,c4,rfl⟩:=h4.form
  obtain ⟨t4,r4,m4,d4,rfl⟩:=h4'.form
  refine ⟨_,rfl,gI,fun oL _ AM=>wV rfl ?_⟩
  (repeat first|refine wN ?_|refine wP rfl ?_|refine aa rfl ?_|refine ab rfl ?_|refine wO rfl rfl ?_)
  refine VO.call rfl rfl (fk Tryz.func114) (fun jK mD jy=>(kO _ _ Y (Int.gcd X Y:Int) k k jK (hu.bk jy) ((h1.kp (gw.aI (oL.aI mD))).in LY) (by omega) (by omega)).mono ?_)
  rintro e w5 ⟨hd5,fY⟩
  obtain ⟨v5,u5,rfl,h5,h5'⟩:=eI hd5 (by omega)
  obtain ⟨s5,p5,n5,c5,rfl⟩:=h5.form
  obtain ⟨t5,r5,m5,d5,rfl⟩:=h5'.form
  refine ⟨_,rfl,fY,fun mX _ vQ=>wV rfl ?_⟩
  (repeat first|refine wN ?_|refine wP rfl ?_|refine aa rfl ?_|refine ab rfl ?_|refine wO rfl rfl ?_)
  refine VS.ret (aJ _ _) rfl rfl (fun wz kz bz=> ?_)
  exact ⟨_,rfl,⟨_,_,_,_,_,_,_,_,rfl,aE.cast ((h4.kp (mX.aI kz)).mono nI.size) l1,aE.cast ((h5.kp kz).mono jy.size) l2⟩,bz⟩
end Go.Proofs.YtabalinjfgcfeaaGreat
namespace Go.Proofs.YtabalinjfgcfeaaGreat
open Go.RowKit
attribute [local irreducible] aA VS
theorem AR (q r:Rat):q + r=Rat.divInt (q.num * r.den + r.num * q.den) ((q.den:Int) * r.den):=by
 rw [Rat.add_def',←Rat.divInt_ofNat];simp
theorem add_same {q r:Rat} (h:(q.den:Int)=r.den):q + r=Rat.divInt (q.num + r.num) q.den:=by
 rw [AR,←h]
 have hd:(q.den:Int)≠0:=by have:=q.den_nz;omega
 rw [←Int.add_mul,Rat.divInt_mul_right hd]
theorem Hb (q r:Rat):q * r=Rat.divInt (q.num * r.num) ((q.den:Int) * r.den):=by
 rw [Rat.mul_def',←Rat.divInt_ofNat];simp
theorem mn {X Y:Int} {k l:Nat} (hX:Sz X k) (hY:Sz Y l) (h:Y≠0):Sz (Rat.divInt X Y).num k∧Sz ((Rat.divInt X Y).den:Int) l:=by
 constructor
 ·refine Sz.le hX ?_
  rw [Rat.num_divInt]
  have h1:(Y.sign * X / (Y.gcd X:Int)).natAbs≤(Y.sign * X).natAbs:=Int.natAbs_ediv_le_natAbs _ _
  rw [Int.natAbs_mul] at h1
  have h2:Y.sign.natAbs=1:=by
   rcases Int.lt_or_lt_of_ne h with e | e
   ·rw [sign_neg e];rfl
   ·rw [eZ e];rfl
  rw [h2,Nat.one_mul] at h1
  exact h1
 ·refine Sz.le hY ?_
  rw [Rat.den_divInt,if_neg h,Int.natAbs_natCast]
  exact Nat.div_le_self _ _
theorem fo.add {q r:Rat} {k l:Nat} (hq:fo q k) (hr:fo r l):fo (q + r) (k + l + 1):=by
 rw [AR]
 have hd:(q.den:Int) * r.den≠0:=Int.mul_ne_zero (by have:=q.den_nz;omega) (by have:=r.den_nz;omega)
 obtain ⟨h1,h2⟩:=mn (Sz.add (hq.1.mul hr.2) (hr.1.mul hq.2) (m:=k + l) (by omega) (by omega)) (hq.2.mul hr.2) hd
 exact ⟨h1,h2.mono (by omega)⟩
theorem fo.mul {q r:Rat} {k l:Nat} (hq:fo q k) (hr:fo r l):fo (q * r) (k + l):=by
 rw [Hb]
 have hd:(q.den:Int) * r.den≠0:=Int.mul_ne_zero (by have:=q.den_nz;omega) (by have:=r.den_nz;omega)
 exact mn (hq.1.mul hr.1) (hq.2.mul hr.2) hd
theorem fo.neg {q:Rat} {k:Nat} (hq:fo q k):fo (-q) k:=⟨by rw [Rat.neg_num];exact hq.1.neg,by rw [Rat.neg_den];exact hq.2⟩
def eG (q r:Rat):Int:=if q < r then -1 else if q=r then 0 else 1
theorem Dp (q r:Rat):(q.num * r.den - r.num * q.den).sign=eG q r:=by
 unfold eG
 by_cases h1:q < r
 ·rw [if_pos h1];exact sign_neg (by have:=(Rat.lt_iff q r).1 h1;omega)
 ·rw [if_neg h1]
  by_cases h2:q=r
  ·subst h2;rw [if_pos rfl,Int.sub_self];rfl
  ·rw [if_neg h2]
   refine eZ ?_
   have a:=mt (Rat.lt_iff q r).2 h1
   have b:=mt Rat.eq_iff_mul_eq_mul.2 h2
   omega
theorem Jl (q:Rat):q.num.sign=eG q 0:=by
 have:=Dp q 0
 simpa using this
def Dq (Y:Int):Int:=if Y=0 then 20 else 0
theorem bF (n:Int) (w:World) (h0: -9223372036854775808≤n) (h1:n≤9223372036854775807):
  Calls Tryz.prog 44 #[.int .i64 n] w fun e w'=>∃ r,e=.returned r∧aK w' w.heap.size r (n:Rat)∧aj w w':=by
 refine aw (C:=bP Tryz.prog w _) (args:=[_]) Tryz.func44 rfl Tryz.ntmps44 (Nat.le_of_ble_eq_true rfl) ?_
 (repeat first|refine wN ?_|refine wP rfl ?_|refine aa rfl ?_|refine ab rfl ?_|refine wO rfl rfl ?_)
 refine VO.call rfl rfl (fk Tryz.func82) (fun cB eu dt=>(GQ n cB h0 h1).mono ?_)
 rintro e w1 ⟨r1,rfl,q1,aU⟩
 obtain ⟨s1,p1,n1,c1,rfl⟩:=q1.form
 refine ⟨_,rfl,aU,fun fq _ bb1=>wV rfl ?_⟩
 (repeat first|refine wN ?_|refine wP rfl ?_|refine aa rfl ?_|refine ab rfl ?_|refine wO rfl rfl ?_)
 refine VO.call rfl rfl (fk Tryz.func77) (fun dR gS eW=>(qQ dR).mono ?_)
 rintro e w2 ⟨r2,rfl,q2,bn⟩
 obtain ⟨s2,p2,n2,c2,rfl⟩:=q2.form
 refine ⟨_,rfl,bn,fun gw _ bb2=>wV rfl ?_⟩
 (repeat first|refine wN ?_|refine wP rfl ?_|refine aa rfl ?_|refine ab rfl ?_|refine wO rfl rfl ?_)
 refine VS.ret (aJ _ _) rfl rfl (fun wz kz bz=> ?_)
 exact ⟨_,rfl,⟨_,_,_,_,_,_,_,_,rfl,(q1.kp (gw.aI kz)).mono dt.size,(q2.kp kz).mono eW.size⟩,bz⟩
set_option maxHeartbeats 400000 in
theorem mo (v u:Value) (q r:Rat) (k l:Nat) (w:World) (hv:cP w v q) (hu:cP w u r) (hq:fo q k) (hr:fo r l) (hk:k≤67108864) (hl:l≤67108864):
  Calls Tryz.prog 45 #[v,u] w fun e w'=>∃ x,e=.returned x∧aK w' w.heap.size x (q + r)∧aj w w':=by
 obtain ⟨s,p,n,c,t,y,m,d,rfl⟩:=hv.form
 obtain ⟨s',p',n',c',t',y',m',d',rfl⟩:=hu.form
 obtain ⟨v1,v2⟩:=hv.parts
 obtain ⟨u1,u2⟩:=hu.parts
 have dq:(q.den:Int)≠0:=by have:=q.den_nz;omega
 have dr:(r.den:Int)≠0:=by have:=r.den_nz;omega
 refine aw (C:=bP Tryz.prog w _) (args:=[_,_]) Tryz.func45 rfl Tryz.ntmps45 (Nat.le_of_ble_eq_true rfl) ?_
 (repeat first|refine wN ?_|refine wP rfl ?_|refine aa rfl ?_|refine ab rfl ?_|refine wO rfl rfl ?_)
 refine VO.call rfl rfl (fk Tryz.func41) (fun cB eu dt=>(xr _ _ (q.den:Int) r.den k l cB ((v2.bk dt).to hq.2) ((u2.bk dt).to hr.2) (by omega) (by omega)).mono ?_)
 rintro e w1 ⟨rfl,aU⟩
 by_cases hd:(q.den:Int)=r.den
 ·rw [show ((q.den:Int) - r.den).sign=0 by rw [hd,Int.sub_self];rfl]
  refine ⟨_,rfl,aU,fun fq _ bb1=>wV rfl ?_⟩
  (repeat first|refine wN ?_|refine wP rfl ?_|refine aa rfl ?_|refine ab rfl ?_|refine wO rfl rfl ?_)
  refine VO.call rfl rfl (fk Tryz.func84) (fun dR gS eW=>(CV _ _ q.num r.num k l dR ((v1.bk eW).to hq.1) ((u1.bk eW).to hr.1) (by omega) (by omega)).mono ?_)
  rintro e w2 ⟨r2,rfl,q2,bn⟩
  obtain ⟨s2,p2,n2,c2,rfl⟩:=q2.form
  refine ⟨_,rfl,bn,fun gw _ bb2=>wV rfl ?_⟩
  (repeat first|refine wN ?_|refine wP rfl ?_|refine aa rfl ?_|refine ab rfl ?_|refine wO rfl rfl ?_)
  refine VO.call rfl rfl (fk Tryz.func83) (fun gY iD jd=>(oP _ _ (q.num + r.num) q.den (k + l + 1) k gY ((q2.kp iD).in (Sz.add hq.1 hr.1 (by omega) (by omega))) ((v2.bk jd).to hq.2) (by omega) (by omega) dq).mono ?_)
  rintro e w3 ⟨r3,rfl,q3,cI⟩
  obtain ⟨s3,p3,n3,c3,t3,y3,m3,d3,rfl⟩:=q3.form
  refine ⟨_,rfl,cI,fun kS _ bb3=>wV rfl ?_⟩
  (repeat first|refine wN ?_|refine wP rfl ?_|refine aa rfl ?_|refine ab rfl ?_|refine wO rfl rfl ?_)
  refine VS.ret (aJ _ _) rfl rfl (fun wz kz bz=> ?_)
  exact ⟨_,rfl,aK.cast ((q3.kp kz).mono jd.size) (add_same hd).symm,bz⟩
 ·have hs:((((q.den:Int) - r.den).sign == 0))=false:=by
   rw [beq_eq_false_iff_ne]
   intro e
   have:=Int.sign_eq_zero_iff_zero.1 e
   omega
  rcases Int.lt_or_lt_of_ne (show (q.den:Int) - r.den≠0 by omega) with e | e
  all_goals
   first | rw [sign_neg e] | rw [eZ e]
   refine ⟨_,rfl,aU,fun fq _ bb1=>wV rfl ?_⟩
   (repeat first|refine wN ?_|refine wP rfl ?_|refine aa rfl ?_|refine ab rfl ?_|refine wO rfl rfl ?_)
   refine VO.call rfl rfl (fk Tryz.func42) (fun dR gS eW=>(kf _ _ q.num r.den k l dR ((v1.bk eW).to hq.1) ((u2.bk eW).to hr.2) (by omega) (by omega)).mono ?_)
   rintro e w2 ⟨r2,rfl,q2,bn⟩
   obtain ⟨s2,p2,n2,c2,rfl⟩:=q2.form
   refine ⟨_,rfl,bn,fun gw _ bb2=>wV rfl ?_⟩
   (repeat first|refine wN ?_|refine wP rfl ?_|refine aa rfl ?_|refine ab rfl ?_|refine wO rfl rfl ?_)
   refine VO.call rfl rfl (fk Tryz.func42) (fun gY iD jd=>(kf _ _ r.num q.den l k gY ((u1.bk jd).to hr.1) ((v2.bk jd).to hq.2) (by omega) (by omega)).mono ?_)
   rintro e w3 ⟨r3,rfl,q3,cI⟩
   obtain ⟨s3,p3,n3,c3,rfl⟩:=q3.form
   refine ⟨_,rfl,cI,fun kS _ bb3=>wV rfl ?_⟩
   (repeat first|refine wN ?_|refine wP rfl ?_|refine aa rfl ?_|refine ab rfl ?_|refine wO rfl rfl ?_)
   refine VO.call rfl rfl (fk Tryz.func84) (fun mW pV nI=>(CV _ _ (q.num * r.den) (r.num * q.den) (k + l) (l + k) mW ((q2.kp (kS.aI pV)).in (hq.1.mul hr.2)) ((q3.kp pV).in (hr.1.mul hq.2)) (by omega) (by omega)).mono ?_)
   rintro e w4 ⟨r4,rfl,q4,gI⟩
   obtain ⟨s4,p4,n4,c4,rfl⟩:=q4.form
   refine ⟨_,rfl,gI,fun oL _ AM=>wV rfl ?_⟩
   (repeat first|refine wN ?_|refine wP rfl ?_|refine aa rfl ?_|refine ab rfl ?_|refine wO rfl rfl ?_)
   refine VO.call rfl rfl (fk Tryz.func42) (fun jK mD jy=>(kf _ _ q.den r.den k l jK ((v2.bk jy).to hq.2) ((u2.bk jy).to hr.2) (by omega) (by omega)).mono ?_)
   rintro e w5 ⟨r5,rfl,q5,fY⟩
   obtain ⟨s5,p5,n5,c5,rfl⟩:=q5.form
   refine ⟨_,rfl,fY,fun mX _ vQ=>wV rfl ?_⟩
   (repeat first|refine wN ?_|refine wP rfl ?_|refine aa rfl ?_|refine ab rfl ?_|refine wO rfl rfl ?_)
   refine VO.call rfl rfl (fk Tryz.func83) (fun pW uC uZ=>(oP _ _ (q.num * r.den + r.num * q.den) ((q.den:Int) * r.den) (k + l + 1) (k + l) pW ((q4.kp (mX.aI uC)).in (Sz.add (hq.1.mul hr.2) (hr.1.mul hq.2) (by omega) (by omega))) ((q5.kp uC).in (hq.2.mul hr.2)) (by omega) (by omega) (Int.mul_ne_zero dq dr)).mono ?_)
   rintro e w6 ⟨r6,rfl,q6,ny⟩
   obtain ⟨s6,p6,n6,c6,t6,y6,m6,d6,rfl⟩:=q6.form
   refine ⟨_,rfl,ny,fun tD _ Dl=>wV rfl ?_⟩
   (repeat first|refine wN ?_|refine wP rfl ?_|refine aa rfl ?_|refine ab rfl ?_|refine wO rfl rfl ?_)
   refine VS.ret (aJ _ _) rfl rfl (fun wz kz bz=> ?_)
   exact ⟨_,rfl,aK.cast ((q6.kp kz).mono uZ.size) (AR q r).symm,bz⟩
end Go.Proofs.YtabalinjfgcfeaaGreat
namespace Go.Proofs.YtabalinjfgcfeaaGreat
open Go.RowKit
attribute [local irreducible] aA VS
def nJ (k:Nat):Nat:=max k 1
theorem bO.Dr {w:World} {v:Value} {q:Rat} {k:Nat} (h:bO w v q k):fo q (nJ k):=by
 obtain ⟨s,xs,t,ys,h1,h2,h3,h4⟩:=h
 exact bO.sz (k:=nJ k) ⟨s,xs,t,ys,h1,h2,by unfold nJ;omega,by unfold nJ;omega⟩ (by unfold nJ;omega)
theorem eT (v u:Value) (q r:Rat) (k l:Nat) (w:World) (hv:bO w v q k) (hu:bO w u r l) (hk:k≤67108864) (hl:l≤67108864):
  Calls Tryz.prog 16 #[v,u] w fun e w'=>∃ x,e=.returned x∧aK w' w.heap.size x (q + r)∧aj w w':=by
 obtain ⟨s,p,n,c,t,y,m,d,rfl⟩:=hv.form
 obtain ⟨s',p',n',c',t',y',m',d',rfl⟩:=hu.form
 refine aw (C:=bP Tryz.prog w _) (args:=[_,_]) Tryz.func16 rfl Tryz.ntmps16 (Nat.le_of_ble_eq_true rfl) ?_
 (repeat first|refine wN ?_|refine wP rfl ?_|refine aa rfl ?_|refine ab rfl ?_|refine wO rfl rfl ?_)
 refine VO.call rfl rfl (fk Tryz.func40) (fun cB eu dt=>(cC _ q k cB (hv.kp eu) (by omega)).mono ?_)
 rintro e w1 ⟨r1,rfl,q1,aU⟩
 obtain ⟨s1,p1,n1,c1,t1,y1,m1,d1,rfl⟩:=q1.form
 refine ⟨_,rfl,aU,fun fq _ bb1=>wV rfl ?_⟩
 (repeat first|refine wN ?_|refine wP rfl ?_|refine aa rfl ?_|refine ab rfl ?_|refine wO rfl rfl ?_)
 refine VO.call rfl rfl (fk Tryz.func40) (fun dR gS eW=>(cC _ r l dR (hu.kp (fq.aI gS)) (by omega)).mono ?_)
 rintro e w2 ⟨r2,rfl,q2,bn⟩
 obtain ⟨s2,p2,n2,c2,t2,y2,m2,d2,rfl⟩:=q2.form
 refine ⟨_,rfl,bn,fun gw _ bb2=>wV rfl ?_⟩
 (repeat first|refine wN ?_|refine wP rfl ?_|refine aa rfl ?_|refine ab rfl ?_|refine wO rfl rfl ?_)
 refine VO.call rfl rfl (fk Tryz.func45) (fun gY iD jd=>(mo _ _ q r _ _ gY (q1.kp (gw.aI iD)) (q2.kp iD) hv.Dr hu.Dr (by unfold nJ;omega) (by unfold nJ;omega)).mono ?_)
 rintro e w3 ⟨r3,rfl,q3,cI⟩
 obtain ⟨s3,p3,n3,c3,t3,y3,m3,d3,rfl⟩:=q3.form
 refine ⟨_,rfl,cI,fun kS _ bb3=>wV rfl ?_⟩
 (repeat first|refine wN ?_|refine wP rfl ?_|refine aa rfl ?_|refine ab rfl ?_|refine wO rfl rfl ?_)
 refine VS.ret (aJ _ _) rfl rfl (fun wz kz bz=> ?_)
 exact ⟨_,rfl,(q3.kp kz).mono jd.size,bz⟩
theorem FA (v:Value) (q:Rat) (k:Nat) (w:World) (hv:bO w v q k) (hk:k≤536870912):
  Calls Tryz.prog 109 #[v] w fun e w'=>∃ x,e=.returned x∧aK w' w.heap.size x (-q)∧aj w w':=by
 obtain ⟨s,p,n,c,t,y,m,d,rfl⟩:=hv.form
 refine aw (C:=bP Tryz.prog w _) (args:=[_]) Tryz.func109 rfl Tryz.ntmps109 (Nat.le_of_ble_eq_true rfl) ?_
 (repeat first|refine wN ?_|refine wP rfl ?_|refine aa rfl ?_|refine ab rfl ?_|refine wO rfl rfl ?_)
 refine VO.call rfl rfl (fk Tryz.func40) (fun cB eu dt=>(cC _ q k cB (hv.kp eu) hk).mono ?_)
 rintro e w1 ⟨r1,rfl,q1,aU⟩
 obtain ⟨s1,p1,n1,c1,t1,y1,m1,d1,rfl⟩:=q1.form
 refine ⟨_,rfl,aU,fun fq _ bb1=>wV rfl ?_⟩
 (repeat first|refine wN ?_|refine wP rfl ?_|refine aa rfl ?_|refine ab rfl ?_|refine wO rfl rfl ?_)
 obtain ⟨a1,a2⟩:=q1.parts
 refine VO.call rfl rfl (fk Tryz.func113) (fun dR gS eW=>(CX _ q.num _ dR ((a1.kp gS).to hv.Dr.1) (by unfold nJ;omega)).mono ?_)
 rintro e w2 ⟨r2,rfl,q2,bn⟩
 obtain ⟨s2,p2,n2,c2,rfl⟩:=q2.form
 refine ⟨_,rfl,bn,fun gw _ bb2=>wV rfl ?_⟩
 (repeat first|refine wN ?_|refine wP rfl ?_|refine aa rfl ?_|refine ab rfl ?_|refine wO rfl rfl ?_)
 refine VO.call rfl rfl (fk Tryz.func129) (fun gY iD jd=>(Lr _ q.den _ gY ((a2.kp (gw.aI iD)).to hv.Dr.2) (by unfold nJ;omega)).mono ?_)
 rintro e w3 ⟨r3,rfl,q3,cI⟩
 obtain ⟨s3,p3,n3,c3,rfl⟩:=q3.form
 refine ⟨_,rfl,cI,fun kS _ bb3=>wV rfl ?_⟩
 (repeat first|refine wN ?_|refine wP rfl ?_|refine aa rfl ?_|refine ab rfl ?_|refine wO rfl rfl ?_)
 refine VS.ret (aJ _ _) rfl rfl (fun wz kz bz=> ?_)
 exact ⟨_,rfl,⟨_,_,_,_,_,_,_,_,rfl,aE.cast ((q2.kp (kS.aI kz)).mono eW.size) (Rat.neg_num q).symm,aE.cast ((q3.kp kz).mono jd.size) (by rw [Rat.neg_den,Int.natAbs_natCast])⟩,bz⟩
theorem ck (v u:Value) (q r:Rat) (k l:Nat) (w:World) (hv:bO w v q k) (hu:bO w u r l) (hk:k≤67108864) (hl:l≤67108864):
  Calls Tryz.prog 72 #[v,u] w fun e w'=>∃ x,e=.returned x∧aK w' w.heap.size x (q - r)∧aj w w':=by
 obtain ⟨s,p,n,c,t,y,m,d,rfl⟩:=hv.form
 obtain ⟨s',p',n',c',t',y',m',d',rfl⟩:=hu.form
 refine aw (C:=bP Tryz.prog w _) (args:=[_,_]) Tryz.func72 rfl Tryz.ntmps72 (Nat.le_of_ble_eq_true rfl) ?_
 (repeat first|refine wN ?_|refine wP rfl ?_|refine aa rfl ?_|refine ab rfl ?_|refine wO rfl rfl ?_)
 refine VO.call rfl rfl (fk Tryz.func40) (fun cB eu dt=>(cC _ q k cB (hv.kp eu) (by omega)).mono ?_)
 rintro e w1 ⟨r1,rfl,q1,aU⟩
 obtain ⟨s1,p1,n1,c1,t1,y1,m1,d1,rfl⟩:=q1.form
 refine ⟨_,rfl,aU,fun fq _ bb1=>wV rfl ?_⟩
 (repeat first|refine wN ?_|refine wP rfl ?_|refine aa rfl ?_|refine ab rfl ?_|refine wO rfl rfl ?_)
 refine VO.call rfl rfl (fk Tryz.func109) (fun dR gS eW=>(FA _ r l dR (hu.kp (fq.aI gS)) (by omega)).mono ?_)
 rintro e w2 ⟨r2,rfl,q2,bn⟩
 obtain ⟨s2,p2,n2,c2,t2,y2,m2,d2,rfl⟩:=q2.form
 refine ⟨_,rfl,bn,fun gw _ bb2=>wV rfl ?_⟩
 (repeat first|refine wN ?_|refine wP rfl ?_|refine aa rfl ?_|refine ab rfl ?_|refine wO rfl rfl ?_)
 refine VO.call rfl rfl (fk Tryz.func45) (fun gY iD jd=>(mo _ _ q (-r) _ _ gY (q1.kp (gw.aI iD)) (q2.kp iD).rd hv.Dr hu.Dr.neg (by unfold nJ;omega) (by unfold nJ;omega)).mono ?_)
 rintro e w3 ⟨r3,rfl,q3,cI⟩
 obtain ⟨s3,p3,n3,c3,t3,y3,m3,d3,rfl⟩:=q3.form
 refine ⟨_,rfl,cI,fun kS _ bb3=>wV rfl ?_⟩
 (repeat first|refine wN ?_|refine wP rfl ?_|refine aa rfl ?_|refine ab rfl ?_|refine wO rfl rfl ?_)
 refine VS.ret (aJ _ _) rfl rfl (fun wz kz bz=> ?_)
 exact ⟨_,rfl,aK.cast ((q3.kp kz).mono jd.size) (Rat.sub_eq_add_neg q r).symm,bz⟩
theorem FD (v u:Value) (q r:Rat) (k l:Nat) (w:World) (hv:bO w v q k) (hu:bO w u r l) (hk:k≤67108864) (hl:l≤67108864):
  Calls Tryz.prog 105 #[v,u] w fun e w'=>∃ x,e=.returned x∧aK w' w.heap.size x (q * r)∧aj w w':=by
 obtain ⟨s,p,n,c,t,y,m,d,rfl⟩:=hv.form
 obtain ⟨s',p',n',c',t',y',m',d',rfl⟩:=hu.form
 have dq:(q.den:Int) * r.den≠0:=Int.mul_ne_zero (by have:=q.den_nz;omega) (by have:=r.den_nz;omega)
 have zq:=hv.Dr
 have zr:=hu.Dr
 have uk:nJ k≤67108864:=by unfold nJ;omega
 have ul:nJ l≤67108864:=by unfold nJ;omega
 refine aw (C:=bP Tryz.prog w _) (args:=[_,_]) Tryz.func105 rfl Tryz.ntmps105 (Nat.le_of_ble_eq_true rfl) ?_
 (repeat first|refine wN ?_|refine wP rfl ?_|refine aa rfl ?_|refine ab rfl ?_|refine wO rfl rfl ?_)
 refine VO.call rfl rfl (fk Tryz.func40) (fun cB eu dt=>(cC _ q k cB (hv.kp eu) (by omega)).mono ?_)
 rintro e w1 ⟨r1,rfl,q1,aU⟩
 obtain ⟨s1,p1,n1,c1,t1,y1,m1,d1,rfl⟩:=q1.form
 refine ⟨_,rfl,aU,fun fq _ bb1=>wV rfl ?_⟩
 (repeat first|refine wN ?_|refine wP rfl ?_|refine aa rfl ?_|refine ab rfl ?_|refine wO rfl rfl ?_)
 refine VO.call rfl rfl (fk Tryz.func40) (fun dR gS eW=>(cC _ r l dR (hu.kp (fq.aI gS)) (by omega)).mono ?_)
 rintro e w2 ⟨r2,rfl,q2,bn⟩
 obtain ⟨s2,p2,n2,c2,t2,y2,m2,d2,rfl⟩:=q2.form
 refine ⟨_,rfl,bn,fun gw _ bb2=>wV rfl ?_⟩
 (repeat first|refine wN ?_|refine wP rfl ?_|refine aa rfl ?_|refine ab rfl ?_|refine wO rfl rfl ?_)
 obtain ⟨a1,a2⟩:=q1.parts
 obtain ⟨b1,b2⟩:=q2.parts
 refine VO.call rfl rfl (fk Tryz.func42) (fun gY iD jd=>(kf _ _ q.num r.num _ _ gY ((a1.kp (gw.aI iD)).to zq.1) ((b1.kp iD).to zr.1) (by omega) (by omega)).mono ?_)
 rintro e w3 ⟨r3,rfl,q3,cI⟩
 obtain ⟨s3,p3,n3,c3,rfl⟩:=q3.form
 refine ⟨_,rfl,cI,fun kS _ bb3=>wV rfl ?_⟩
 (repeat first|refine wN ?_|refine wP rfl ?_|refine aa rfl ?_|refine ab rfl ?_|refine wO rfl rfl ?_)
 refine VO.call rfl rfl (fk Tryz.func42) (fun mW pV nI=>(kf _ _ q.den r.den _ _ mW ((a2.kp (gw.aI (kS.aI pV))).to zq.2) ((b2.kp (kS.aI pV)).to zr.2) (by omega) (by omega)).mono ?_)
 rintro e w4 ⟨r4,rfl,q4,gI⟩
 obtain ⟨s4,p4,n4,c4,rfl⟩:=q4.form
 refine ⟨_,rfl,gI,fun oL _ AM=>wV rfl ?_⟩
 (repeat first|refine wN ?_|refine wP rfl ?_|refine aa rfl ?_|refine ab rfl ?_|refine wO rfl rfl ?_)
 refine VO.call rfl rfl (fk Tryz.func83) (fun jK mD jy=>(oP _ _ (q.num * r.num) ((q.den:Int) * r.den) _ _ jK ((q3.kp (oL.aI mD)).in (zq.1.mul zr.1)) ((q4.kp mD).in (zq.2.mul zr.2)) (by omega) (by omega) dq).mono ?_)
 rintro e w5 ⟨r5,rfl,q5,fY⟩
 obtain ⟨s5,p5,n5,c5,t5,y5,m5,d5,rfl⟩:=q5.form
 refine ⟨_,rfl,fY,fun mX _ vQ=>wV rfl ?_⟩
 (repeat first|refine wN ?_|refine wP rfl ?_|refine aa rfl ?_|refine ab rfl ?_|refine wO rfl rfl ?_)
 refine VS.ret (aJ _ _) rfl rfl (fun wz kz bz=> ?_)
 exact ⟨_,rfl,aK.cast ((q5.kp kz).mono jy.size) (Hb q r).symm,bz⟩
theorem Ds (v:Value) (q:Rat) (k:Nat) (w:World) (hv:bO w v q k) (hk:k≤536870912):
  Calls Tryz.prog 13 #[v] w fun e w'=>e=.returned (.int .i64 (eG q 0))∧aj w w':=by
 obtain ⟨s,p,n,c,t,y,m,d,rfl⟩:=hv.form
 refine aw (C:=bP Tryz.prog w _) (args:=[_]) Tryz.func13 rfl Tryz.ntmps13 (Nat.le_of_ble_eq_true rfl) ?_
 (repeat first|refine wN ?_|refine wP rfl ?_|refine aa rfl ?_|refine ab rfl ?_|refine wO rfl rfl ?_)
 refine VO.call rfl rfl (fk Tryz.func40) (fun cB eu dt=>(cC _ q k cB (hv.kp eu) hk).mono ?_)
 rintro e w1 ⟨r1,rfl,q1,aU⟩
 obtain ⟨s1,p1,n1,c1,t1,y1,m1,d1,rfl⟩:=q1.form
 refine ⟨_,rfl,aU,fun fq _ bb1=>wV rfl ?_⟩
 (repeat first|refine wN ?_|refine wP rfl ?_|refine aa rfl ?_|refine ab rfl ?_|refine wO rfl rfl ?_)
 refine VO.call rfl rfl (fk Tryz.func43) (fun dR gS eW=>(pz _ q.num _ dR ((q1.parts.1.kp gS).to hv.Dr.1)).mono ?_)
 rintro e w2 ⟨rfl,bn⟩
 rw [Jl]
 refine ⟨_,rfl,bn,fun gw _ bb2=>wV rfl ?_⟩
 (repeat first|refine wN ?_|refine wP rfl ?_|refine aa rfl ?_|refine ab rfl ?_|refine wO rfl rfl ?_)
 refine VS.ret (aJ _ _) rfl rfl (fun wz kz bz=> ?_)
 exact ⟨rfl,bz⟩
theorem qR (v u:Value) (q r:Rat) (k l:Nat) (w:World) (hv:bO w v q k) (hu:bO w u r l) (hk:k≤67108864) (hl:l≤67108864):
  Calls Tryz.prog 12 #[v,u] w fun e w'=>e=.returned (.int .i64 (eG q r))∧aj w w':=by
 obtain ⟨s,p,n,c,t,y,m,d,rfl⟩:=hv.form
 obtain ⟨s',p',n',c',t',y',m',d',rfl⟩:=hu.form
 have zq:=hv.Dr
 have zr:=hu.Dr
 have uk:nJ k≤67108864:=by unfold nJ;omega
 have ul:nJ l≤67108864:=by unfold nJ;omega
 refine aw (C:=bP Tryz.prog w _) (args:=[_,_]) Tryz.func12 rfl Tryz.ntmps12 (Nat.le_of_ble_eq_true rfl) ?_
 (repeat first|refine wN ?_|refine wP rfl ?_|refine aa rfl ?_|refine ab rfl ?_|refine wO rfl rfl ?_)
 refine VO.call rfl rfl (fk Tryz.func40) (fun cB eu dt=>(cC _ q k cB (hv.kp eu) (by omega)).mono ?_)
 rintro e w1 ⟨r1,rfl,q1,aU⟩
 obtain ⟨s1,p1,n1,c1,t1,y1,m1,d1,rfl⟩:=q1.form
 refine ⟨_,rfl,aU,fun fq _ bb1=>wV rfl ?_⟩
 (repeat first|refine wN ?_|refine wP rfl ?_|refine aa rfl ?_|refine ab rfl ?_|refine wO rfl rfl ?_)
 refine VO.call rfl rfl (fk Tryz.func40) (fun dR gS eW=>(cC _ r l dR (hu.kp (fq.aI gS)) (by omega)).mono ?_)
 rintro e w2 ⟨r2,rfl,q2,bn⟩
 obtain ⟨s2,p2,n2,c2,t2,y2,m2,d2,rfl⟩:=q2.form
 refine ⟨_,rfl,bn,fun gw _ bb2=>wV rfl ?_⟩
 (repeat first|refine wN ?_|refine wP rfl ?_|refine aa rfl ?_|refine ab rfl ?_|refine wO rfl rfl ?_)
 obtain ⟨a1,a2⟩:=q1.parts
 obtain ⟨b1,b2⟩:=q2.parts
 refine VO.call rfl rfl (fk Tryz.func42) (fun gY iD jd=>(kf _ _ q.num r.den _ _ gY ((a1.kp (gw.aI iD)).to zq.1) ((b2.kp iD).to zr.2) (by omega) (by omega)).mono ?_)
 rintro e w3 ⟨r3,rfl,q3,cI⟩
 obtain ⟨s3,p3,n3,c3,rfl⟩:=q3.form
 refine ⟨_,rfl,cI,fun kS _ bb3=>wV rfl ?_⟩
 (repeat first|refine wN ?_|refine wP rfl ?_|refine aa rfl ?_|refine ab rfl ?_|refine wO rfl rfl ?_)
 refine VO.call rfl rfl (fk Tryz.func42) (fun mW pV nI=>(kf _ _ r.num q.den _ _ mW ((b1.kp (kS.aI pV)).to zr.1) ((a2.kp (gw.aI (kS.aI pV))).to zq.2) (by omega) (by omega)).mono ?_)
 rintro e w4 ⟨r4,rfl,q4,gI⟩
 obtain ⟨s4,p4,n4,c4,rfl⟩:=q4.form
 refine ⟨_,rfl,gI,fun oL _ AM=>wV rfl ?_⟩
 (repeat first|refine wN ?_|refine wP rfl ?_|refine aa rfl ?_|refine ab rfl ?_|refine wO rfl rfl ?_)
 refine VO.call rfl rfl (fk Tryz.func41) (fun jK mD jy=>(xr _ _ (q.num * r.den) (r.num * q.den) _ _ jK ((q3.kp (oL.aI mD)).in (zq.1.mul zr.2)) ((q4.kp mD).in (zr.1.mul zq.2)) (by omega) (by omega)).mono ?_)
 rintro e w5 ⟨rfl,fY⟩
 rw [Dp]
 refine ⟨_,rfl,fY,fun mX _ vQ=>wV rfl ?_⟩
 (repeat first|refine wN ?_|refine wP rfl ?_|refine aa rfl ?_|refine ab rfl ?_|refine wO rfl rfl ?_)
 refine VS.ret (aJ _ _) rfl rfl (fun wz kz bz=> ?_)
 exact ⟨rfl,bz⟩
end Go.Proofs.YtabalinjfgcfeaaGreat
namespace Go.Proofs.YtabalinjfgcfeaaGreat
open Go.RowKit
attribute [local irreducible] aA VS
def jz (w:World) (v:Value) (qs:List Rat) (k:Nat):Prop:=
 ∃ p c,v=.slice p qs.length c∧qs.length≤c∧c≤maxLen∧∀ i q,qs[i]? =some q→∃ b off s p' n c' t r m d,p=some ⟨b,off,none⟩∧
   (∀ j u,[Value.bool s,.slice p' n c',.bool t,.slice r m d][j]? =some u→w.cell? ⟨b,off + i * 4 + j,none⟩=some u)∧bO w (.agg #[.bool s,.slice p' n c',.bool t,.slice r m d]) q k
theorem jz.form {w:World} {v:Value} {qs:List Rat} {k:Nat} (h:jz w v qs k):∃ p c,v=.slice p qs.length c∧qs.length≤c∧c≤maxLen:=by
 obtain ⟨p,c,hv,h1,h2,_⟩:=h
 exact ⟨p,c,hv,h1,h2⟩
theorem jz.at {w:World} {p:Option Addr} {n c:Nat} {qs:List Rat} {k i:Nat} {q:Rat} (h:jz w (.slice p n c) qs k) (hq:qs[i]? =some q):∃ b off s p' n' c' t r m d,p=some ⟨b,off,none⟩∧
  (∀ j u,[Value.bool s,.slice p' n' c',.bool t,.slice r m d][j]? =some u→w.cell? ⟨b,off + i * 4 + j,none⟩=some u)∧bO w (.agg #[.bool s,.slice p' n' c',.bool t,.slice r m d]) q k:=by
 obtain ⟨p',c',hv,h1,h2,h3⟩:=h
 cases hv
 exact h3 i q hq
theorem jz.bk {w w':World} {v:Value} {qs:List Rat} {k:Nat} (h:jz w v qs k) (hb:aj w w'):jz w' v qs k:=by
 obtain ⟨p,c,hv,h1,h2,h3⟩:=h
 refine ⟨p,c,hv,h1,h2,fun i q hq=> ?_⟩
 obtain ⟨b,off,s,p',n,c',t,r,m,d,hp,hc,hr⟩:=h3 i q hq
 exact ⟨b,off,s,p',n,c',t,r,m,d,hp,fun j u hj=>hb.cell (hc j u hj),hr.kp (Kp.of (U:=UU) hb)⟩
theorem dK {i:Nat} (h:i < 9223372036854775807):IntKind.i64.wrap ((i:Int) + 1)=((i + 1:Nat):Int):=by
 rw [IntWalk.i64_in _ (by omega)];omega
def lI (qs:List Rat):Rat:=qs.foldl (·+ ·) 0
theorem gg {α:Type} {l:List α} {i:Nat} {x:α} (h:l[i]? =some x):l.take (i + 1)=l.take i++[x]:=by
 obtain ⟨hi,rfl⟩:=List.getElem?_eq_some_iff.1 h
 exact List.take_succ_eq_append_getElem hi
theorem zL {qs:List Rat} {i:Nat} {q:Rat} (h:qs[i]? =some q):lI (qs.take (i + 1))=lI (qs.take i) + q:=by
 rw [gg h];simp [lI,List.foldl_append]
def gK (k i:Nat):Nat:=1 + i * (nJ k + 1)
theorem Dt (k i:Nat):gK k (i + 1)=gK k i + nJ k + 1:=by unfold gK;rw [Nat.add_mul,Nat.one_mul];omega
theorem Jm {k i n:Nat} (h:i≤n):gK k i≤gK k n:=by unfold gK;have:=Nat.mul_le_mul_right (nJ k + 1) h;omega
set_option maxHeartbeats 400000 in
theorem xK (v:Value) (qs:List Rat) (k:Nat) (w:World) (hv:jz w v qs k) (hk:gK k qs.length≤67108864):
  Calls Tryz.prog 14 #[v] w fun e w'=>∃ x,e=.returned x∧aK w' w.heap.size x (lI qs)∧fo (lI qs) (gK k qs.length)∧aj w w':=by
 obtain ⟨p,c,rfl,fH,fy⟩:=hv.form
 obtain ⟨N,hN⟩:∃ N,N=qs.length:=⟨_,rfl⟩
 rw [←hN] at hv hk fH ⊢
 have hNm:N < 9223372036854775807:=by unfold gK at hk;have:=Nat.le_mul_of_pos_right N (show 0 < nJ k + 1 by omega);omega
 have huk:nJ k≤67108864∨N=0:=by
  rcases Nat.eq_zero_or_pos N with e | e
  ·exact .inr e
  ·left;unfold gK at hk;have:=Nat.le_mul_of_pos_left (nJ k + 1) e;omega
 refine aw (C:=bP Tryz.prog w _) (args:=[_]) Tryz.func14 rfl Tryz.ntmps14 (Nat.le_of_ble_eq_true rfl) ?_
 (repeat first|refine wN ?_|refine wP rfl ?_|refine aa rfl ?_|refine ab rfl ?_|refine wO rfl rfl ?_)
 refine VO.call rfl rfl (fk Tryz.func44) (fun cB eu dt=>(bF 0 cB (by omega) (by omega)).mono ?_)
 rintro e w1 ⟨r1,rfl,q1,aU⟩
 obtain ⟨s1,p1,n1,c1,t1,y1,m1,d1,rfl⟩:=q1.form
 refine ⟨_,rfl,aU,fun fq _ bb1=>wV rfl ?_⟩
 (repeat first|refine wN ?_|refine wP rfl ?_|refine aa rfl ?_|refine ab rfl ?_|refine wO rfl rfl ?_)
 refine VS.loop (J:=fun n L M w'=>∃ i s p' n' c' t r m d,i≤N∧n=N - i∧L=[(7,.val (.slice p N c)),(8,.val (.int .i64 (N:Int))),(9,.val (.int .i64 (i:Int))),(3,.box 3 0),(2,.box 2 0)]∧
  M=[(2,(26,([.bool false,.slice none 0 0,.bool false,.slice none 0 0]:List Value).map .val)),(3,(26,([.bool s,.slice p' n' c',.bool t,.slice r m d]:List Value).map .val))]∧aK w' w.heap.size (.agg #[.bool s,.slice p' n' c',.bool t,.slice r m d]) (lI (qs.take i))∧fo (lI (qs.take i)) (gK k i)) N ⟨_,_,?_,?_,?_,?_,⟨0,s1,p1,n1,c1,t1,y1,m1,d1,by omega,by omega,rfl,rfl,(q1.mono dt.size).cast (by simp [lI]),by simp only [List.take_zero,lI,List.foldl_nil,gK,Nat.zero_mul,Nat.add_zero];exact fo.zero⟩⟩ ?_
 ·(repeat first|exact trivial|refine ⟨rfl,?_⟩)
 ·(repeat first|exact trivial|refine ⟨rfl,?_⟩)
 ·rfl
 ·(repeat first|exact trivial|refine ⟨ba.lit rfl,?_⟩|refine ⟨ba.vals _,?_⟩)
 rintro n L M w' ⟨i,s,p',n',c',t,r,m,d,hi,rfl,rfl,rfl,ho,hz⟩
 (repeat first|refine wN ?_|refine wP rfl ?_|refine aa rfl ?_|refine ab rfl ?_|refine wO rfl rfl ?_)
 by_cases hlt:i < N
 ·obtain ⟨q,hq⟩:∃ q,qs[i]? =some q:=⟨_,List.getElem?_eq_getElem (by omega)⟩
  obtain ⟨b,off,s2,p2,n2,c2,t2,r2,m2,d2,rfl,hc,tY⟩:=hv.at hq
  refine VS.bG rfl (decide_eq_true (Int.ofNat_lt.2 hlt)) ?_
  (repeat first|refine wN ?_|refine wP rfl ?_|refine aa rfl ?_|refine ab rfl ?_|refine wO rfl rfl ?_)
  refine VO.cond rfl ⟨by omega,by omega⟩ (wV rfl ?_)
  refine VO.read rfl [.bool s2,.slice p2 n2 c2,.bool t2,.slice r2 m2 d2] rfl (fun j u hj=>by rw [Addr.add_mid,Int.toNat_natCast];exact hc j u hj) (wV rfl ?_)
  (repeat first|refine wN ?_|refine wP rfl ?_|refine aa rfl ?_|refine ab rfl ?_|refine wO rfl rfl ?_)
  refine VO.call rfl rfl (fk Tryz.func40) (fun dR gS eW=>(cC _ q k dR ((tY.kp (Kp.of (U:=UU) eW))) (by have:=hk;unfold nJ at *;omega)).mono ?_)
  rintro e w2 ⟨r2',rfl,q2,bn⟩
  obtain ⟨s3,p3,n3,c3,t3,y3,m3,d3,rfl⟩:=q2.form
  refine ⟨_,rfl,bn,fun gw _ bb2=>wV rfl ?_⟩
  (repeat first|refine wN ?_|refine wP rfl ?_|refine aa rfl ?_|refine ab rfl ?_|refine wO rfl rfl ?_)
  refine VO.call rfl rfl (fk Tryz.func45) (fun gY iD jd=>(mo _ _ (lI (qs.take i)) q (gK k i) (nJ k) gY ((ho.kp (gw.aI iD)).rd) (q2.kp iD) hz tY.Dr (by have:=Jm (k:=k) hi;omega) (by omega)).mono ?_)
  rintro e w3 ⟨r3',rfl,q3,cI⟩
  obtain ⟨s4,p4,n4,c4,t4,y4,m4,d4,rfl⟩:=q3.form
  refine ⟨_,rfl,cI,fun kS _ bb3=>wV rfl ?_⟩
  (repeat first|refine wN ?_|refine wP rfl ?_|refine aa rfl ?_|refine ab rfl ?_|refine wO rfl rfl ?_)
  refine VS.back (N - (i + 1)) (by omega) ⟨_,_,?_,?_,?_,?_,⟨i + 1,s4,p4,n4,c4,t4,y4,m4,d4,by omega,rfl,rfl,rfl,(q3.mono jd.size).cast (zL hq).symm,by rw [zL hq,Dt];exact hz.add tY.Dr⟩⟩
  ·refine ⟨rfl,rfl,?_,rfl,rfl,trivial⟩
   rw [←dK (by omega)];rfl
  ·(repeat first|exact trivial|refine ⟨rfl,?_⟩)
  ·rfl
  ·(repeat first|exact trivial|refine ⟨ba.lit rfl,?_⟩|refine ⟨ba.vals _,?_⟩)
 ·refine VS.bK rfl (decide_eq_false (fun e=>hlt (Int.ofNat_lt.1 e))) ?_
  (repeat first|refine wN ?_|refine wP rfl ?_|refine aa rfl ?_|refine ab rfl ?_|refine wO rfl rfl ?_)
  refine VS.ret (aJ _ _) rfl rfl (fun wz kz bz=> ?_)
  obtain rfl:i=N:=by omega
  rw [List.take_of_length_le (by omega)] at ho hz
  exact ⟨_,rfl,ho.kp kz,hz,bz⟩
def uD (y x:Rat):Bool:=decide (eG y x < 0)
def jF (y x:Rat):Bool:=decide (eG y x > 0)
theorem Du (v u:Value) (x y:Rat) (k l:Nat) (w:World) (hv:bO w v x k) (hu:bO w u y l) (hk:k≤67108864) (hl:l≤67108864):
  Calls Tryz.prog 108 #[v,u] w fun e w'=>e=.returned (.bool (uD y x))∧aj w w':=by
 obtain ⟨s,p,n,c,t,z,m,d,rfl⟩:=hv.form
 obtain ⟨s',p',n',c',t',z',m',d',rfl⟩:=hu.form
 refine aw (C:=bP Tryz.prog w _) (args:=[_,_]) Tryz.func108 rfl Tryz.ntmps108 (Nat.le_of_ble_eq_true rfl) ?_
 (repeat first|refine wN ?_|refine wP rfl ?_|refine aa rfl ?_|refine ab rfl ?_|refine wO rfl rfl ?_)
 refine VO.call rfl rfl (fk Tryz.func12) (fun cB eu dt=>(qR _ _ y x l k cB (hu.kp eu) (hv.kp eu) hl hk).mono ?_)
 rintro e w1 ⟨rfl,aU⟩
 skip
 refine ⟨_,rfl,aU,fun fq _ bb1=>wV rfl ?_⟩
 (repeat first|refine wN ?_|refine wP rfl ?_|refine aa rfl ?_|refine ab rfl ?_|refine wO rfl rfl ?_)
 refine VS.ret (aJ _ _) rfl rfl (fun wz kz bz=> ?_)
 exact ⟨rfl,bz⟩
theorem Dv (v u:Value) (x y:Rat) (k l:Nat) (w:World) (hv:bO w v x k) (hu:bO w u y l) (hk:k≤67108864) (hl:l≤67108864):
  Calls Tryz.prog 128 #[v,u] w fun e w'=>e=.returned (.bool (jF y x))∧aj w w':=by
 obtain ⟨s,p,n,c,t,z,m,d,rfl⟩:=hv.form
 obtain ⟨s',p',n',c',t',z',m',d',rfl⟩:=hu.form
 refine aw (C:=bP Tryz.prog w _) (args:=[_,_]) Tryz.func128 rfl Tryz.ntmps128 (Nat.le_of_ble_eq_true rfl) ?_
 (repeat first|refine wN ?_|refine wP rfl ?_|refine aa rfl ?_|refine ab rfl ?_|refine wO rfl rfl ?_)
 refine VO.call rfl rfl (fk Tryz.func12) (fun cB eu dt=>(qR _ _ y x l k cB (hu.kp eu) (hv.kp eu) hl hk).mono ?_)
 rintro e w1 ⟨rfl,aU⟩
 skip
 refine ⟨_,rfl,aU,fun fq _ bb1=>wV rfl ?_⟩
 (repeat first|refine wN ?_|refine wP rfl ?_|refine aa rfl ?_|refine ab rfl ?_|refine wO rfl rfl ?_)
 refine VS.ret (aJ _ _) rfl rfl (fun wz kz bz=> ?_)
 exact ⟨rfl,bz⟩
theorem Dw (s:Bool) (p:Option Addr) (n c:Nat) (t:Bool) (r:Option Addr) (m d:Nat) (w:World):
  Calls Tryz.prog 107 #[.agg #[.bool s,.slice p n c,.bool t,.slice r m d]] w fun e w'=>e=.returned (.func (.func 108) #[.agg #[.bool s,.slice p n c,.bool t,.slice r m d]] #[])∧aj w w':=by
 refine aw (C:=bP Tryz.prog w _) (args:=[_]) Tryz.func107 rfl Tryz.ntmps107 (Nat.le_of_ble_eq_true rfl) ?_
 (repeat first|refine wN ?_|refine wP rfl ?_|refine aa rfl ?_|refine ab rfl ?_|refine wO rfl rfl ?_)
 refine VS.ret (aJ _ _) rfl rfl (fun wz kz bz=> ?_)
 exact ⟨rfl,bz⟩
theorem Dx (s:Bool) (p:Option Addr) (n c:Nat) (t:Bool) (r:Option Addr) (m d:Nat) (w:World):
  Calls Tryz.prog 127 #[.agg #[.bool s,.slice p n c,.bool t,.slice r m d]] w fun e w'=>e=.returned (.func (.func 128) #[.agg #[.bool s,.slice p n c,.bool t,.slice r m d]] #[])∧aj w w':=by
 refine aw (C:=bP Tryz.prog w _) (args:=[_]) Tryz.func127 rfl Tryz.ntmps127 (Nat.le_of_ble_eq_true rfl) ?_
 (repeat first|refine wN ?_|refine wP rfl ?_|refine aa rfl ?_|refine ab rfl ?_|refine wO rfl rfl ?_)
 refine VS.ret (aJ _ _) rfl rfl (fun wz kz bz=> ?_)
 exact ⟨rfl,bz⟩
def jG (better:Rat→Rat→Bool) (q:Rat) (qs:List Rat):Rat:=qs.foldl (fun o y=>if better y o=true then y else o) q
theorem FE {better:Rat→Rat→Bool} {x:Rat} {qs:List Rat} {i:Nat} {q:Rat} (h:qs[i]? =some q):jG better x (qs.take (i + 1))=if better q (jG better x (qs.take i))=true then q else jG better x (qs.take i):=by
 rw [gg h];unfold jG;rw [List.foldl_append];rfl
set_option maxHeartbeats 1000000 in
theorem uE (fB fL:FuncId) (better:Rat→Rat→Bool) (kB:ou Tryz.prog fB) (kL:ou Tryz.prog fL)
  (hB:∀ (s:Bool) (p:Option Addr) (n c:Nat) (t:Bool) (r:Option Addr) (m d:Nat) (w:World),Calls Tryz.prog fB #[.agg #[.bool s,.slice p n c,.bool t,.slice r m d]] w fun e w'=>e=.returned (.func (.func fL) #[.agg #[.bool s,.slice p n c,.bool t,.slice r m d]] #[])∧aj w w')
  (hL:∀ (v u:Value) (x y:Rat) (k l:Nat) (w:World),bO w v x k→bO w u y l→k≤67108864→l≤67108864→Calls Tryz.prog fL #[v,u] w fun e w'=>e=.returned (.bool (better y x))∧aj w w')
  (u v:Value) (q0:Rat) (qs:List Rat) (k:Nat) (w:World) (hu:bO w u q0 k) (hv:jz w v qs k) (hk:k≤67108863) (hlen:qs.length < 9223372036854775807):
  Calls Tryz.prog 106 #[u,v,.func (.func fB) #[] #[]] w fun e w'=>∃ x,e=.returned x∧aK w' w.heap.size x (jG better q0 qs)∧fo (jG better q0 qs) (nJ k)∧aj w w':=by
 obtain ⟨s,p,n,c,t,y,m,d,rfl⟩:=hu.form
 obtain ⟨P,cc,rfl,fH,fy⟩:=hv.form
 obtain ⟨N,hN⟩:∃ N,N=qs.length:=⟨_,rfl⟩
 rw [←hN] at hv hlen fH ⊢
 have zk:nJ k≤67108864:=by unfold nJ;omega
 refine aw (C:=bP Tryz.prog w _) (args:=[_,_,_]) Tryz.func106 rfl Tryz.ntmps106 (Nat.le_of_ble_eq_true rfl) ?_
 (repeat first|refine wN ?_|refine wP rfl ?_|refine aa rfl ?_|refine ab rfl ?_|refine wO rfl rfl ?_)
 refine VO.call rfl rfl (fk Tryz.func40) (fun cB eu dt=>(cC _ q0 k cB (hu.kp eu) (by omega)).mono ?_)
 rintro e w1 ⟨r1,rfl,q1,aU⟩
 obtain ⟨s1,p1,n1,c1,t1,y1,m1,d1,rfl⟩:=q1.form
 refine ⟨_,rfl,aU,fun fq _ bb1=>wV rfl ?_⟩
 (repeat first|refine wN ?_|refine wP rfl ?_|refine aa rfl ?_|refine ab rfl ?_|refine wO rfl rfl ?_)
 refine VO.call rfl rfl (fk Tryz.func44) (fun dR gS eW=>(bF 0 dR (by omega) (by omega)).mono ?_)
 rintro e w2 ⟨r2,rfl,q2,bn⟩
 obtain ⟨s2,p2,n2,c2,t2,y2,m2,d2,rfl⟩:=q2.form
 refine ⟨_,rfl,bn,fun gw _ bb2=>wV rfl ?_⟩
 (repeat first|refine wN ?_|refine wP rfl ?_|refine aa rfl ?_|refine ab rfl ?_|refine wO rfl rfl ?_)
 refine VO.call rfl rfl (fk Tryz.func45) (fun gY iD jd=>(mo _ _ q0 ((0:Int):Rat) (nJ k) 1 gY (q1.kp (gw.aI iD)) (q2.kp iD).rd hu.Dr fo.zero zk (by omega)).mono ?_)
 rintro e w3 ⟨r3,rfl,q3,cI⟩
 obtain ⟨s3,p3,n3,c3,t3,y3,m3,d3,rfl⟩:=q3.form
 refine ⟨_,rfl,cI,fun kS _ bb3=>wV rfl ?_⟩
 (repeat first|refine wN ?_|refine wP rfl ?_|refine aa rfl ?_|refine ab rfl ?_|refine wO rfl rfl ?_)
 refine VS.loop (J:=fun n' L M w'=>∃ i s p' n c' t r m d,i≤N∧n'=N - i∧L=[(14,.val (.slice P N cc)),(15,.val (.int .i64 (N:Int))),(16,.val (.int .i64 (i:Int))),(2,.val (.func (.func fB) #[] #[])),(7,.box 7 0),(6,.box 6 0)]∧
  M=[(6,(26,([.bool false,.slice none 0 0,.bool false,.slice none 0 0]:List Value).map .val)),(7,(26,([.bool s,.slice p' n c',.bool t,.slice r m d]:List Value).map .val))]∧aK w' w.heap.size (.agg #[.bool s,.slice p' n c',.bool t,.slice r m d]) (jG better q0 (qs.take i))∧fo (jG better q0 (qs.take i)) (nJ k)) N ⟨_,_,?_,?_,?_,?_,⟨0,s3,p3,n3,c3,t3,y3,m3,d3,by omega,by omega,rfl,rfl,(q3.mono jd.size).cast (Rat.add_zero _),hu.Dr⟩⟩ ?_
 ·(repeat first|exact trivial|refine ⟨rfl,?_⟩)
 ·(repeat first|exact trivial|refine ⟨rfl,?_⟩)
 ·rfl
 ·(repeat first|exact trivial|refine ⟨ba.lit rfl,?_⟩|refine ⟨ba.vals _,?_⟩)
 rintro n' L M w' ⟨i,s,p',n,c',t,r,m,d,hi,rfl,rfl,rfl,ho,hz⟩
 (repeat first|refine wN ?_|refine wP rfl ?_|refine aa rfl ?_|refine ab rfl ?_|refine wO rfl rfl ?_)
 by_cases hlt:i < N
 ·obtain ⟨q,hq⟩:∃ q,qs[i]? =some q:=⟨_,List.getElem?_eq_getElem (by omega)⟩
  obtain ⟨b,off,s2,p2,n2,c2,t2,r2,m2,d2,rfl,hc,tY⟩:=hv.at hq
  refine VS.bG rfl (decide_eq_true (Int.ofNat_lt.2 hlt)) ?_
  (repeat first|refine wN ?_|refine wP rfl ?_|refine aa rfl ?_|refine ab rfl ?_|refine wO rfl rfl ?_)
  refine VO.cond rfl ⟨by omega,by omega⟩ (wV rfl ?_)
  refine VO.read rfl [.bool s2,.slice p2 n2 c2,.bool t2,.slice r2 m2 d2] rfl (fun j u hj=>by rw [Addr.add_mid,Int.toNat_natCast];exact hc j u hj) (wV rfl ?_)
  (repeat first|refine wN ?_|refine wP rfl ?_|refine aa rfl ?_|refine ab rfl ?_|refine wO rfl rfl ?_)
  refine VO.call rfl rfl kB (fun mW pV nI=>(hB s p' n c' t r m d mW).mono ?_)
  rintro e w4 ⟨rfl,gI⟩
  refine ⟨_,rfl,gI,fun oL _ AM=>wV rfl ?_⟩
  (repeat first|refine wN ?_|refine wP rfl ?_|refine aa rfl ?_|refine ab rfl ?_|refine wO rfl rfl ?_)
  refine VO.call rfl rfl kL (fun jK mD jy=>(hL _ _ (jG better q0 (qs.take i)) q _ k jK ((ho.kp (oL.aI mD)).in hz) (tY.kp (Kp.of (U:=UU) jy)) zk (by omega)).mono ?_)
  rintro e w5 ⟨rfl,fY⟩
  refine ⟨_,rfl,fY,fun mX _ vQ=>wV rfl ?_⟩
  (repeat first|refine wN ?_|refine wP rfl ?_|refine aa rfl ?_|refine ab rfl ?_|refine wO rfl rfl ?_)
  have hsn:=FE (better:=better) (x:=q0) hq
  cases hbt:better q (jG better q0 (qs.take i))
  ·rw [hbt] at hsn
   refine VS.bK rfl rfl ?_
   (repeat first|refine wN ?_|refine wP rfl ?_|refine aa rfl ?_|refine ab rfl ?_|refine wO rfl rfl ?_)
   refine VS.back (N - (i + 1)) (by omega) ⟨_,_,?_,?_,?_,?_,⟨i + 1,s,p',n,c',t,r,m,d,by omega,rfl,rfl,rfl,(ho.kp (oL.aI mX)).cast hsn.symm,by rw [hsn];exact hz⟩⟩
   ·refine ⟨rfl,rfl,?_,rfl,rfl,rfl,trivial⟩
    rw [←dK (by omega)];rfl
   ·(repeat first|exact trivial|refine ⟨rfl,?_⟩)
   ·rfl
   ·(repeat first|exact trivial|refine ⟨ba.lit rfl,?_⟩|refine ⟨ba.vals _,?_⟩)
  ·rw [hbt] at hsn
   refine VS.bG rfl rfl ?_
   (repeat first|refine wN ?_|refine wP rfl ?_|refine aa rfl ?_|refine ab rfl ?_|refine wO rfl rfl ?_)
   refine VO.call rfl rfl (fk Tryz.func40) (fun pW uC uZ=>(cC _ q k pW (tY.kp (Kp.of (U:=UU) uZ)) (by omega)).mono ?_)
   rintro e w6 ⟨r6,rfl,q6,ny⟩
   obtain ⟨s6,p6,n6,c6,t6,y6,m6,d6,rfl⟩:=q6.form
   refine ⟨_,rfl,ny,fun tD _ Dl=>wV rfl ?_⟩
   (repeat first|refine wN ?_|refine wP rfl ?_|refine aa rfl ?_|refine ab rfl ?_|refine wO rfl rfl ?_)
   refine VO.call rfl rfl (fk Tryz.func44) (fun yH Em xE=>(bF 0 yH (by omega) (by omega)).mono ?_)
   rintro e w7 ⟨r7,rfl,q7,uX⟩
   obtain ⟨s7,p7,n7,c7,t7,y7,m7,d7,rfl⟩:=q7.form
   refine ⟨_,rfl,uX,fun zK _ bb7=>wV rfl ?_⟩
   (repeat first|refine wN ?_|refine wP rfl ?_|refine aa rfl ?_|refine ab rfl ?_|refine wO rfl rfl ?_)
   refine VO.call rfl rfl (fk Tryz.func45) (fun vc Fu yI=>(mo _ _ q ((0:Int):Rat) (nJ k) 1 vc (q6.kp (zK.aI Fu)) (q7.kp Fu).rd tY.Dr fo.zero zk (by omega)).mono ?_)
   rintro e w8 ⟨r8,rfl,q8,re⟩
   obtain ⟨s8,p8,n8,c8,t8,y8,m8,d8,rfl⟩:=q8.form
   refine ⟨_,rfl,re,fun vT _ JZ=>wV rfl ?_⟩
   (repeat first|refine wN ?_|refine wP rfl ?_|refine aa rfl ?_|refine ab rfl ?_|refine wO rfl rfl ?_)
   refine VS.back (N - (i + 1)) (by omega) ⟨_,_,?_,?_,?_,?_,⟨i + 1,s8,p8,n8,c8,t8,y8,m8,d8,by omega,rfl,rfl,rfl,(q8.mono yI.size).cast ((Rat.add_zero _).trans hsn.symm),by rw [hsn];exact tY.Dr⟩⟩
   ·refine ⟨rfl,rfl,?_,rfl,rfl,rfl,trivial⟩
    rw [←dK (by omega)];rfl
   ·(repeat first|exact trivial|refine ⟨rfl,?_⟩)
   ·rfl
   ·(repeat first|exact trivial|refine ⟨ba.lit rfl,?_⟩|refine ⟨ba.vals _,?_⟩)
 ·refine VS.bK rfl (decide_eq_false (fun e=>hlt (Int.ofNat_lt.1 e))) ?_
  (repeat first|refine wN ?_|refine wP rfl ?_|refine aa rfl ?_|refine ab rfl ?_|refine wO rfl rfl ?_)
  refine VS.ret (aJ _ _) rfl rfl (fun wz kz bz=> ?_)
  obtain rfl:i=N:=by omega
  rw [List.take_of_length_le (by omega)] at ho hz
  exact ⟨_,rfl,ho.kp kz,hz,bz⟩
theorem fO (u v:Value) (q0:Rat) (qs:List Rat) (k:Nat) (w:World) (hu:bO w u q0 k) (hv:jz w v qs k) (hk:k≤67108863) (hlen:qs.length < 9223372036854775807):
  Calls Tryz.prog 71 #[u,v] w fun e w'=>∃ x,e=.returned x∧aK w' w.heap.size x (jG uD q0 qs)∧fo (jG uD q0 qs) (nJ k)∧aj w w':=by
 obtain ⟨s,p,n,c,t,y,m,d,rfl⟩:=hu.form
 obtain ⟨P,cc,rfl,fH,fy⟩:=hv.form
 refine aw (C:=bP Tryz.prog w _) (args:=[_,_]) Tryz.func71 rfl Tryz.ntmps71 (Nat.le_of_ble_eq_true rfl) ?_
 (repeat first|refine wN ?_|refine wP rfl ?_|refine aa rfl ?_|refine ab rfl ?_|refine wO rfl rfl ?_)
 refine VO.call rfl rfl (fk Tryz.func106) (fun cB eu dt=>(uE 107 108 uD (fk Tryz.func107) (fk Tryz.func108) Dw Du _ _ q0 qs k cB (hu.kp eu) (hv.bk dt) hk hlen).mono ?_)
 rintro e w1 ⟨r1,rfl,q1,z1,aU⟩
 obtain ⟨s1,p1,n1,c1,t1,y1,m1,d1,rfl⟩:=q1.form
 refine ⟨_,rfl,aU,fun fq _ bb1=>wV rfl ?_⟩
 (repeat first|refine wN ?_|refine wP rfl ?_|refine aa rfl ?_|refine ab rfl ?_|refine wO rfl rfl ?_)
 refine VS.ret (aJ _ _) rfl rfl (fun wz kz bz=> ?_)
 exact ⟨_,rfl,(q1.kp kz).mono dt.size,z1,bz⟩
theorem FF (u v:Value) (q0:Rat) (qs:List Rat) (k:Nat) (w:World) (hu:bO w u q0 k) (hv:jz w v qs k) (hk:k≤67108863) (hlen:qs.length < 9223372036854775807):
  Calls Tryz.prog 104 #[u,v] w fun e w'=>∃ x,e=.returned x∧aK w' w.heap.size x (jG jF q0 qs)∧fo (jG jF q0 qs) (nJ k)∧aj w w':=by
 obtain ⟨s,p,n,c,t,y,m,d,rfl⟩:=hu.form
 obtain ⟨P,cc,rfl,fH,fy⟩:=hv.form
 refine aw (C:=bP Tryz.prog w _) (args:=[_,_]) Tryz.func104 rfl Tryz.ntmps104 (Nat.le_of_ble_eq_true rfl) ?_
 (repeat first|refine wN ?_|refine wP rfl ?_|refine aa rfl ?_|refine ab rfl ?_|refine wO rfl rfl ?_)
 refine VO.call rfl rfl (fk Tryz.func106) (fun cB eu dt=>(uE 127 128 jF (fk Tryz.func127) (fk Tryz.func128) Dx Dv _ _ q0 qs k cB (hu.kp eu) (hv.bk dt) hk hlen).mono ?_)
 rintro e w1 ⟨r1,rfl,q1,z1,aU⟩
 obtain ⟨s1,p1,n1,c1,t1,y1,m1,d1,rfl⟩:=q1.form
 refine ⟨_,rfl,aU,fun fq _ bb1=>wV rfl ?_⟩
 (repeat first|refine wN ?_|refine wP rfl ?_|refine aa rfl ?_|refine ab rfl ?_|refine wO rfl rfl ?_)
 refine VS.ret (aJ _ _) rfl rfl (fun wz kz bz=> ?_)
 exact ⟨_,rfl,(q1.kp kz).mono dt.size,z1,bz⟩
end Go.Proofs.YtabalinjfgcfeaaGreat
set_option maxRecDepth 4000
namespace Go.Proofs.YtabalinjfgcfeaaGreat
open Go.RowKit
attribute [local irreducible] aA VS
theorem Dy (w:World):Calls Tryz.prog 25 #[] w fun e w'=>∃ r,e=.returned r∧aK w' w.heap.size r 0∧aj w w':=by
 refine aw (C:=bP Tryz.prog w _) (args:=[]) Tryz.func25 rfl Tryz.ntmps25 (Nat.le_of_ble_eq_true rfl) ?_
 (repeat first|refine wN ?_|refine wP rfl ?_|refine aa rfl ?_|refine ab rfl ?_|refine wO rfl rfl ?_)
 refine VO.call rfl rfl (fk Tryz.func59) (fun cB eu dt=>(pC 0 cB (by omega) (by omega)).mono ?_)
 rintro e w1 ⟨r1,rfl,q1,aU⟩
 obtain ⟨s1,p1,n1,c1,rfl⟩:=q1.form
 refine ⟨_,rfl,aU,fun fq _ bb1=>wV rfl ?_⟩
 (repeat first|refine wN ?_|refine wP rfl ?_|refine aa rfl ?_|refine ab rfl ?_|refine wO rfl rfl ?_)
 refine VO.call rfl rfl (fk Tryz.func59) (fun dR gS eW=>(pC 1 dR (by omega) (by omega)).mono ?_)
 rintro e w2 ⟨r2,rfl,q2,bn⟩
 obtain ⟨s2,p2,n2,c2,rfl⟩:=q2.form
 refine ⟨_,rfl,bn,fun gw _ bb2=>wV rfl ?_⟩
 (repeat first|refine wN ?_|refine wP rfl ?_|refine aa rfl ?_|refine ab rfl ?_|refine wO rfl rfl ?_)
 refine VS.ret (aJ _ _) rfl rfl (fun wz kz bz=> ?_)
 exact ⟨_,rfl,⟨_,_,_,_,_,_,_,_,rfl,(q1.kp (gw.aI kz)).mono dt.size,(q2.kp kz).mono eW.size⟩,bz⟩
theorem LZ {X Y:Int}:Rat.divInt X Y=Rat.divInt (-X) (-Y):=(Rat.neg_divInt_neg X Y).symm
set_option maxHeartbeats 1000000 in
theorem FG (v u:Value) (X Y:Int) (j k:Nat) (w:World) (hv:bS w v X j) (hu:bS w u Y k) (hj:j≤134217728) (hk:k≤134217728):
  Calls Tryz.prog 61 #[v,u] w fun e w'=>∃ r,e=.returned (.tuple #[r,.int .i64 (Dq Y)])∧aK w' w.heap.size r (Rat.divInt X Y)∧aj w w':=by
 obtain ⟨s,p,n,c,rfl⟩:=hv.form
 obtain ⟨t,r,m,d,rfl⟩:=hu.form
 refine aw (C:=bP Tryz.prog w _) (args:=[_,_]) Tryz.func61 rfl Tryz.ntmps61 (Nat.le_of_ble_eq_true rfl) ?_
 (repeat first|refine wN ?_|refine wP rfl ?_|refine aa rfl ?_|refine ab rfl ?_|refine wO rfl rfl ?_)
 refine VO.call rfl rfl (fk Tryz.func89) (fun cB eu dt=>(cR _ Y k cB (hu.bk dt) (by omega)).mono ?_)
 rintro e w1 ⟨rfl,aU⟩
 by_cases hY:Y=0
 ·rw [show Y.sign=0 by rw [hY];rfl]
  refine ⟨_,rfl,aU,fun fq _ bb1=>wV rfl ?_⟩
  (repeat first|refine wN ?_|refine wP rfl ?_|refine aa rfl ?_|refine ab rfl ?_|refine wO rfl rfl ?_)
  refine VO.call rfl rfl (fk Tryz.func25) (fun dR gS eW=>(Dy dR).mono ?_)
  rintro e w2 ⟨r2,rfl,h2,bn⟩
  obtain ⟨s2,p2,n2,c2,t2,y2,m2,d2,rfl⟩:=h2.form
  refine ⟨_,rfl,bn,fun gw _ bb2=>wV rfl ?_⟩
  (repeat first|refine wN ?_|refine wP rfl ?_|refine aa rfl ?_|refine ab rfl ?_|refine wO rfl rfl ?_)
  refine VS.ret (aJ _ _) rfl rfl (fun wz kz bz=> ?_)
  refine ⟨_,by rw [Dq,if_pos hY];rfl,?_,bz⟩
  rw [hY,Rat.divInt_zero]
  exact (h2.kp kz).mono eW.size
 ·rcases Int.lt_or_lt_of_ne hY with q | q
  ·rw [sign_neg q]
   refine ⟨_,rfl,aU,fun fq _ bb1=>wV rfl ?_⟩
   (repeat first|refine wN ?_|refine wP rfl ?_|refine aa rfl ?_|refine ab rfl ?_|refine wO rfl rfl ?_)
   refine VO.call rfl rfl (fk Tryz.func89) (fun dR gS eW=>(cR _ Y k dR (hu.bk eW) (by omega)).mono ?_)
   rintro e w2 ⟨rfl,bn⟩
   rw [sign_neg q]
   refine ⟨_,rfl,bn,fun gw _ bb2=>wV rfl ?_⟩
   (repeat first|refine wN ?_|refine wP rfl ?_|refine aa rfl ?_|refine ab rfl ?_|refine wO rfl rfl ?_)
   refine VO.call rfl rfl (fk Tryz.func93) (fun gY iD jd=>(xy _ X j gY (hv.bk jd) (by omega)).mono ?_)
   rintro e w3 ⟨r3,rfl,h3,cI⟩
   obtain ⟨s3,p3,n3,c3,rfl⟩:=h3.form
   refine ⟨_,rfl,cI,fun kS _ bb3=>wV rfl ?_⟩
   (repeat first|refine wN ?_|refine wP rfl ?_|refine aa rfl ?_|refine ab rfl ?_|refine wO rfl rfl ?_)
   refine VO.call rfl rfl (fk Tryz.func93) (fun mW pV nI=>(xy _ Y k mW (hu.bk nI) (by omega)).mono ?_)
   rintro e w4 ⟨r4,rfl,h4,gI⟩
   obtain ⟨s4,p4,n4,c4,rfl⟩:=h4.form
   refine ⟨_,rfl,gI,fun oL _ AM=>wV rfl ?_⟩
   (repeat first|refine wN ?_|refine wP rfl ?_|refine aa rfl ?_|refine ab rfl ?_|refine wO rfl rfl ?_)
   have z3:Sz (-X) j:=Sz.neg hv.len
   have z4:Sz (-Y) k:=Sz.neg hu.len
   obtain ⟨l1,l2⟩:=vP (X:= -X) (Y:= -Y) (by omega)
   have LY:Sz (Int.gcd (-X) (-Y):Int) k:=Fz z4 (by omega)
   have Lu:(Int.gcd (-X) (-Y):Int)≠0:=by
    intro e
    have:=(Int.gcd_eq_zero_iff.1 (show Int.gcd (-X) (-Y)=0 by omega)).2
    omega
   refine VO.call rfl rfl (fk Tryz.func94) (fun jK mD jy=>(Dn _ _ (-X) (-Y) j k jK ((h3.kp (oL.aI mD)).in z3) ((h4.kp mD).in z4) (by omega) (by omega)).mono ?_)
   rintro e w5 ⟨r5,rfl,h5,fY⟩
   obtain ⟨s5,p5,n5,c5,rfl⟩:=h5.form
   refine ⟨_,rfl,fY,fun mX _ vQ=>wV rfl ?_⟩
   (repeat first|refine wN ?_|refine wP rfl ?_|refine aa rfl ?_|refine ab rfl ?_|refine wO rfl rfl ?_)
   refine VO.call rfl rfl (fk Tryz.func95) (fun pW uC uZ=>(kZ _ _ (-X) (Int.gcd (-X) (-Y):Int) j k pW ((h3.kp (oL.aI (mX.aI uC))).in z3) ((h5.kp uC).in LY) (by omega) (by omega)).mono ?_)
   rintro e w6 ⟨hd6,ny⟩
   obtain ⟨v6,u6,rfl,h6,h6'⟩:=eI hd6 Lu
   obtain ⟨s6,p6,n6,c6,rfl⟩:=h6.form
   obtain ⟨t6,r6,m6,d6,rfl⟩:=h6'.form
   refine ⟨_,rfl,ny,fun tD _ Dl=>wV rfl ?_⟩
   (repeat first|refine wN ?_|refine wP rfl ?_|refine aa rfl ?_|refine ab rfl ?_|refine wO rfl rfl ?_)
   refine VO.call rfl rfl (fk Tryz.func95) (fun yH Em xE=>(kZ _ _ (-Y) (Int.gcd (-X) (-Y):Int) k k yH ((h4.kp (mX.aI (tD.aI Em))).in z4) ((h5.kp (tD.aI Em)).in LY) (by omega) (by omega)).mono ?_)
   rintro e w7 ⟨hd7,uX⟩
   obtain ⟨v7,u7,rfl,h7,h7'⟩:=eI hd7 Lu
   obtain ⟨s7,p7,n7,c7,rfl⟩:=h7.form
   obtain ⟨t7,r7,m7,d7,rfl⟩:=h7'.form
   refine ⟨_,rfl,uX,fun zK _ bb7=>wV rfl ?_⟩
   (repeat first|refine wN ?_|refine wP rfl ?_|refine aa rfl ?_|refine ab rfl ?_|refine wO rfl rfl ?_)
   refine VS.ret (aJ _ _) rfl rfl (fun wz kz bz=> ?_)
   rw [LZ]
   exact ⟨_,by rw [Dq,if_neg hY];rfl,⟨_,_,_,_,_,_,_,_,rfl,aE.cast ((h6.kp (zK.aI kz)).mono uZ.size) l1,aE.cast ((h7.kp kz).mono xE.size) l2⟩,bz⟩
  ·rw [eZ q]
   refine ⟨_,rfl,aU,fun fq _ bb1=>wV rfl ?_⟩
   (repeat first|refine wN ?_|refine wP rfl ?_|refine aa rfl ?_|refine ab rfl ?_|refine wO rfl rfl ?_)
   refine VO.call rfl rfl (fk Tryz.func89) (fun dR gS eW=>(cR _ Y k dR (hu.bk eW) (by omega)).mono ?_)
   rintro e w2 ⟨rfl,bn⟩
   rw [eZ q]
   refine ⟨_,rfl,bn,fun gw _ bb2=>wV rfl ?_⟩
   (repeat first|refine wN ?_|refine wP rfl ?_|refine aa rfl ?_|refine ab rfl ?_|refine wO rfl rfl ?_)
   obtain ⟨l1,l2⟩:=vP (X:=X) (Y:=Y) q
   have LY:Sz (Int.gcd X Y:Int) k:=Fz hu.len hY
   have Lu:(Int.gcd X Y:Int)≠0:=by
    intro e
    have:=(Int.gcd_eq_zero_iff.1 (show Int.gcd X Y=0 by omega)).2
    omega
   refine VO.call rfl rfl (fk Tryz.func94) (fun jK mD jy=>(Dn _ _ X Y j k jK (hv.bk jy) (hu.bk jy) (by omega) (by omega)).mono ?_)
   rintro e w5 ⟨r5,rfl,h5,fY⟩
   obtain ⟨s5,p5,n5,c5,rfl⟩:=h5.form
   refine ⟨_,rfl,fY,fun mX _ vQ=>wV rfl ?_⟩
   (repeat first|refine wN ?_|refine wP rfl ?_|refine aa rfl ?_|refine ab rfl ?_|refine wO rfl rfl ?_)
   refine VO.call rfl rfl (fk Tryz.func95) (fun pW uC uZ=>(kZ _ _ X (Int.gcd X Y:Int) j k pW (hv.bk uZ) ((h5.kp uC).in LY) (by omega) (by omega)).mono ?_)
   rintro e w6 ⟨hd6,ny⟩
   obtain ⟨v6,u6,rfl,h6,h6'⟩:=eI hd6 Lu
   obtain ⟨s6,p6,n6,c6,rfl⟩:=h6.form
   obtain ⟨t6,r6,m6,d6,rfl⟩:=h6'.form
   refine ⟨_,rfl,ny,fun tD _ Dl=>wV rfl ?_⟩
   (repeat first|refine wN ?_|refine wP rfl ?_|refine aa rfl ?_|refine ab rfl ?_|refine wO rfl rfl ?_)
   refine VO.call rfl rfl (fk Tryz.func95) (fun yH Em xE=>(kZ _ _ Y (Int.gcd X Y:Int) k k yH (hu.bk xE) ((h5.kp (tD.aI Em)).in LY) (by omega) (by omega)).mono ?_)
   rintro e w7 ⟨hd7,uX⟩
   obtain ⟨v7,u7,rfl,h7,h7'⟩:=eI hd7 Lu
   obtain ⟨s7,p7,n7,c7,rfl⟩:=h7.form
   obtain ⟨t7,r7,m7,d7,rfl⟩:=h7'.form
   refine ⟨_,rfl,uX,fun zK _ bb7=>wV rfl ?_⟩
   (repeat first|refine wN ?_|refine wP rfl ?_|refine aa rfl ?_|refine ab rfl ?_|refine wO rfl rfl ?_)
   refine VS.ret (aJ _ _) rfl rfl (fun wz kz bz=> ?_)
   exact ⟨_,by rw [Dq,if_neg hY];rfl,⟨_,_,_,_,_,_,_,_,rfl,aE.cast ((h6.kp (zK.aI kz)).mono uZ.size) l1,aE.cast ((h7.kp kz).mono xE.size) l2⟩,bz⟩
theorem Jn (n d:Int) (w:World) (h0: -9223372036854775808≤n) (h1:n≤9223372036854775807) (g0: -9223372036854775808≤d) (g1:d≤9223372036854775807):
  Calls Tryz.prog 66 #[.int .i64 n,.int .i64 d] w fun e w'=>∃ r,e=.returned (.tuple #[r,.int .i64 (Dq d)])∧aK w' w.heap.size r (Rat.divInt n d)∧aj w w':=by
 refine aw (C:=bP Tryz.prog w _) (args:=[_,_]) Tryz.func66 rfl Tryz.ntmps66 (Nat.le_of_ble_eq_true rfl) ?_
 (repeat first|refine wN ?_|refine wP rfl ?_|refine aa rfl ?_|refine ab rfl ?_|refine wO rfl rfl ?_)
 refine VO.call rfl rfl (fk Tryz.func59) (fun cB eu dt=>(pC n cB h0 h1).mono ?_)
 rintro e w1 ⟨r1,rfl,q1,aU⟩
 obtain ⟨s1,p1,n1,c1,rfl⟩:=q1.form
 refine ⟨_,rfl,aU,fun fq _ bb1=>wV rfl ?_⟩
 (repeat first|refine wN ?_|refine wP rfl ?_|refine aa rfl ?_|refine ab rfl ?_|refine wO rfl rfl ?_)
 refine VO.call rfl rfl (fk Tryz.func59) (fun dR gS eW=>(pC d dR g0 g1).mono ?_)
 rintro e w2 ⟨r2,rfl,q2,bn⟩
 obtain ⟨s2,p2,n2,c2,rfl⟩:=q2.form
 refine ⟨_,rfl,bn,fun gw _ bb2=>wV rfl ?_⟩
 (repeat first|refine wN ?_|refine wP rfl ?_|refine aa rfl ?_|refine ab rfl ?_|refine wO rfl rfl ?_)
 refine VO.call rfl rfl (fk Tryz.func61) (fun gY iD jd=>(FG _ _ n d 2 2 gY ((q1.kp (gw.aI iD)).in (Sz.of_lt (by omega))) ((q2.kp iD).in (Sz.of_lt (by omega))) (by omega) (by omega)).mono ?_)
 rintro e w3 ⟨r3,rfl,q3,cI⟩
 obtain ⟨s3,p3,n3,c3,t3,x3,m3,d3,rfl⟩:=q3.form
 refine ⟨_,rfl,cI,fun kS _ bb3=>wV rfl ?_⟩
 (repeat first|refine wN ?_|refine wP rfl ?_|refine aa rfl ?_|refine ab rfl ?_|refine wO rfl rfl ?_)
 refine VS.ret (aJ _ _) rfl rfl (fun wz kz bz=> ?_)
 exact ⟨_,rfl,(q3.kp kz).mono jd.size,bz⟩
end Go.Proofs.YtabalinjfgcfeaaGreat
namespace Go.Proofs.YtabalinjfgcfeaaGreat
open Go.RowKit
attribute [local irreducible] aA VS
theorem cT (v u:Value) (q r:Rat) (k l:Nat) (w:World) (hv:bO w v q k) (hu:bO w u r l) (hk:k≤67108864) (hl:l≤67108864) (c:Int) (hc:eG q r=c):
 Calls Tryz.prog 12 #[v,u] w fun e w'=>e=.returned (.int .i64 c)∧aj w w':=hc▸qR v u q r k l w hv hu hk hl
inductive cD (w:World) (k:Nat):List Rat→List (List Value)→Prop
 | nil:cD w k [] []
 | cons {s:Bool} {p:Option Addr} {n c:Nat} {t:Bool} {r:Option Addr} {m d:Nat} {q:Rat} {qs:List Rat} {vs:List (List Value)}:bO w (.agg #[.bool s,.slice p n c,.bool t,.slice r m d]) q k→cD w k qs vs→cD w k (q::qs) ([.bool s,.slice p n c,.bool t,.slice r m d]::vs)
theorem cD.four {w:World} {k:Nat} {qs:List Rat} {vs:List (List Value)} (h:cD w k qs vs):∀ v∈vs,v.length=4:=by
 induction h with
 | nil=>intro v hv;cases hv
 | cons _ _ ih=>
   intro v hv
   rcases List.mem_cons.1 hv with rfl | e
   ·rfl
   ·exact ih v e
theorem cD.at {w:World} {k:Nat} {qs:List Rat} {vs:List (List Value)} (h:cD w k qs vs):∀ (j:Nat) (q:Rat),qs[j]? =some q→∃ s p' n' c' t r m d,vs[j]? =some [Value.bool s,.slice p' n' c',.bool t,.slice r m d]∧bO w (.agg #[.bool s,.slice p' n' c',.bool t,.slice r m d]) q k:=by
 induction h with
 | nil=>intro j q hq;simp at hq
 | cons h1 _ ih=>
   intro j q hq
   cases j with
   | zero=>cases hq;exact ⟨_,_,_,_,_,_,_,_,rfl,h1⟩
   | succ j=>exact ih j q (by simpa using hq)
theorem flat_at:∀ (vs:List (List Value)) (j:Nat) (v:List Value),(∀ v∈vs,v.length=4)→vs[j]? =some v→∀ (o:Nat) (u:Value),v[o]? =some u→vs.flatten[j * 4 + o]? =some u:=by
 intro vs
 induction vs with
 | nil=>intro j v _ h;simp at h
 | cons x r ih=>
   intro j v hl h o u hu
   have hx:x.length=4:=hl x (by simp)
   cases j with
   | zero=>
     simp at h
     subst h
     have ho:o < 4:=by have:=(List.getElem?_eq_some_iff.1 hu).1;omega
     rw [List.flatten_cons,List.getElem?_append_left (by omega)]
     simpa using hu
   | succ j=>
     have h':r[j]? =some v:=by simpa using h
     rw [List.flatten_cons,List.getElem?_append_right (by omega),hx,show (j + 1) * 4 + o - 4=j * 4 + o by omega]
     exact ih j v (fun v hv=>hl v (by simp [hv])) h' o u hu
theorem eE {C:Cx} {β:Nat→Nat} {w:World} {i:Nat} {t:TypeId} {cs:List AV} {qs:List Rat} {k:Nat} {vs:List (List Value)} {n c:Nat} (h:lW C β w i t cs) (spare:List AV) (hcs:cs=vs.flatten.map .val++spare) (hn:n=qs.length) (hq:cD w k qs vs) (hc:n≤c) (fy:c≤maxLen):
  jz w (.slice (some ⟨β i,0,none⟩) n c) qs k:=by
 subst hn
 refine ⟨_,_,rfl,hc,fy,fun j q hj=> ?_⟩
 obtain ⟨s,p',n',c',t',r,m,d,hvj,tY⟩:=hq.at j q hj
 refine ⟨β i,0,s,p',n',c',t',r,m,d,rfl,fun o u hu=> ?_,tY⟩
 refine h.cls.cell ?_
 have:=flat_at vs j _ hq.four hvj o u hu
 rw [hcs,List.map_append,ah,List.getElem?_toArray,Nat.zero_add,List.getElem?_append_left (List.getElem?_eq_some_iff.1 this).1]
 exact this
theorem dL (v:Value) (q:Rat) (k:Nat) (w:World) (hv:bO w v q k) (hk:k≤536870912) (c:Int) (hc:eG q 0=c):
 Calls Tryz.prog 13 #[v] w fun e w'=>e=.returned (.int .i64 c)∧aj w w':=hc▸Ds v q k w hv hk
theorem eR.form' {w:World} {v:Value} {s t:Bool} {xs ys:List Nat} (h:eR w v s xs t ys):∃ p c r d,v=.agg #[.bool s,.slice p xs.length c,.bool t,.slice r ys.length d]∧True:=by
 obtain ⟨p,c,r,d,rfl,_⟩:=h
 exact ⟨_,_,_,_,rfl,trivial⟩
theorem jM {a b:Rat}:eG a b≤0↔a≤b:=by
 unfold eG
 split
 ·rename_i h;exact ⟨fun _=>Rat.le_of_lt h,fun _=>by omega⟩
 ·split
  ·rename_i h;exact ⟨fun _=>by rw [h];exact Rat.le_refl,fun _=>by omega⟩
  ·rename_i h1 h2;exact ⟨fun h=>by omega,fun h=>absurd (Rat.not_lt.1 h1) (fun h3=>h2 (Rat.le_antisymm h h3))⟩
theorem rZ {a b:Rat}:eG a b≥0↔b≤a:=by
 unfold eG
 split
 ·rename_i h;exact ⟨fun _=>by omega,fun h'=>absurd h (Rat.not_lt.2 h')⟩
 ·rename_i h
  split
  ·exact ⟨fun _=>Rat.not_lt.1 h,fun _=>by omega⟩
  ·exact ⟨fun _=>Rat.not_lt.1 h,fun _=>by omega⟩
theorem eV {a b:Rat} (h:a=b):eG a b=0:=by subst h;unfold eG;rw [if_neg (by exact Rat.lt_irrefl),if_pos rfl]
theorem zM {y x:Rat}:uD y x=true↔y < x:=by
 unfold uD eG
 by_cases h:y < x
 ·simp [h]
 ·simp only [h,if_false,iff_false];split <;> simp
theorem Jo {y x:Rat}:jF y x=true↔x < y:=by
 unfold jF
 rw [decide_eq_true_iff]
 constructor
 ·intro h
  exact Rat.not_le.1 (fun e=>by have:=jM.2 e;omega)
 ·intro h
  have:=mt jM.1 (Rat.not_le.2 h)
  omega
end Go.Proofs.YtabalinjfgcfeaaGreat
namespace Go.Proofs.YtabalinjfgcfeaaGreat
open Go.RowKit
structure mZ {α:Type} (E:World→List Value→α→Prop) (sz:Nat):Prop where
 kp:∀ {w w':World} {cs:List Value} {a:α},E w cs a→Kp UU w w'→E w' cs a
 len:∀ {w:World} {cs:List Value} {a:α},E w cs a→cs.length=sz
 ok:∀ {w:World} {cs:List Value} {a:α},E w cs a→cs.all aR=true
inductive cM {α:Type} (E:World→List Value→α→Prop) (w:World):List α→List (List Value)→Prop
 | nil:cM E w [] []
 | cons {a:α} {es:List α} {cs:List Value} {vs:List (List Value)}:E w cs a→cM E w es vs→cM E w (a::es) (cs::vs)
section
variable {α:Type} {E:World→List Value→α→Prop} {sz:Nat} {w w':World} {es:List α} {vs:List (List Value)}
theorem cM.kp (hE:mZ E sz) (h:cM E w es vs) (k:Kp UU w w'):cM E w' es vs:=by
 induction h with
 | nil=>exact .nil
 | cons h1 _ ih=>exact .cons (hE.kp h1 k) ih
theorem cM.at (h:cM E w es vs):∀ (j:Nat) (a:α),es[j]? =some a→∃ cs,vs[j]? =some cs∧E w cs a:=by
 induction h with
 | nil=>intro j q hq;simp at hq
 | cons h1 _ ih=>
   intro j q hq
   cases j with
   | zero=>cases hq;exact ⟨_,rfl,h1⟩
   | succ j=>exact ih j q (by simpa using hq)
theorem cM.append {es':List α} {gE:List (List Value)} (h:cM E w es vs) (h':cM E w es' gE):cM E w (es++es') (vs++gE):=by
 induction h with
 | nil=>exact h'
 | cons h1 _ ih=>exact .cons h1 ih
theorem cM.snoc {a:α} {cs:List Value} (h:cM E w es vs) (h':E w cs a):cM E w (es++[a]) (vs++[cs]):=h.append (.cons h' .nil)
theorem cM.ok (hE:mZ E sz) (h:cM E w es vs):vs.flatten.all aR=true∧vs.flatten.length=es.length * sz:=by
 induction h with
 | nil=>exact ⟨rfl,by simp⟩
 | cons h1 _ ih=>
   refine ⟨?_,?_⟩
   ·rw [List.flatten_cons,List.all_append,ih.1,hE.ok h1];rfl
   ·rw [List.flatten_cons,List.length_append,ih.2,hE.len h1,List.length_cons,Nat.add_mul,Nat.one_mul,Nat.add_comm]
theorem cM.cell (hE:mZ E sz) (h:cM E w es vs):∀ (j:Nat) (cs:List Value),vs[j]? =some cs→∀ (o:Nat) (u:Value),cs[o]? =some u→vs.flatten[j * sz + o]? =some u:=by
 induction h with
 | nil=>intro j v h;simp at h
 | @cons a es cs vs h1 _ ih=>
   intro j v h o u hu
   have hx:=hE.len h1
   cases j with
   | zero=>
     simp at h
     subst h
     have ho:o < sz:=by have:=(List.getElem?_eq_some_iff.1 hu).1;omega
     rw [List.flatten_cons,Nat.zero_mul,Nat.zero_add,List.getElem?_append_left (by omega)]
     exact hu
   | succ j=>
     rw [List.flatten_cons,List.getElem?_append_right (by rw [Nat.add_mul];omega)]
     have:=ih j v (by simpa using h) o u hu
     rw [←this]
     congr 1
     rw [Nat.add_mul]
     omega
def er (E:World→List Value→α→Prop) (sz:Nat) (w:World) (v:Value) (es:List α):Prop:=
 ∃ p c,v=.slice p es.length c∧es.length≤c∧c≤maxLen∧∀ (i:Nat) (a:α),es[i]? =some a→∃ b off cs,p=some ⟨b,off,none⟩∧(∀ (j:Nat) (u:Value),cs[j]? =some u→w.cell? ⟨b,off + i * sz + j,none⟩=some u)∧E w cs a
theorem er.form {v:Value} (h:er E sz w v es):∃ p c,v=.slice p es.length c∧es.length≤c∧c≤9223372036854775807:=by
 obtain ⟨p,c,hv,h1,h2,_⟩:=h
 exact ⟨p,c,hv,h1,by simpa [maxLen] using h2⟩
theorem er.at {p:Option Addr} {n c i:Nat} {a:α} (h:er E sz w (.slice p n c) es) (hq:es[i]? =some a):∃ b off cs,p=some ⟨b,off,none⟩∧(∀ (j:Nat) (u:Value),cs[j]? =some u→w.cell? ⟨b,off + i * sz + j,none⟩=some u)∧E w cs a:=by
 obtain ⟨p',c',hv,h1,h2,h3⟩:=h
 cases hv
 exact h3 i a hq
theorem er.bk (hE:mZ E sz) {v:Value} (h:er E sz w v es) (hb:aj w w'):er E sz w' v es:=by
 obtain ⟨p,c,hv,h1,h2,h3⟩:=h
 refine ⟨p,c,hv,h1,h2,fun i q hq=> ?_⟩
 obtain ⟨b,off,cs,hp,hc,hr⟩:=h3 i q hq
 exact ⟨b,off,cs,hp,fun j u hj=>hb.cell (hc j u hj),hE.kp hr (Kp.of hb)⟩
theorem er.mono {E':World→List Value→α→Prop} {v:Value} (h:er E sz w v es) (hm:∀ (i:Nat) (a:α) (cs:List Value),es[i]? =some a→E w cs a→E' w cs a):er E' sz w v es:=by
 obtain ⟨p,c,hv,h1,h2,h3⟩:=h
 refine ⟨p,c,hv,h1,h2,fun i q hq=> ?_⟩
 obtain ⟨b,off,cs,hp,hc,hr⟩:=h3 i q hq
 exact ⟨b,off,cs,hp,hc,hm i q cs hq hr⟩
theorem er.nil (w:World) (E:World→List Value→α→Prop) (sz:Nat):er E sz w (.slice none 0 0) []:=⟨none,0,rfl,Nat.le_refl _,by decide,fun i q hq=>by simp at hq⟩
theorem cM.lens (hE:mZ E sz) (h:cM E w es vs):∀ v∈vs,v.length=sz:=by
 induction h with
 | nil=>intro v hv;cases hv
 | cons h1 _ ih=>
   intro v hv
   rcases List.mem_cons.1 hv with rfl | e
   ·exact hE.len h1
   ·exact ih v e
theorem Jp (hE:mZ E sz) {b n c:Nat} {t:TypeId} {spare:List Value} (h:aV w b t (vs.flatten++spare).toArray) (hr:cM E w es vs) (hn:n=es.length) (hc:n≤c) (hm:c≤9223372036854775807):er E sz w (.slice (some ⟨b,0,none⟩) n c) es:=by
 subst hn
 refine ⟨_,_,rfl,hc,by simpa [maxLen] using hm,fun i a ha=> ?_⟩
 obtain ⟨cs,h1,h2⟩:=hr.at i a ha
 refine ⟨b,0,cs,rfl,fun j u hj=> ?_,h2⟩
 have:=hr.cell hE i cs h1 j u hj
 refine h.cell ?_
 rw [List.getElem?_toArray,Nat.zero_add,List.getElem?_append_left (List.getElem?_eq_some_iff.1 this).1]
 exact this
theorem na (hE:mZ E sz) {C:Cx} {β:Nat→Nat} {i n c:Nat} {t:TypeId} {cs:List AV} (h:lW C β w i t cs) (spare:List AV) (hcs:cs=vs.flatten.map .val++spare) (hr:cM E w es vs) (hn:n=es.length) (hc:n≤c) (hm:c≤9223372036854775807):
  er E sz w (.slice (some ⟨β i,0,none⟩) n c) es:=by
 refine Jp hE (spare:=spare.map (AV.leaf β)) (t:=t) ?_ hr hn hc hm
 have:=h.cls
 rw [hcs,List.map_append,ah] at this
 exact this
end
section
variable {C:Cx} {F:Fr} {H:Hp} {w:World} {m:Option (List FuncId)} {full:Array Oper} {K:Fr→Hp→World→Prop} {o:Oper} {r:List Oper}
end
theorem AU {n d:Int} (h0: -9223372036854775808≤n) (h1:n≤9223372036854775807) (g0: -9223372036854775808≤d) (g1:d≤9223372036854775807):fo (Rat.divInt n d) 2:=by
 by_cases hd:d=0
 ·rw [hd,Rat.divInt_zero];exact fo.zero.mono (by omega)
 ·exact mn (Sz.of_lt (by omega)) (Sz.of_lt (by omega)) hd
end Go.Proofs.YtabalinjfgcfeaaGreat
set_option maxRecDepth 4000
namespace Go.Proofs.YtabalinjfgcfeaaGreat
open Go.RowKit
attribute [local irreducible] aA VS
theorem sa (xs:List Nat) (v:Value) (n:Nat) (w:World) (hr:Rd w 1 v n (ints .u32 xs)) (hn:n≤1073741824):
  Calls Tryz.prog 64 #[v] w fun e w'=>∃ p c,e=.returned (.slice p n c)∧w'.ownsRow w.heap.size UU 1 (.slice p n c) n (ints .u32 xs)∧aj w w':=by
 obtain ⟨p,c,rfl,ji⟩:∃ p c,v=.slice p n c∧True:=by
  obtain ⟨p,c,hv,_⟩:=hr
  exact ⟨p,c,hv,trivial⟩
 refine aw (C:=bP Tryz.prog w _) (args:=[_]) Tryz.func64 rfl Tryz.ntmps64 (Nat.le_of_ble_eq_true rfl) ?_
 (repeat first|refine wN ?_|refine wP rfl ?_|refine aa rfl ?_|refine ab rfl ?_|refine wO rfl rfl ?_)
 refine VO.appU (aJ _ _) (t:=22) (e:=117) (n:=n) (news:=ints .u32 xs) rfl rfl rfl rfl rfl (lQ .u32 xs) (by omega) (fun w1 k1 b1=>hr.below b1) (fun w2 p2 c2 k2 b2 ho=>wV rfl ?_)
 (repeat first|refine wN ?_|refine wP rfl ?_|refine aa rfl ?_|refine ab rfl ?_|refine wO rfl rfl ?_)
 refine VS.ret (aJ _ _) rfl rfl (fun wz kz bz=> ?_)
 exact ⟨_,_,rfl,Own.kp ho kz,bz⟩
theorem eX.fil {w:World} {s:Bool} {p:Option Addr} {xs:List Nat} {c:Nat} (h:eX w (.agg #[.bool s,.slice p xs.length c]) s xs):Rd w 1 (.slice p xs.length c) xs.length (ints .u32 xs)∧cd xs:=by
 obtain ⟨p',c',hv,hr,hl⟩:=h
 simp only [Value.agg.injEq,Array.mk.injEq,List.cons.injEq,and_true,true_and,Value.slice.injEq] at hv
 obtain ⟨rfl,rfl⟩:=hv
 exact ⟨hr,hl⟩
def oQ (w:World) (B:Nat) (v:Value) (s:Bool) (xs:List Nat) (t:Bool) (ys:List Nat):Prop:=
 ∃ p c r d,v=.agg #[.bool s,.slice p xs.length c,.bool t,.slice r ys.length d]∧w.ownsRow B UU 1 (.slice p xs.length c) xs.length (ints .u32 xs)∧w.ownsRow B UU 1 (.slice r ys.length d) ys.length (ints .u32 ys)∧cd xs∧cd ys
theorem oQ.raw {w:World} {B:Nat} {v:Value} {s:Bool} {xs:List Nat} {t:Bool} {ys:List Nat} (h:oQ w B v s xs t ys):eR w v s xs t ys:=by
 obtain ⟨p,c,r,d,hv,h1,h2,h3,h4⟩:=h
 exact ⟨p,c,r,d,hv,⟨_,_,rfl,Rd.own h1,h3⟩,⟨_,_,rfl,Rd.own h2,h4⟩⟩
theorem oQ.kp {T:TypeId→Bool} {w w':World} {B:Nat} {v:Value} {s:Bool} {xs:List Nat} {t:Bool} {ys:List Nat} (h:oQ w B v s xs t ys) (k:aF ⟨UU,fun _=>True,T⟩ w w'):oQ w' B v s xs t ys:=by
 obtain ⟨p,c,r,d,hv,h1,h2,h3,h4⟩:=h
 exact ⟨p,c,r,d,hv,Own.kp h1 k,Own.kp h2 k,h3,h4⟩
theorem oQ.own {w:World} {B:Nat} {v:Value} {q:Rat} (h:oQ w B v (decide (q.num < 0)) (limbs q.num.natAbs) (decide ((q.den:Int) < 0)) (limbs (q.den:Int).natAbs)):aK w B v q:=by
 obtain ⟨p,c,r,d,rfl,h1,h2,h3,h4⟩:=h
 exact ⟨_,p,_,c,_,r,_,d,rfl,⟨_,_,rfl,h1⟩,⟨_,_,rfl,h2⟩⟩
theorem Jq (s t:Bool) (xs ys:List Nat) (v:Value) (w:World) (h:eR w v s xs t ys) (hx:xs.length≤1073741824) (hy:ys.length≤1073741824):
  Calls Tryz.prog 67 #[v] w fun e w'=>∃ r,e=.returned r∧oQ w' w.heap.size r s xs t ys∧aj w w':=by
 obtain ⟨p,c,r,d,rfl,h1,h2⟩:=h
 refine aw (C:=bP Tryz.prog w _) (args:=[_]) Tryz.func67 rfl Tryz.ntmps67 (Nat.le_of_ble_eq_true rfl) ?_
 (repeat first|refine wN ?_|refine wP rfl ?_|refine aa rfl ?_|refine ab rfl ?_|refine wO rfl rfl ?_)
 refine VO.call rfl rfl (fk Tryz.func64) (fun cB eu dt=>(sa xs _ _ cB (h1.bk dt).fil.1 hx).mono ?_)
 rintro e w1 ⟨p1,c1,rfl,q1,aU⟩
 skip
 refine ⟨_,rfl,aU,fun fq _ bb1=>wV rfl ?_⟩
 (repeat first|refine wN ?_|refine wP rfl ?_|refine aa rfl ?_|refine ab rfl ?_|refine wO rfl rfl ?_)
 refine VO.call rfl rfl (fk Tryz.func64) (fun dR gS eW=>(sa ys _ _ dR (h2.bk eW).fil.1 hy).mono ?_)
 rintro e w2 ⟨p2,c2,rfl,q2,bn⟩
 skip
 refine ⟨_,rfl,bn,fun gw _ bb2=>wV rfl ?_⟩
 (repeat first|refine wN ?_|refine wP rfl ?_|refine aa rfl ?_|refine ab rfl ?_|refine wO rfl rfl ?_)
 refine VS.ret (aJ _ _) rfl rfl (fun wz kz bz=> ?_)
 exact ⟨_,rfl,⟨_,_,_,_,rfl,Own.kp (Own.mono q1 dt.size) (gw.aI kz),Own.kp (Own.mono q2 eW.size) kz,h1.fil.2,h2.fil.2⟩,bz⟩
theorem dV (n d:Int) (w:World) (h0: -9223372036854775808≤n) (h1:n≤9223372036854775807) (g0: -9223372036854775808≤d) (g1:d≤9223372036854775807):
  Calls Tryz.prog 31 #[.int .i64 n,.int .i64 d] w fun e w'=>∃ r,e=.returned r∧aK w' w.heap.size r (Rat.divInt n d)∧aj w w':=by
 refine aw (C:=bP Tryz.prog w _) (args:=[_,_]) Tryz.func31 rfl Tryz.ntmps31 (Nat.le_of_ble_eq_true rfl) ?_
 (repeat first|refine wN ?_|refine wP rfl ?_|refine aa rfl ?_|refine ab rfl ?_|refine wO rfl rfl ?_)
 refine VO.call rfl rfl (fk Tryz.func66) (fun cB eu dt=>(Jn n d cB h0 h1 g0 g1).mono ?_)
 rintro e w1 ⟨r1,rfl,q1,aU⟩
 obtain ⟨s1,p1,n1,c1,t1,y1,m1,d1,rfl⟩:=q1.form
 refine ⟨_,rfl,aU,fun fq _ bb1=>wV rfl ?_⟩
 (repeat first|refine wN ?_|refine wP rfl ?_|refine aa rfl ?_|refine ab rfl ?_|refine wO rfl rfl ?_)
 have hsz:(limbs (Rat.divInt n d).num.natAbs).length≤4∧(limbs ((Rat.divInt n d).den:Int).natAbs).length≤4:=by
  by_cases hd:d=0
  ·rw [hd,Rat.divInt_zero];exact ⟨fo.zero.1.mono (by omega),fo.zero.2.mono (by omega)⟩
  ·have h:=mn (X:=n) (Y:=d) (k:=2) (l:=2) (Sz.of_lt (by omega)) (Sz.of_lt (by omega)) hd
   exact ⟨h.1.mono (by omega),h.2.mono (by omega)⟩
 refine VO.call rfl rfl (fk Tryz.func67) (fun dR gS eW=>(Jq _ _ _ _ _ dR (q1.kp (by (with_reducible (repeat (first | assumption | exact kU _ | exact kR _ | exact Kp.of (U:=UU) (by assumption) | exact aF.of (by assumption) | refine kT ?_ (by assumption)))))).rd.raw (by omega) (by omega)).mono ?_)
 rintro e w2 ⟨r2,rfl,q2,bn⟩
 obtain ⟨p2,c2,y2,d2,rfl,_⟩:=q2.raw.form'
 refine ⟨_,rfl,bn,fun gw _ bb2=>wV rfl ?_⟩
 (repeat first|refine wN ?_|refine wP rfl ?_|refine aa rfl ?_|refine ab rfl ?_|refine wO rfl rfl ?_)
 refine VS.ret (aJ _ _) rfl rfl (fun wz kz bz=> ?_)
 exact ⟨_,rfl,((q2.kp kz).own).mono eW.size,bz⟩
end Go.Proofs.YtabalinjfgcfeaaGreat
namespace Go.Proofs.YtabalinjfgcfeaaGreat
open Go.RowKit
section
variable {T:TypeId→Bool} {w w':World} {v:Value} {q:Rat} {X:Int} {B n:Nat}
theorem bO.k (h:bO w v q n) (k:aF ⟨UU,fun _=>True,T⟩ w w':=by (with_reducible (repeat (first | assumption | exact kU _ | exact kR _ | exact Kp.of (U:=UU) (by assumption) | exact aF.of (by assumption) | refine kT ?_ (by assumption))))):bO w' v q n:=h.kp k
theorem cP.k (h:cP w v q) (k:aF ⟨UU,fun _=>True,T⟩ w w':=by (with_reducible (repeat (first | assumption | exact kU _ | exact kR _ | exact Kp.of (U:=UU) (by assumption) | exact aF.of (by assumption) | refine kT ?_ (by assumption))))):cP w' v q:=h.kp k
theorem aK.k (h:aK w B v q) (k:aF ⟨UU,fun _=>True,T⟩ w w':=by (with_reducible (repeat (first | assumption | exact kU _ | exact kR _ | exact Kp.of (U:=UU) (by assumption) | exact aF.of (by assumption) | refine kT ?_ (by assumption))))):aK w' B v q:=h.kp k
theorem aK.kr (h:aK w B v q) (k:aF ⟨UU,fun _=>True,T⟩ w w':=by (with_reducible (repeat (first | assumption | exact kU _ | exact kR _ | exact Kp.of (U:=UU) (by assumption) | exact aF.of (by assumption) | refine kT ?_ (by assumption))))):cP w' v q:=(h.kp k).rd
theorem aK.ki (h:aK w B v q) (hs:fo q n) (k:aF ⟨UU,fun _=>True,T⟩ w w':=by (with_reducible (repeat (first | assumption | exact kU _ | exact kR _ | exact Kp.of (U:=UU) (by assumption) | exact aF.of (by assumption) | refine kT ?_ (by assumption))))):bO w' v q n:=(h.kp k).in hs
theorem cP.ki (h:cP w v q) (hs:fo q n) (k:aF ⟨UU,fun _=>True,T⟩ w w':=by (with_reducible (repeat (first | assumption | exact kU _ | exact kR _ | exact Kp.of (U:=UU) (by assumption) | exact aF.of (by assumption) | refine kT ?_ (by assumption))))):bO w' v q n:=(h.kp k).to hs
end
end Go.Proofs.YtabalinjfgcfeaaGreat
namespace Go.Proofs.YtabalinjfgcfeaaGreat
open Go.RowKit
attribute [local irreducible] aA VS
theorem bne_y {a b:Int} (h:a≠b):(a != b)=true:=by simpa using h
theorem Ma {a b:Int} (h:a=b):(a != b)=false:=by simpa using h
section
variable {α:Type} {E:World→List Value→α→Prop} {sz n c:Nat} {w w':World} {vs:List (List Value)} {sp:List AV} {es:List α}
end
section
variable {C:Cx} {F:Fr} {H:Hp} {w:World} {m:Option (List FuncId)} {full:Array Oper} {K:Fr→Hp→World→Prop} {o:Oper} {r:List Oper}
end
end Go.Proofs.YtabalinjfgcfeaaGreat
namespace Go.Proofs.YtabalinjfgcfeaaGreat
open Go.RowKit
theorem Jr {w:World} {a:Option Addr} {len cap:Nat} {zs:List Int}
  (h:(a=none∧len=0∧cap=0∧zs=[])∨∃ x,a=some x∧len≤cap∧cap≤maxLen∧zs.length=cap∧(∀ i,i < zs.length→w.cell? (x.add i)=some (.int .u32 (zs.getD i 0)))∧∀ n∈zs,(Lit.int .u32 n).wf=true):
  ∃ xs:List Nat,cd xs∧Rd w 1 (.slice a len cap) len (ints .u32 xs):=by
 rcases h with ⟨rfl,rfl,rfl,rfl⟩ | ⟨x,rfl,h1,h2,h3,h4,h5⟩
 ·exact ⟨[],cd.nil,Rd.nil w 1⟩
 ·have hb:∀ n∈zs,0≤n∧n < 4294967296:=fun n hn=>by
   have:=h5 n hn
   simp [Lit.wf,IntKind.min,IntKind.max,IntKind.signed,IntKind.bits] at this
   omega
  refine ⟨(zs.take len).map Int.toNat,?_,?_⟩
  ·intro y hy
   obtain ⟨z,hz,rfl⟩:=List.mem_map.1 hy
   have:=hb z (List.mem_of_mem_take hz)
   omega
  ·refine ⟨_,cap,rfl,h1,h2,by simp;omega,fun hn=> ?_⟩
   have lp:0 < zs.length:=by omega
   have h0:=h4 0 lp
   have hsp:x.spot=none:=by
    have:x.add 0=x:=by simp [Addr.add]
    rw [this] at h0
    unfold World.cell? at h0
    split at h0
    ·split at h0
     ·cases h0
     ·rename_i hs;simpa using hs
    ·cases h0
   obtain ⟨b,off,sp⟩:=x
   simp only at hsp
   subst hsp
   refine ⟨b,off,rfl,fun j u hj=> ?_⟩
   simp only [ints,List.map_map,List.getElem?_map,List.getElem?_take] at hj
   split at hj
   ·rename_i hjl
    have hjz:j < zs.length:=by omega
    rw [List.getElem?_eq_getElem hjz] at hj
    simp at hj
    subst hj
    have h6:=h4 j hjz
    have h7:=hb _ (List.getElem_mem hjz)
    rw [show (⟨b,off,none⟩:Addr).add j=⟨b,off + j,none⟩ by unfold Addr.add;split <;> simp_all] at h6
    rw [h6]
    simp [List.getD,hjz]
    omega
   ·cases hj
theorem AW {α:Type} {l:List α} (h:l.length=2):∃ a b,l=[a,b]:=by
 match l,h with
 | [a,b],_=>exact ⟨a,b,rfl⟩
theorem Mb {α:Type} {l:List α} (h:l.length=4):∃ a b c d,l=[a,b,c,d]:=by
 match l,h with
 | [a,b,c,d],_=>exact ⟨a,b,c,d,rfl⟩
section
variable {H:Type} {enc:TypeId×Value→H} {w:World} {held:Bool}
theorem FH {fuel:Nat} {cs:List Value} {x:DataW H×List MemPlace} (h:DataW.trod enc Tryz.prog w 0 (fun _=>true) held fuel 22 cs=some x):∃ p n c xs,cs=[.slice p n c]∧Rd w 1 (.slice p n c) n (ints .u32 xs)∧cd xs:=by
 rcases ChangeShapes.open_ints Tryz.underlying22 Tryz.underlying117 (by kernel_rfl) h with ⟨rfl,_⟩ | ⟨a,len,cap,zs,rfl,_,hl,hc,hz,_,hcell,hwf⟩
 ·exact ⟨none,0,0,[],rfl,Rd.nil w 1,cd.nil⟩
 ·rw [if_pos rfl] at hz
  obtain ⟨xs,hxs,sQ⟩:=Jr (w:=w) (.inr ⟨a,rfl,hl,hc,hz,hcell,hwf⟩)
  exact ⟨some a,len,cap,xs,rfl,sQ,hxs⟩
theorem Dz {fuel:Nat} {cs:List Value} {x:DataW H×List MemPlace} (h:DataW.trod enc Tryz.prog w 0 (fun _=>true) held fuel 24 cs=some x):∃ s p c xs,cs=[.bool s,.slice p xs.length c]∧eX w (.agg #[.bool s,.slice p xs.length c]) s xs:=by
 obtain ⟨ys,n,rfl,rfl,hl,jt,hf⟩:=DataW.trod_struct Tryz.underlying24 h
 have vJ:cs.length=2:=by
  have c:Tryz.prog.cellsOf 24=2:=by kernel_rfl
  rw [c] at hl;exact hl
 have hy2:ys.length=2:=jt
 obtain ⟨a,b,rfl⟩:∃ a b,cs=[a,b]:=by
  exact AW vJ
 obtain ⟨y0,y1,rfl⟩:∃ a b,ys=[a,b]:=by
  exact AW hy2
 have c0:Tryz.prog.cellsOf 4=1:=by kernel_rfl
 have c1:Tryz.prog.cellsOf 22=1:=by kernel_rfl
 have h0:=hf 0 _ rfl
 have h1:=hf 1 _ rfl
 change DataW.trod enc Tryz.prog w 0 (fun _=>true) held n 4 (([a,b].drop 0).take (Tryz.prog.cellsOf 4))=some y0 at h0
 change DataW.trod enc Tryz.prog w 0 (fun _=>true) held n 22 (([a,b].drop 1).take (Tryz.prog.cellsOf 22))=some y1 at h1
 rw [c0] at h0
 rw [c1] at h1
 obtain ⟨s,hs,_⟩:=DataW.trod_bool Tryz.underlying4 h0
 obtain ⟨p,m,c,xs,hp,hr,hx⟩:=FH h1
 simp only [List.drop_zero,List.take_succ_cons,List.take_zero,List.cons.injEq,and_true] at hs
 simp only [List.drop_succ_cons,List.drop_zero,List.take_succ_cons,List.take_zero,List.cons.injEq,and_true] at hp
 subst hs hp
 obtain ⟨_,_,hv,_,_,ew⟩:=hr.u32
 subst ew
 exact ⟨s,p,c,xs,rfl,p,c,rfl,hr,hx⟩
theorem Mc {fuel:Nat} {cs:List Value} {x:DataW H×List MemPlace} (h:DataW.trod enc Tryz.prog w 0 (fun _=>true) held fuel 26 cs=some x):∃ s p n c t r m d xs ys,cs=[.bool s,.slice p n c,.bool t,.slice r m d]∧eR w (.agg #[.bool s,.slice p n c,.bool t,.slice r m d]) s xs t ys:=by
 obtain ⟨zs,n,rfl,rfl,hl,jt,hf⟩:=DataW.trod_struct Tryz.underlying26 h
 have vJ:cs.length=4:=by
  have c:Tryz.prog.cellsOf 26=4:=by kernel_rfl
  rw [c] at hl;exact hl
 have hy2:zs.length=2:=jt
 obtain ⟨a,b,a',b',rfl⟩:∃ a b a' b',cs=[a,b,a',b']:=by
  exact Mb vJ
 obtain ⟨y0,y1,rfl⟩:∃ a b,zs=[a,b]:=by
  exact AW hy2
 have c0:Tryz.prog.cellsOf 24=2:=by kernel_rfl
 have h0:=hf 0 _ rfl
 have h1:=hf 1 _ rfl
 change DataW.trod enc Tryz.prog w 0 (fun _=>true) held n 24 (([a,b,a',b'].drop 0).take (Tryz.prog.cellsOf 24))=some y0 at h0
 change DataW.trod enc Tryz.prog w 0 (fun _=>true) held n 24 (([a,b,a',b'].drop 2).take (Tryz.prog.cellsOf 24))=some y1 at h1
 rw [c0] at h0 h1
 obtain ⟨s,p,c,xs,e0,n0⟩:=Dz h0
 obtain ⟨t,r,d,ys,e1,n1⟩:=Dz h1
 simp only [List.drop_zero,List.take_succ_cons,List.take_zero,List.cons.injEq,and_true] at e0
 simp only [List.drop_succ_cons,List.drop_zero,List.take_succ_cons,List.take_zero,List.cons.injEq,and_true] at e1
 obtain ⟨rfl,rfl⟩:=e0
 obtain ⟨rfl,rfl⟩:=e1
 exact ⟨_,_,_,_,_,_,_,_,xs,ys,rfl,_,_,_,_,rfl,n0,n1⟩
theorem Md {α:Type} {p:Nat→α→Prop}:∀ (n:Nat),(∀ i,i < n→∃ q,p i q)→∃ qs:List α,qs.length=n∧∀ (i:Nat) (q:α),qs[i]? =some q→p i q
 | 0,_=>⟨[],rfl,fun i q h=>by simp at h⟩
 | n + 1,h=>by
   obtain ⟨qs,hl,hq⟩:=Md n (fun i hi=>h i (by omega))
   obtain ⟨q,hqn⟩:=h n (by omega)
   refine ⟨qs++[q],by simp [hl],fun i x hx=> ?_⟩
   by_cases hi:i < n
   ·rw [List.getElem?_append_left (by omega)] at hx
    exact hq i x hx
   ·rw [List.getElem?_append_right (by omega),hl] at hx
    have:i=n:=by
     have:=(List.getElem?_eq_some_iff.1 hx).1
     simp at this
     omega
    subst this
    simp at hx
    subst hx
    exact hqn
end
end Go.Proofs.YtabalinjfgcfeaaGreat
namespace Go.Proofs.YtabalinjfgcfeaaGreat
open Go.RowKit
section
variable {H:Type} {enc:TypeId×Value→H} {w:World} {held:Bool}
set_option maxRecDepth 100000 in
theorem open_sl {α:Type} {E:World→List Value→α→Prop} {sz:Nat} {t e:TypeId} (hu:Tryz.prog.underlying t=some (.slice e)) (hc:Tryz.prog.cellsOf e=sz) (uQ:0 < sz)
  (Lj:∀ {fuel:Nat} {cs:List Value} {x:DataW H×List MemPlace},DataW.trod enc Tryz.prog w 0 (fun _=>true) held fuel e cs=some x→∃ a,E w cs a)
  {v:Value} {d:DataW H} {ps:List MemPlace} {r:_root_.Go.Reach} {b0:Nat} (hv:Value.okWide Tryz.prog w r b0 t v) (h:DataW.Trod enc Tryz.prog w 0 (fun _=>true) held t v d ps):∃ es:List α,er E sz w v es:=by
 obtain ⟨p,len,cap,rfl⟩:=WideShapes.okWide_slice hu hv
 obtain ⟨fuel,hf⟩:=h
 rcases DataW.trod_slice hu hf with ⟨e,_⟩ | ⟨a,len',cap',elems,rest,n,_,e,_,_,hl,hm,hle,yp,_⟩
 ·simp [Value.cells] at e
  obtain ⟨rfl,rfl,rfl⟩:=e
  exact ⟨[],er.nil _ _ _⟩
 ·simp [Value.cells] at e
  obtain ⟨rfl,rfl,rfl⟩:=e
  rw [hc] at yp
  have each:∀ i,i < len→∃ q,∃ b off cs,some a=some ⟨b,off,none⟩∧(∀ (j:Nat) (u:Value),cs[j]? =some u→w.cell? ⟨b,off + i * sz + j,none⟩=some u)∧E w cs q:=by
   intro i hi
   obtain ⟨y,hy⟩:∃ y,elems[i]? =some y:=⟨_,List.getElem?_eq_getElem (by omega)⟩
   have hb:=yp i hi
   rw [hy,Option.bind_eq_some_iff] at hb
   obtain ⟨cs,hcs,ht⟩:=hb
   obtain ⟨q,hq⟩:=Lj ht
   obtain ⟨_,hlen,hcell⟩:=World.cells?_some hcs
   obtain ⟨b,off,spot⟩:=a
   have hspot:spot=none:=by
    obtain ⟨y0,Kf⟩:∃ y,elems[0]? =some y:=⟨_,List.getElem?_eq_getElem (by omega)⟩
    have pd:=yp 0 (by omega)
    rw [Kf,Option.bind_eq_some_iff] at pd
    obtain ⟨cs0,hcs0,ht0⟩:=pd
    obtain ⟨_,hlen0,hcell0⟩:=World.cells?_some hcs0
    have Me:=hcell0 0 uQ
    rw [List.getElem?_eq_getElem (by omega)] at Me
    have g0:=World.cell?_spot Me
    simpa [Addr.add] using g0
   subst hspot
   refine ⟨q,b,off,cs,rfl,fun j u hj=> ?_,hq⟩
   have hjl:j < sz:=by have:=(List.getElem?_eq_some_iff.1 hj).1;omega
   have:=hcell j hjl
   rw [WideShapes.add_plain,WideShapes.add_plain] at this
   rw [this]
   exact hj
  obtain ⟨qs,Al,hqs⟩:=Md len each
  subst Al
  exact ⟨qs,_,_,rfl,hl,hm,fun i q hq=>hqs i q hq⟩
end
end Go.Proofs.YtabalinjfgcfeaaGreat
namespace Go.Proofs.YtabalinjfgcfeaaGreat
open Go.RowKit
def Hp.Js:Nat→List (TypeId×List AV)→Hp
 | _,[]=>fun _=>none
 | i,c::r=>fun n=>bif Nat.beq n i then some c else Hp.Js (i + 1) r n
theorem Hp.nb:∀ (l:List (TypeId×List AV)) (i n:Nat),Hp.Js i l n=if i≤n then l[n - i]? else none
 | [],i,n=>by unfold Hp.Js;simp
 | c::r,i,n=>by
   unfold Hp.Js
   rw [Hp.nb r (i + 1) n]
   by_cases h:n=i
   ·subst h;simp
   ·have hb:Nat.beq n i=false:=by rw [←Bool.not_eq_true,Nat.beq_eq];exact h
    rw [hb,cond_false]
    by_cases h1:i≤n
    ·rw [if_pos h1,if_pos (by omega),show n - i=(n - (i + 1)) + 1 by omega];rfl
    ·rw [if_neg h1,if_neg (by omega)]
def adB (N:Nat) (ad:List Nat):Nat→Nat:=fun i=>ad.getD (i - 2 * N) 0
structure iI (K:KC) (N:Nat) (ad:List Nat) (l:List (TypeId×List AV)) (w:World):Prop where
 len:ad.length=l.length
 nodup:ad.Nodup
 cls:∀ (j:Nat) (g:Nat) (c:TypeId×List AV),ad[j]? =some g→l[j]? =some c→aV w g c.1 (c.2.map (AV.leaf (adB N ad))).toArray
 ok:∀ c∈l,K.fz c.1=false∧c.2.all aG=true
 ids:∀ c∈l,∀ k∈ay c.2,2 * N≤k∧k < 2 * N + l.length
theorem iI.ad {K:KC} {N:Nat} {ad:List Nat} {l:List (TypeId×List AV)} {w:World} (h:iI K N ad l w):rS K ad w:=fun g hg=>by
 obtain ⟨j,hj⟩:=List.mem_iff_getElem?.1 hg
 have hlt:=(List.getElem?_eq_some_iff.1 hj).1
 obtain ⟨c,hc⟩:∃ c,l[j]? =some c:=⟨_,List.getElem?_eq_getElem (by rw [←h.len];exact hlt)⟩
 obtain ⟨h1,h2⟩:=h.ok c (List.mem_of_getElem? hc)
 exact ⟨c.1,_,h.cls j g c hj hc,h1,cJ h2⟩
theorem dZ (P:Program) (w:World) (N:Nat) (K:KC) (SU:TypeId→Bool) (ti:TypeId→Option TI) (keep:∀ b,b < w.heap.size→K.S b) {ad:List Nat} {l:List (TypeId×List AV)} {us:List Value} {f:FuncId} {fn:Func} {c:Code} {R:Ending→World→Prop} (hf:P.funcs[f]? =some fn) (hb:fn.body=some c) (hN:fn.ntmps=N) (ha:us.length + 1≤N)
  (hl:iI K N ad l w) (h0:0 < l.length)
  (h:VS (IX P w N K SU ti keep ad hl.nodup hl.ad) (bodyPost P fn R) [.code c] (Fr.Lp 0 (.box (2 * N) 0::us.map .val)) (Hp.Js (2 * N) l) w):Calls P f (Value.pointer (some ⟨ad.getD 0 0,0,none⟩)::us).toArray w R:=by
 have yp:∀ i c,Hp.Js (2 * N) l i=some c→2 * N≤i∧l[i - 2 * N]? =some c:=fun i c hi=>by
  rw [Hp.nb] at hi
  split at hi
  ·exact ⟨by assumption,hi⟩
  ·cases hi
 have hsome:∀ i,Hp.Js (2 * N) l i≠none→2 * N≤i∧i - 2 * N < l.length:=fun i hi=>by
  cases hh:Hp.Js (2 * N) l i with
  | none=>exact absurd hh hi
  | some c=>
    obtain ⟨h1,h2⟩:=yp i c hh
    exact ⟨h1,(List.getElem?_eq_some_iff.1 h2).1⟩
 have hval:∀ k,k < ad.length→ad[k]? =some (ad.getD k 0):=fun k hk=>by simp [List.getD_eq_getElem?_getD,hk]
 have:=CR (C:=IX P w N K SU ti keep ad hl.nodup hl.ad) (R:=R) (args:=.box (2 * N) 0::us.map .val) (β:=adB N ad) (H:=Hp.Js (2 * N) l) hf hb hN (by simpa using ha) (fun i t cs hi=> ?_) (fun i j hi hj e=> ?_) ⟨fun i t cs hi=> ?_,fun i t cs hi=> ?_,fun i hi=> ?_⟩ (fun v hv i hi=> ?_) h
 ·have e:(AV.box (2 * N) 0::us.map AV.val).map (AV.aX (adB N ad))=Value.pointer (some ⟨ad.getD 0 0,0,none⟩)::us:=by
   rw [List.map_cons,gQ]
   show Value.pointer (some ⟨ad.getD (2 * N - 2 * N) 0,0,none⟩)::us=_
   rw [Nat.sub_self]
  rw [e] at this
  exact this
 ·obtain ⟨h1,h2⟩:=yp i _ hi
  have hlt:=(List.getElem?_eq_some_iff.1 h2).1
  obtain ⟨g1,g2⟩:=hl.ok _ (List.mem_of_getElem? h2)
  have hv:=hval (i - 2 * N) (by rw [hl.len];exact hlt)
  refine ⟨?_,g1,hl.cls _ _ _ hv h2,g2⟩
  show cA N ad w i (adB N ad i)
  unfold cA
  rw [if_pos h1]
  exact hv
 ·obtain ⟨h1,h2⟩:=hsome i hi
  obtain ⟨h3,h4⟩:=hsome j hj
  have e1:=hval (i - 2 * N) (by rw [hl.len];exact h2)
  have e2:=hval (j - 2 * N) (by rw [hl.len];exact h4)
  have e':ad.getD (i - 2 * N) 0=ad.getD (j - 2 * N) 0:=e
  rw [←e'] at e2
  have:=(List.getElem?_inj (by rw [hl.len];exact h2) hl.nodup).1 (e1.trans e2.symm)
  omega
 ·obtain ⟨h1,h2⟩:=yp i _ hi
  exact hl.ok _ (List.mem_of_getElem? h2)
 ·obtain ⟨h1,h2⟩:=yp i _ hi
  intro j hj
  obtain ⟨h3,h4⟩:=hl.ids _ (List.mem_of_getElem? h2) j hj
  rw [Hp.nb,if_pos h3,List.getElem?_eq_getElem (by omega)]
  simp
 ·have sW:2 * N + ad.length≤i:=hi
  rw [Hp.nb]
  split
  ·exact List.getElem?_eq_none (by rw [←hl.len];omega)
  ·rfl
 ·rcases List.mem_cons.1 hv with rfl | hv
  ·have:i=2 * N:=by simpa [AV.ids] using hi
   rw [this,Hp.nb,if_pos (Nat.le_refl _),Nat.sub_self,List.getElem?_eq_getElem h0];simp
  ·obtain ⟨u,_,rfl⟩:=List.mem_map.1 hv
   cases hi
theorem ea {P:Program} {w w':World} {N:Nat} {K:KC} {SU:TypeId→Bool} {ti:TypeId→Option TI} {keep:∀ b,b < w.heap.size→K.S b} {ad:List Nat} {hd:ad.Nodup} {ha:rS K ad w} {β:Nat→Nat} {i:Nat} {t:TypeId} {cs:List AV} (h:lW (IX P w N K SU ti keep ad hd ha) β w' i t cs) (j g:Nat) (hi:i=2 * N + j) (hj:ad[j]? =some g):β i=g∧aV w' g t (cs.map (AV.leaf β)).toArray:=by
 have h1:cA N ad w i (β i):=h.new
 unfold cA at h1
 rw [if_pos (by omega),hi,Nat.add_sub_cancel_left,hj] at h1
 have h2:g=β i:=by rw [hi];simpa using h1
 exact ⟨h2.symm,h2▸h.cls⟩
end Go.Proofs.YtabalinjfgcfeaaGreat
namespace Go.Proofs.YtabalinjfgcfeaaGreat
open Go.RowKit
section
variable {C:Cx} {F:Fr} {H:Hp} {w:World} {m:Option (List FuncId)} {full:Array Oper} {K:Fr→Hp→World→Prop} {o:Oper} {r:List Oper} {Q:Exit→Act→World→Prop} {k:List It}
def xL (F:Fr) (β:Nat→Nat):List (Nat×AV)→Prop
 | []=>True
 | p::r=>(∃ u x,F p.1=some u∧u.aX β=x∧p.2=.val x)∧xL F β r
theorem xL.mem {β:Nat→Nat}:∀ {L:List (Nat×AV)} {d:Nat} {v:AV},xL F β L→(d,v)∈L→∃ u x,F d=some u∧u.aX β=x∧v=.val x
 | p::r,d,v,h,hm=>by
   rcases List.mem_cons.1 hm with rfl | hm
   ·exact h.1
   ·exact xL.mem h.2 hm
theorem VS.Mf (D:World→Cx) (hP:∀ w,(D w).P=C.P) (hN:∀ w,(D w).N=C.N) (hO:∀ w,(D w).Old w)
  (h:∀ w' β,aF C.K w w'→C.Old w'→Ends C β H w'→∃ L:List (Nat×AV),xL F β L∧VS (D w') Q k (Fr.of L) (fun _=>none) w'):VS C Q k F H w:=fun β a w' hr hk=>by
 obtain ⟨L,hL,hv⟩:=h w' β hk hr.old ⟨hr.own,hr.apart⟩
 have:=hv β a w' ⟨hr.defers,by rw [hN];exact hr.size,fun d v hd=> ?_,fun i t cs hi=>(by cases hi),fun i j hi=>absurd rfl hi,fun d v hd i hi=> ?_,fun d v hd=> ?_,⟨fun i t cs hi=>(by cases hi),fun i t cs hi=>(by cases hi),fun i hi=>rfl⟩,hO w'⟩ (aF.refl _ _)
 ·rw [hP] at this
  exact this
 ·obtain ⟨u,x,h1,rfl,rfl⟩:=hL.mem (Fr.fN hd)
  exact hr.tmp d u h1
 ·obtain ⟨u,x,h1,rfl,rfl⟩:=hL.mem (Fr.fN hd)
  cases hi
 ·obtain ⟨u,x,h1,rfl,rfl⟩:=hL.mem (Fr.fN hd)
  rw [hN];exact hr.fits d u h1
end
end Go.Proofs.YtabalinjfgcfeaaGreat
namespace Go.Proofs.YtabalinjfgcfeaaGreat
open Go.RowKit
section
variable {C:Cx} {F:Fr} {H:Hp} {w:World} {m:Option (List FuncId)} {full:Array Oper} {K:Fr→Hp→World→Prop} {o:Oper} {r:List Oper}
theorem VO.appO (hC:C.Ok) {t e:TypeId} {it ie:TI} {sz n c mm off i:Nat} {x y:Operand} {src:AV} {pre known spare news:List AV} {dst:Nat}
  (e0:stepOf C full F H o=.call (.op o [.row i off n c,src])) (ho:o.op=.call { callee:=.builtin .append,args:=#[x,y],argTypes:=#[t,t] })
  (hit:C.ti t=some it) (Lj:it.elem=some (e,sz)) (GF:C.ti e=some ie) (hU:C.K.fz e=false) (hzo:ie.zero.cells.toList.all aR=true)
  (hd:o.dst=some dst) (hN:dst < C.N) (hl:lvl C.SU m o=2)
  (hH:H i=some (e,pre++(known++spare))) (hpre0:pre.length=off∨(c=0∧0 < mm))
  (iR:H dst=none∨some i=some dst) (hk:known.length=n * sz) (hsp:(known++spare).length=c * sz) (fH:n≤c) (fy:c≤9223372036854775807)
  (fv:ay known=[]∧ay spare=[]∧ay news=[]) (hlidp:ay pre=[]) (fF:known.all aG=true∧spare.all aG=true∧news.all aG=true) (hokp:pre.all aG=true) (zz:news.length=mm * sz) (iL:(n + mm) * (24 * sz)≤140737488355328)
  (CP:∀ w1 β,aF C.K w w1→C.Old w1→lX C β H (fC [.row i off n c,src]) w1→∃ p cc,src.aX β=.slice p mm cc∧(mm=0∨∃ b off,p=some ⟨b,off,none⟩∧∀ j u,(news.map (AV.leaf β))[j]? =some u→w1.cell? ⟨b,off + j,none⟩=some u))
  (hK:∀ w2 aQ bI cap ak ρ,aF C.K w w2→C.Old w2→(∀ x,aR (ρ x)=true)→bI.length=aQ→bI.all aG=true→ay bI=[]→n + mm≤cap→cap≤9223372036854775807→((known++news)++ak).length=cap * sz→ak.all aG=true→ay ak=[]→
   aA C m full r K ((F.forget (some i) ρ).bh o.dst (.row dst aQ (n + mm) cap)) ((H.forget (some i) ρ).put dst (e,bI++((known++news)++ak))) w2):aA C m full (o::r) K F H w:=by
 obtain ⟨base,jf⟩:∃ base,base=AV.row i off n c:=⟨_,rfl⟩
 obtain ⟨del,hdel⟩:∃ del,del=some i:=⟨_,rfl⟩
 rw [←jf] at e0 CP
 rw [←hdel] at iR hK
 show one C m full o (aA C m full r K) F H w
 unfold one
 rw [e0]
 intro w1 β h1 h2 h3
 obtain ⟨hu,hsz⟩:=(hC t it hit).isSlice e sz Lj
 have zA:=hC e ie GF
 cases qE:C.P.info? e with
 | none=>have:=zA.size;rw [qE] at this;simp at this
 | some ti=>
   have GL:ti.size=ie.size:=by have:=zA.size;rw [qE] at this;simpa using this
   have lx:ti.zero=some ie.zero:=by have:=zA.bV;rw [qE] at this;simpa using this
   have aU:ti.bytes≤24 * ie.size:=Nat.le_of_ble_eq_true (by have:=zA.bytes;rw [qE] at this;simpa using this)
   have AD:sz=ti.size:=by
    have:=hsz w1
    simp [sizeOf,typeInfo,qE] at this
    exact this.symm
   have uQ:0 < sz:=by rw [AD,GL];exact zA.pos
   have JQ:ie.zero.cells.size=sz:=by rw [zA.bT,AD,GL]
   have hcap:n + mm≤140737488355328:=by
    have:(n + mm) * 24≤(n + mm) * (24 * sz):=Nat.mul_le_mul_left _ (by omega)
    omega
   have Es:(n + mm) * ti.bytes≤140737488355328:=Nat.le_trans (Nat.mul_le_mul_left _ (by rw [AD,GL];exact aU)) iL
   obtain ⟨p,cc,hsc,hsp2⟩:=CP w1 β h1 h2 h3
   have hS:Src C.P ti.size t (.slice p mm cc) mm (news.map (AV.leaf β)) w1:=by
    have rQ:∀ u∈news.map (AV.leaf β),u.oneCell'=true:=fun u hu=>qy (List.all_eq_true.1 (cJ (β:=β) fF.2.2) u hu)
    rcases hsp2 with rfl | ⟨b,off,rfl,hc⟩
    ·have:news=[]:=List.eq_nil_of_length_eq_zero (by simpa using zz)
     subst this
     cases p with
     | none=>exact Src.ofNil w1 hu cc
     | some a=>exact Src.ofSlice w1 hu a 0 cc [] (by simp) (fun j u hj=>by simp at hj) rQ
    ·refine Src.ofSlice w1 hu ⟨b,off,none⟩ mm cc _ (by rw [List.length_map,zz,AD]) (fun j u hj=> ?_) rQ
     rw [Addr.add_mid]
     exact hc j u hj
   have Lk:∀ ρ:Operand→Value,o.op.operands.toList.map ρ=[base,src].map (AV.aX β)→ρ x=base.aX β∧ρ y=.slice p mm cc:=fun ρ h=>by
    rw [ho] at h
    simp [Op.operands,Call.operands] at h
    exact ⟨h.1,h.2.trans hsc⟩
   have hrun:∀ {v:Value} {w2:World},(Builtin.append_ #[t,t] o.type #[base.aX β,.slice p mm cc]).run C.P w1=.ok v w2→∀ ρ:Operand→Value,o.op.operands.toList.map ρ=[base,src].map (AV.aX β)→(execOp ρ o).run C.P w1=.ok (.value v) w2:=fun {v w2} hv ρ fD=>by
    obtain ⟨q1,q2⟩:=Lk ρ fD
    unfold execOp
    simp only [ho,resolve,invoke,builtin,Sem.run_bind,Sem.run_pure,Result.andThen_ok,List.map_toArray,List.map_cons,List.map_nil,q1,q2,hv]
   have hg:∀ i,del=some i→Reach H (fC [base,src]) i∧H i≠none:=fun i' hi=>by
    rw [hdel] at hi;cases hi
    exact ⟨.base (by rw [jf];simp [fC,AV.ids]),by rw [hH];simp⟩
   have fin:∀ (w2:World) (b aQ cap:Nat) (bI ak:List AV),bI.length=aQ→bI.all aG=true→ay bI=[]→(∀ ρ:Operand→Value,o.op.operands.toList.map ρ=[base,src].map (AV.aX β)→(execOp ρ o).run C.P w1=.ok (.value (.slice (some ⟨b,aQ,none⟩) (n + mm) cap)) w2)→
     w2.os=w1.os→w2.tape=w1.tape→w2.output=w1.output→w1.heap.size≤w2.heap.size→(∀ q,q < w1.heap.size→q≠b→w2.heap[q]? =w1.heap[q]?)→(w1.heap.size≤b∨∃ i,del=some i∧b=β i)→
     n + mm≤cap→cap≤9223372036854775807→((known++news)++ak).length=cap * sz→ak.all aG=true→ay ak=[]→aV w2 b e ((bI++((known++news)++ak)).map (AV.leaf β)).toArray→
     tg C.P (.op o [base,src]) β w1 fun e w2=>∃ bC r' del ups,e=.returned (r'.aX bC)∧(∀ i∈r'.ids,i∈ups.map (·.1)∨(Reach H (eg.op o [base,src]).ids i∧H i≠none∧del≠some i))∧(1≤lvl C.SU m o∨ups=[])∧(2≤lvl C.SU m o∨del=none)∧
      wZ C β bC H (eg.op o [base,src]).ids del ups w1 w2∧(aF C.K w w2→aF C.K w1 w2→C.Old w2→∀ ρ,(∀ x,aR (ρ x)=true)→aA C m full r K ((F.forget del ρ).bh o.dst r') ((H.forget del ρ).eK ups) w2):=by
    intro w2 b aQ cap bI ak p1 p2 p3 hrun q1 q2 q3 q4 q5 q6 q7 q8 q9 q10 q11 q12
    let bC:Nat→Nat:=fun i=>if i=dst then b else β i
    have pg:bC dst=b:=if_pos rfl
    have mI:(bI++((known++news)++ak)).all aG=true:=by simp only [List.all_append,fF.1,fF.2.2,q10,p2];rfl
    have gv:ay (bI++((known++news)++ak))=[]:=by rw [cz,cz,cz,fv.1,fv.2.2,q11,p3];rfl
    have IQ:C.ze dst b:=by
     rcases q6 with e | ⟨i,hi,e⟩
     ·exact C.rH _ _ (by omega) (by have:=C.ez _ h2;omega)
     ·obtain ⟨g1,g2⟩:=hg i hi
      cases hh:H i with
      | none=>exact absurd hh g2
      | some c'=>rw [e];exact C.Cl i dst _ (h3.own i g1 c'.1 c'.2 hh).new (by omega)
    have yZ:∀ i,del=some i→w2.heap[β i]? =w1.heap[β i]?∨∃ x∈[(dst,(e,bI++((known++news)++ak)))],bC x.1=β i:=fun i hi=>by
     by_cases e':β i=b
     ·exact .inr ⟨_,List.mem_singleton.2 rfl,pg.trans e'.symm⟩
     ·obtain ⟨g1,g2⟩:=hg i hi
      cases hh:H i with
      | none=>exact absurd hh g2
      | some c'=>exact .inl (q5 _ (h3.own i g1 c'.1 c'.2 hh).cls.lt e')
    refine ⟨_,w2,fun ρ fD=>.inl (hrun ρ fD),bC,.row dst aQ (n + mm) cap,del,[(dst,(e,bI++((known++news)++ak)))],?_,fun i hi=>.inl (by simpa [AV.ids] using hi),.inl (by omega),.inl (by omega),?_,fun a1 a2 a3 ρ fD=>hK w2 aQ bI cap ak ρ a1 a3 fD p1 p2 p3 q7 q8 q9 q10 q11⟩
    ·show Ending.returned _=.returned (Value.slice (some ⟨bC dst,aQ,none⟩) (n + mm) cap);rw [pg]
    ·refine ⟨q1,q2,q3,q4,fun k hk hx iE _=>q5 k hk (by have:=hx _ (List.mem_singleton.2 rfl);simpa [pg] using this),fun i hi=>if_neg (by simpa using hi),hg,fun i hi=>(yZ i hi).imp .inl id,fun x hx=> ?_,fun x hx=> ?_,by simp,fun x hx y hy _=> ?_,fun x hx j hj=> ?_⟩
     ·cases List.mem_singleton.1 hx
      refine ⟨by rw [pg];exact IQ,hU,?_,mI⟩
      rw [pg,gP (β:=β) (fun i hi=>by rw [gv] at hi;cases hi)]
      exact q12
     ·cases List.mem_singleton.1 hx
      refine .inr ⟨iR,by omega,?_⟩
      rcases q6 with e | ⟨i,hi,e⟩
      ·exact .inl (by rw [pg];exact e)
      ·exact .inr ⟨i,hi,by rw [pg];exact e⟩
     ·cases List.mem_singleton.1 hx;cases List.mem_singleton.1 hy;rfl
     ·cases List.mem_singleton.1 hx
      rw [gv] at hj;cases hj
   have grow:c < n + mm→(∃ bp,base.aX β=.slice bp n c∧(Builtin.firstCells ti.size n (.slice bp n c)).run C.P w1.drew=.ok (known.map (AV.leaf β)).toArray w1.drew)→tg C.P (.op o [base,src]) β w1 fun e w2=>∃ bC r' del ups,e=.returned (r'.aX bC)∧(∀ i∈r'.ids,i∈ups.map (·.1)∨(Reach H (eg.op o [base,src]).ids i∧H i≠none∧del≠some i))∧(1≤lvl C.SU m o∨ups=[])∧(2≤lvl C.SU m o∨del=none)∧
      wZ C β bC H (eg.op o [base,src]).ids del ups w1 w2∧(aF C.K w w2→aF C.K w1 w2→C.Old w2→∀ ρ,(∀ x,aR (ρ x)=true)→aA C m full r K ((F.forget del ρ).bh o.dst r') ((H.forget del ρ).eK ups) w2):=by
    rintro IM ⟨bp,hbp,hfc⟩
    have hr:=run_append_grow_src (P:=C.P) w1 t t o.type e ti ie.zero hu qE lx bp n c (known.map (AV.leaf β)) hfc (.slice p mm cc) mm (news.map (AV.leaf β)) hS IM (by omega) (growslice_fits IM Es)
    obtain ⟨zs,lT,hz3,hz4⟩:=mi ie.zero (grownCap w1 (n + mm) c e - (n + mm))
    have hge:=grownCap_ge w1 (n + mm) c e
    have hle:=grownCap_le_maxLen w1 (n + mm) c e (by simp only [maxLen];omega)
    rw [lT] at hr
    have xp:aj w1 (w1.drew.alloc (.cells ((known.map (AV.leaf β)++news.map (AV.leaf β)).toArray++zs.toArray) e)):=(aj.refl w1).drew.alloc _
    refine fin _ w1.heap.size 0 (grownCap w1 (n + mm) c e) [] (zs.map .val) rfl rfl rfl (hrun (by rw [hbp];exact hr)) xp.os xp.tape xp.output xp.size (fun q hq _=>Below.block xp q hq) (.inl (Nat.le_refl _)) hge (by simpa [maxLen] using hle) ?_ (aZ (hz4 hzo)) (ao zs) ?_
    ·rw [List.length_append,List.length_append,List.length_map,hk,zz,hz3,JQ,←Nat.add_mul,←Nat.add_mul]
     congr 1
     omega
    ·have:(((known++news)++zs.map AV.val).map (AV.leaf β)).toArray=(known.map (AV.leaf β)++news.map (AV.leaf β)).toArray++zs.toArray:=by
      rw [List.map_append,List.map_append,ah]
      apply Array.ext'
      rw [Array.toList_append]
     rw [List.nil_append,this]
     exact aV.newAt (w:=w1.drew) rfl _ _
   have hki:pre++(known++spare)=(pre++known)++spare:=(List.append_assoc _ _ _).symm
   have hcn:base.aX β=.slice (some ⟨β i,off,none⟩) n c:=by rw [jf];rfl
   obtain ⟨g1,g2,g3,g4⟩:=h3.own i (.base (List.mem_append_left _ (by rw [jf];exact List.mem_singleton.2 rfl))) e _ hH
   by_cases hroom:n + mm≤c
   ·have lz:pre.length=off:=hpre0.resolve_right (fun h=>by omega)
    have Ej:(pre++known).length=off + n * sz:=by rw [List.length_append,lz,hk]
    have yK:known.length + spare.length=c * sz:=by rw [←List.length_append];exact hsp
    have hmul:n * sz + mm * sz≤c * sz:=by rw [←Nat.add_mul];exact Nat.mul_le_mul_right _ hroom
    have hfit:off + n * sz + news.length≤(pre++(known++spare)).length:=by rw [List.length_append,hsp,zz,lz];omega
    have hr:=run_append_room_src (P:=C.P) w1 t t o.type e ti hu qE (β i) off n c (.slice p mm cc) mm (news.map (AV.leaf β)) hS hroom (fun j hj=>by
      rw [List.length_map] at hj
      obtain ⟨z,hz⟩:∃ z,((pre++(known++spare)).map (AV.leaf β))[off + n * ti.size + j]? =some z:=⟨_,List.getElem?_eq_getElem (by rw [List.length_map,←AD];omega)⟩
      rw [g3.cell (u:=z) (by simpa using hz)];rfl)
     (fun j _=>g3.frozen _)
    rw [←AD] at hr
    obtain ⟨k1,k2,k3,k4⟩:=jI (K:=C.K) (news.map (AV.leaf β)) (off + n * sz) w1 ((pre++(known++spare)).map (AV.leaf β)) g3 g2 (cJ g4) (cJ fF.2.2)
    obtain ⟨s1,s2,s3,_⟩:=ja (b:=β i) (news.map (AV.leaf β)) (off + n * sz) w1
    refine fin _ (β i) off c pre (spare.drop (mm * sz)) lz hokp hlidp (hrun (by rw [hcn];exact hr)) s1 s2 s3 k1.size (fun q _ hq=>iq _ _ _ q hq) (.inr ⟨i,hdel,rfl⟩) hroom fy ?_ ?_ ?_ ?_
    ·simp only [List.length_append,List.length_drop] at hsp hfit ⊢
     omega
    ·exact List.all_eq_true.2 fun x hx=>List.all_eq_true.1 fF.2.1 x (List.mem_of_mem_drop hx)
    ·rw [List.eq_nil_iff_forall_not_mem]
     intro j hj
     obtain ⟨v,hv,hj'⟩:=aP.1 hj
     have:j∈ay spare:=aP.2 ⟨v,List.mem_of_mem_drop hv,hj'⟩
     rw [fv.2.1] at this;cases this
    ·rw [mQ _ _ _ (by simp only [List.length_map];omega)] at k2
     have:((pre++(known++spare)).map (AV.leaf β)).take (off + n * sz)++(news.map (AV.leaf β)++((pre++(known++spare)).map (AV.leaf β)).drop (off + n * sz + (news.map (AV.leaf β)).length))=((pre++((known++news)++spare.drop (mm * sz))).map (AV.leaf β)):=by
      rw [hki,List.length_map,zz,←List.map_take,←List.map_drop,←Ej,List.take_left',List.drop_append]
      ·rw [List.drop_of_length_le (by omega)]
       simp [List.map_append]
      ·rfl
     rw [this] at k2
     exact k2
   ·refine grow (by omega) ⟨some ⟨β i,off,none⟩,hcn,?_⟩
    refine run_firstCells_some w1.drew ti.size n ⟨β i,off,none⟩ n c (known.map (AV.leaf β)) (by rw [List.length_map,hk,AD]) (fun j u hj=> ?_)
    rw [Addr.add_mid]
    have hlt:=(List.getElem?_eq_some_iff.1 hj).1
    have lz:pre.length=off:=hpre0.resolve_right (fun h=>by
     rw [List.length_map,hk] at hlt
     have:n=0:=by omega
     rw [this] at hlt;omega)
    have:w1.cell? ⟨β i,off + j,none⟩=some u:=g3.cell (by
     rw [List.map_append,List.map_append]
     rw [List.getElem?_toArray,List.getElem?_append_right (by rw [List.length_map];omega),List.length_map,lz,Nat.add_sub_cancel_left,List.getElem?_append_left hlt]
     exact hj)
    exact this
end
end Go.Proofs.YtabalinjfgcfeaaGreat
namespace Go.Proofs.YtabalinjfgcfeaaGreat
open Go.RowKit
def nc (o:Oper):Bool:=match o.op,o.guard,o.dst with | .store _ _ _,none,none=>true | _,_,_=>false
def sb (su:TypeId→Bool) (ml:List FuncId) (full:Array Oper) (B S:List Nat) (i j:Nat):Bool:=
 mg su ml full i j || (B.contains i && (S.contains j && (match full[i]?,full[j]? with | some p,some o=>p.apart full o | _,_=>true)))
def FI (su:TypeId→Bool) (ml:List FuncId) (full:Array Oper) (B S:List Nat):Bool:=
 ((List.range full.size).all fun j=>(du full j).all (fun d=>Nat.blt d j) && (List.range j).all fun i=>sb su ml full B S i j) &&
   ((full.toList.all fun o=> !Nat.beq (ax su ml o) 5) && ((B.all fun j=>match full[j]? with | some o=>Nat.ble (ax su ml o) 2 || Nat.beq (ax su ml o) 4 | none=>true) && (S.all fun j=>match full[j]? with | some o=>nc o | none=>true)))
section
variable {C:Cx} {full:Array Oper} {ml:List FuncId} {Q:Exit→Act→World→Prop} {F:Fr} {H:Hp} {w:World} {k:Fr→Hp→World→Prop} {p o q:Oper}
def xM (su:TypeId→Bool) (ml:List FuncId) (J:List Nat) (F:Fr) (o:Oper):Prop:=
 (∀ x∈o.op.operands.toList,∀ v,ev F x=some v→(∀ i∈v.ids,i∉J)∧(ax su ml o=4→v.ids=[]))∧∀ d,o.dst=some d→d∉J
def Toward (J:List Nat) (F:Fr) (o:Oper):Prop:=∃ t x y j off,o.op=.store t x y∧ev F x=some (.box j off)∧j∈J
theorem Mg {t:TypeId} {x:Operand} {d:Nat} {c:TypeId×List AV} (hop:o.op=.load t x) (h:∀ v,ev F x=some v→d∉v.ids):act C F (H.put d c) o=act C F H o:=by
 unfold act
 rw [hop]
 dsimp only
 split
 ·rename_i b off i hx hi
  have:b≠d:=fun e=>h _ hx (by simp [AV.ids,e])
  rw [Hp.cj,if_neg this]
 ·rename_i b off i hx hi
  have:b≠d:=fun e=>h _ hx (by simp [AV.ids,e])
  rw [Hp.cj,if_neg this]
 ·rfl
 ·rfl
theorem DA (h:ax C.SU ml o=1):∃ t x,o.op=.load t x:=by
 unfold ax at h
 cases hop:o.op <;> rw [hop] at h <;> simp only at h <;> try (exfalso;revert h;simp;done)
 case load t x=>exact ⟨t,x,rfl⟩
 case unOp op _ _=>cases op <;> simp at h
 case makeFunc fn _ _=>cases fn <;> simp at h
 case slice t x lo hi mx=>cases mx <;> simp at h
 case buildSlice t n ps=>exfalso;cases hs:C.SU t <;> rw [hs] at h <;> simp at h
 case call c=>
  exfalso
  cases hc:c.callee with
  | builtin b=>rw [hc] at h;cases b <;> simp at h
  | value f=>rw [hc] at h;cases hk:Aq ml c <;> cases hm:GA ml c <;> simp [hm,hk] at h
  | _=>rw [hc] at h;simp at h
theorem Mh {J:List Nat} {d:Nat} {c:TypeId×List AV} (ha:xM C.SU ml J F o) (hd:d∈J) (hm:ax C.SU ml o≤2∨ax C.SU ml o=4):stepOf C full F (H.put d c) o=stepOf C full F H o:=by
 refine dY ?_
 rcases (by omega:ax C.SU ml o=0∨ax C.SU ml o=1∨ax C.SU ml o=2∨ax C.SU ml o=4) with e | e | e | e
 ·exact fM (ml:=ml) (.inl e)
 ·obtain ⟨t,x,hop⟩:=DA e
  refine Mg hop fun v hv hi=> ?_
  exact (ha.1 x (by rw [hop];simp [Op.operands]) v hv).1 d hi hd
 ·cases ho:o.dst with
  | none=>exact uw (ml:=ml) (c:=(d,c)) e ho
  | some d'=>exact xj (ml:=ml) e ho (fun e'=>ha.2 d' ho (e'▸hd))
 ·exact fM (ml:=ml) (.inr e)
theorem uF {J:List Nat} (ht:Toward J F o) (hs:nc o=true):stepOf C full F H o=.bad∨∃ j c,j∈J∧stepOf C full F H o=.ee (.val undef) (some (j,c))∧∀ H':Hp,H' j=H j→stepOf C full F H' o=stepOf C full F H o:=by
 obtain ⟨t,x,y,j,off,hop,hx,hj⟩:=ht
 have hg:o.guard=none∧o.dst=none:=by
  unfold nc at hs
  rw [hop] at hs
  revert hs
  cases o.guard <;> cases o.dst <;> simp
 have hst:∀ H:Hp,stepOf C full F H o=act C F H o:=fun H=>by
  unfold stepOf wants jE
  rw [hg.1,hg.2]
  rfl
 have hac:∀ H:Hp,act C F H o=match ev F y,C.ti t with
  | some v,some i=>(match H j with | some (tb,cs)=>lD i j tb cs off v | none=>.bad)
  | _,_=>.bad:=fun H=>by
  unfold act
  rw [hop]
  dsimp only
  rw [hx]
  cases ev F y with
  | none=>rfl
  | some v=>cases C.ti t <;> rfl
 rw [hst,hac]
 cases hy:ev F y with
 | none=>exact .inl rfl
 | some v=>
   cases ht':C.ti t with
   | none=>exact .inl rfl
   | some i=>
     dsimp only
     cases hh:H j with
     | none=>exact .inl rfl
     | some u=>
       obtain ⟨tb,cs⟩:=u
       dsimp only
       rcases Plain.lD i j tb cs off v with e | ⟨v',u',e⟩
       ·exact .inl e
       ·obtain ⟨_,_,_,rfl,rfl⟩:=xb e
        refine .inr ⟨j,_,hj,e,fun H' hH=> ?_⟩
        rw [hst,hac,hy,ht',hH,hh]
theorem swapL (hC:C.Ok) {J:List Nat} (hL:Live C F H w) (ha:q.apart full o=true) (hq:xM C.SU ml J F q) (hqm:ax C.SU ml q≤2∨ax C.SU ml q=4) (ho:Toward J F o) (hs:nc o=true) (h:one C (some ml) full q (one C (some ml) full o k) F H w):one C (some ml) full o (one C (some ml) full q k) F H w:=by
 obtain ⟨a1,a2,a3⟩:=Oper.apart_spec ha
 have hod:o.dst=none:=by
  unfold nc at hs
  revert hs
  cases o.op <;> cases o.guard <;> cases o.dst <;> simp
 have hstep:∀ (x:AV) (H':Hp),stepOf C full (F.bh q.dst x) H' o=stepOf C full F H' o:=fun x H'=>df a1
 rcases uF (C:=C) (full:=full) (H:=H) ho hs with hb | ⟨j,c,hj,hst,Hc⟩
 ·exfalso
  rcases eN (C:=C) (stepOf C full F H q) with hp | ⟨Ψp,up,hp⟩ | ⟨d,hp⟩
  ·unfold one at h;rw [hp] at h;exact h.elim
  ·obtain ⟨x,hx,h⟩:=(bX hp).1 h
   unfold one at h
   have hu:stepOf C full (F.bh q.dst x) (H.upd up) o=.bad:=by
    rw [hstep]
    rcases uF (C:=C) (full:=full) (H:=H.upd up) ho hs with e | ⟨j,c,hj,e,hsm⟩
    ·exact e
    ·have:(H.upd up) j=H j:=by
      rcases ek (ml:=ml) hp with e' | e' | ⟨e',d,c',hd,e2,h0⟩
      ·rw [e'];rfl
      ·omega
      ·rw [e2];show (H.put d c') j=H j
       rw [Hp.cj,if_neg]
       intro e3
       exact hq.2 d hd (e3▸hj)
     rw [←hsm H this.symm,hb]
   rw [hu] at h
   exact h
  ·unfold one at h
   rw [hp] at h
   have hl:lvl C.SU (some ml) q=0:=by
    obtain ⟨co,_⟩:=eH (ml:=ml) hp
    show wY _=0
    rcases co with e | e | e <;> first | (rw [e];rfl) | omega
   obtain ⟨r,F',H',w2,hH,hF,hv⟩:=bN.some hL h
   rw [hH hl,hF (by omega)] at hv
   have hv:one C (some ml) full o k (F.bh q.dst r) H w2:=hv
   unfold one at hv
   rw [hstep,hb] at hv
   exact hv
 ·have rQ:∀ (k':Fr→Hp→World→Prop) (w':World),one C (some ml) full o k' F H w'↔k' F (H.put j c) w':=fun k' w'=>by
   unfold one
   rw [hst,hod]
   rfl
  have Mi:∀ (x:AV) (H':Hp) (w':World),H' j=H j→one C (some ml) full o k (F.bh q.dst x) H' w'→k (F.bh q.dst x) (H'.put j c) w':=fun x H' w' hH hv=>by
   unfold one at hv
   rw [hstep,Hc H' hH,hst,hod] at hv
   exact hv
  rw [rQ]
  have hqs:stepOf C full F (H.put j c) q=stepOf C full F H q:=Mh hq hj hqm
  rcases eN (C:=C) (stepOf C full F H q) with hp | ⟨Ψp,up,hp⟩ | ⟨d,hp⟩
  ·unfold one at h;rw [hp] at h;exact h.elim
  ·obtain ⟨x,hx,h⟩:=(bX hp).1 h
   refine (bX (by rw [hqs];exact hp)).2 ⟨x,hx,?_⟩
   rcases ek (ml:=ml) hp with e' | e' | ⟨e',d,c',hd,e2,h0⟩
   ·subst e'
    exact Mi x H w rfl h
   ·omega
   ·subst e2
    have hdj:d≠j:=fun e3=>hq.2 d hd (e3▸hj)
    have hHj:(H.upd (some (d,c'))) j=H j:=by
     show (H.put d c') j=H j
     rw [Hp.cj,if_neg (fun e=>hdj e.symm)]
    have:=Mi x (H.upd (some (d,c'))) w hHj h
    have hcomm:(H.upd (some (d,c'))).put j c=(H.put j c).upd (some (d,c')):=by
     funext z
     show ((H.put d c').put j c) z=((H.put j c).put d c') z
     simp only [Hp.cj]
     by_cases h1:z=j
     ·subst h1;rw [if_pos rfl,if_neg (fun e=>hdj e.symm)];exact (if_pos rfl).symm
     ·rw [if_neg h1]
      by_cases h2:z=d
      ·rw [if_pos h2,if_pos h2]
      ·rw [if_neg h2,if_neg h2,if_neg h1]
    rw [hcomm] at this
    exact this
  ·have hm4:ax C.SU ml q=4:=by
    obtain ⟨co,_⟩:=eH (ml:=ml) hp
    omega
   have hl:lvl C.SU (some ml) q=0:=by show wY _=0;rw [hm4];rfl
   have Le:d.ids=[]:=by
    rcases mU hp with e | e | e
    ·cases e
    ·cases e
    ·classical
     obtain ⟨H0,hH0⟩:∃ H0:Hp,H0=fun _=>none:=⟨_,rfl⟩
     obtain ⟨F',hF'⟩:∃ F':Fr,F'=fun t=>if Operand.tmp t∈q.op.operands.toList then F t else none:=⟨_,rfl⟩
     have e2:act C F' H0 q=act C F H0 q:=zp (fun y hy=>rO fun t ht=>by rw [hF'];exact if_pos (ht▸hy))
     have e1:act C F' H0 q=.call d:=e2.trans ((fM (ml:=ml) (H:=H) (.inr hm4)).trans e)
     have jl:gJ F' H0:=fun t v hv i hi=>by
      rw [hF'] at hv
      dsimp only at hv
      split at hv
      ·rename_i hm
       rw [(hq.1 _ hm v hv).2 hm4] at hi;cases hi
      ·cases hv
     rw [List.eq_nil_iff_forall_not_mem]
     intro i hi
     exact um jl e1 i hi (by rw [hH0])
   unfold one at h ⊢
   rw [hqs,hp]
   rw [hp] at h
   rw [hl] at h ⊢
   have h1:bN C 0 F H d w fun r _ _ w2=>k (F.bh q.dst r) (H.put j c) w2:=bN.mono hL h fun r F' H' w2 _ _ hH hF hv=>by
    rw [hH rfl,hF (by omega)] at hv
    exact Mi r H w2 rfl hv
   have h2:=bN.heap (H':=H.put j c) (F:=F) (j:=fun r w2=>k (F.bh q.dst r) (H.put j c) w2) (fun i hi=>by
    exfalso
    have:∀ {i:Nat},¬ Reach H [] i:=fun {i} hr=>by
     induction hr with
     | base hi=>cases hi
     | step _ _ _ ih=>exact ih
    rw [Le] at hi
    exact this hi) h1
   have hL2:Live C F (H.put j c) w:=by
    have:=iU hC hL (Ψ:=fun x=>x=.val undef) (u:=some (j,c)) (by rw [hst];rfl) (x:=.val undef) rfl
    rw [hod] at this
    exact this
   refine bN.mono hL2 h2 fun r F' H' w2 _ _ hH hF hv=> ?_
   rw [hH rfl,hF (by omega)]
   exact hv
theorem Jt (hC:C.Ok) {k':Fr→Hp→World→Prop} (hL:Live C F H w) (h5:ax C.SU ml p≠5) (h:one C (some ml) full p k F H w) (hk:∀ x H' w',Live C (F.bh p.dst x) H' w'→k (F.bh p.dst x) H' w'→k' (F.bh p.dst x) H' w'):one C (some ml) full p k' F H w:=by
 rcases eN (C:=C) (stepOf C full F H p) with hp | ⟨Ψp,up,hp⟩ | ⟨d,hp⟩
 ·unfold one at h;rw [hp] at h;exact h.elim
 ·obtain ⟨x,hx,h⟩:=(bX hp).1 h
  exact (bX hp).2 ⟨x,hx,hk _ _ _ (iU hC hL hp hx) h⟩
 ·have hb:stepOf C full F H p≠.bad:=fun e=>by rw [e] at hp;cases hp
  have hd:=(iT hb).1
  have hl:lvl C.SU (some ml) p≤1:=by
   obtain ⟨co,_⟩:=eH (ml:=ml) hp
   show wY _≤1
   rcases co with e | e | e
   ·rw [e];decide
   ·rw [e];decide
   ·exact absurd e h5
  unfold one at h ⊢
  rw [hp] at h ⊢
  refine bN.mono hL h fun r F' H' w2 hL2 Cb _ hF hv=> ?_
  have e:=hF hl
  subst e
  refine hk _ _ _ ?_ hv
  obtain ⟨β,a,w1,hr,Ay⟩:=hL2.rel
  exact Live.of (hr.put hd Cb) Ay
theorem Ju (hC:C.Ok) (hL:Live C F H w) (h5:ax C.SU ml p≠5) (h:one C (some ml) full p k F H w):∃ x H' w',k (F.bh p.dst x) H' w':=by
 rcases eN (C:=C) (stepOf C full F H p) with hp | ⟨Ψp,up,hp⟩ | ⟨d,hp⟩
 ·unfold one at h;rw [hp] at h;exact h.elim
 ·obtain ⟨x,hx,h⟩:=(bX hp).1 h
  exact ⟨_,_,_,h⟩
 ·have hl:lvl C.SU (some ml) p≤1:=by
   obtain ⟨co,_⟩:=eH (ml:=ml) hp
   show wY _≤1
   rcases co with e | e | e
   ·rw [e];decide
   ·rw [e];decide
   ·exact absurd e h5
  unfold one at h
  rw [hp] at h
  obtain ⟨r,F',H',w2,_,hF,hv⟩:=bN.some hL h
  have e:=hF hl
  subst e
  exact ⟨_,_,_,hv⟩
def ql (C:Cx) (ml:List FuncId) (B S J:List Nat) (j:Nat) (o:Oper) (F:Fr):Prop:=(B.contains j=true→xM C.SU ml J F o)∧(S.contains j=true→Toward J F o)
theorem xM.lZ {J:List Nat} {d:Option Nat} {x:AV} (h:∀ n,d=some n→n∉o.looksAt full) (ha:xM C.SU ml J (F.bh d x) o∨xM C.SU ml J F o):xM C.SU ml J F o∧xM C.SU ml J (F.bh d x) o:=by
 have key:∀ y∈o.op.operands.toList,ev (F.bh d x) y=ev F y:=fun y hy=>rO fun t ht=>kc fun n hn e=>h n hn (e▸jb hy ht)
 rcases ha with ha | ha
 ·exact ⟨⟨fun y hy v hv=>ha.1 y hy v ((key y hy).trans hv),ha.2⟩,ha⟩
 ·exact ⟨ha,⟨fun y hy v hv=>ha.1 y hy v ((key y hy).symm.trans hv),ha.2⟩⟩
theorem Toward.lZ {J:List Nat} {d:Option Nat} {x:AV} (h:∀ n,d=some n→n∉o.looksAt full) (ha:Toward J (F.bh d x) o∨Toward J F o):Toward J F o∧Toward J (F.bh d x) o:=by
 have key:∀ y∈o.op.operands.toList,ev (F.bh d x) y=ev F y:=fun y hy=>rO fun t ht=>kc fun n hn e=>h n hn (e▸jb hy ht)
 rcases ha with ⟨t,x',y,j,off,hop,hx,hj⟩ | ⟨t,x',y,j,off,hop,hx,hj⟩
 ·exact ⟨⟨t,x',y,j,off,hop,(key x' (by rw [hop];simp [Op.operands])).symm.trans hx,hj⟩,⟨t,x',y,j,off,hop,hx,hj⟩⟩
 ·exact ⟨⟨t,x',y,j,off,hop,hx,hj⟩,⟨t,x',y,j,off,hop,(key x' (by rw [hop];simp [Op.operands])).trans hx,hj⟩⟩
theorem ql.lZ {B S J:List Nat} {j:Nat} {d:Option Nat} {x:AV} (h:∀ n,d=some n→n∉o.looksAt full):ql C ml B S J j o (F.bh d x)↔ql C ml B S J j o F:=
 ⟨fun g=>⟨fun e=>(xM.lZ h (.inl (g.1 e))).1,fun e=>(Toward.lZ h (.inl (g.2 e))).1⟩,fun g=>⟨fun e=>(xM.lZ h (.inr (g.1 e))).2,fun e=>(Toward.lZ h (.inr (g.2 e))).2⟩⟩
def nd (C:Cx) (ml:List FuncId) (full:Array Oper) (B S J:List Nat):List Nat→(Fr→Hp→World→Prop)→Fr→Hp→World→Prop
 | [],K,F,H,w=>K F H w
 | j::r,K,F,H,w=>match full[j]? with
   | some o=>ql C ml B S J j o F∧one C (some ml) full o (nd C ml full B S J r K) F H w
   | none=>False
theorem kh {B S J:List Nat} {j:Nat} {r:List Nat} {K:Fr→Hp→World→Prop} (ho:full[j]? =some o):nd C ml full B S J (j::r) K F H w↔ql C ml B S J j o F∧one C (some ml) full o (nd C ml full B S J r K) F H w:=by
 conv=>lhs;unfold nd
 rw [ho]
structure Fits (su:TypeId→Bool) (ml:List FuncId) (full:Array Oper) (B S:List Nat) (i j:Nat) (p o:Oper):Prop where
 ap:p.apart full o=true
 ok:indep su ml full p o=true∨(B.contains i=true∧S.contains j=true)
 p5:ax su ml p≠5
 o5:ax su ml o≠5
 pB:B.contains i=true→ax su ml p≤2∨ax su ml p=4
 oS:S.contains j=true→nc o=true
theorem Hd (hC:C.Ok) {B S J:List Nat} {K:Fr→Hp→World→Prop} {i:Nat} {post:List Nat} (ho:full[i]? =some o):∀ (pre:List Nat) (F:Fr) (H:Hp) (w:World),(∀ j∈pre,∃ q,full[j]? =some q∧Fits C.SU ml full B S j i q o)→Live C F H w→nd C ml full B S J (pre++i::post) K F H w→nd C ml full B S J (i::(pre++post)) K F H w
 | [],F,H,w,_,_,h=>h
 | j::r,F,H,w,hi,hL,h=>by
   obtain ⟨q,hq,hf⟩:=hi j (by simp)
   obtain ⟨a1,a2,a3⟩:=Oper.apart_spec hf.ap
   obtain ⟨hs,h⟩:=(kh (r:=r++i::post) hq).1 h
   have h1:one C (some ml) full q (fun F' H' w'=>ql C ml B S J i o F'∧one C (some ml) full o (nd C ml full B S J (r++post) K) F' H' w') F H w:=
    xl hC hL h fun F' H' w' hL' hv=>(kh ho).1 (Hd hC ho r F' H' w' (fun q' hq'=>hi q' (by simp [hq'])) hL' hv)
   obtain ⟨x,H',w',hx,_⟩:=Ju hC hL hf.p5 h1
   have ho':ql C ml B S J i o F:=(ql.lZ a1).1 hx
   have h2:one C (some ml) full q (one C (some ml) full o (nd C ml full B S J (r++post) K)) F H w:=xl hC hL h1 fun F' H' w' _ hv=>hv.2
   refine (kh ho).2 ⟨ho',?_⟩
   have h3:one C (some ml) full o (one C (some ml) full q (nd C ml full B S J (r++post) K)) F H w:=by
    rcases hf.ok with e | ⟨e1,e2⟩
    ·exact swap hC hL e h2
    ·exact swapL hC hL hf.ap (hs.1 e1) (hf.pB e1) (ho'.2 e2) (hf.oS e2) h2
   exact Jt hC hL hf.o5 h3 fun x H' w' _ hv=>(kh (r:=r++post) hq).2 ⟨(ql.lZ a3).2 hs,hv⟩
theorem FJ (hC:C.Ok) {B S J:List Nat} (kD:FI C.SU ml full B S=true) {K:Fr→Hp→World→Prop} (hQ:∀ β F H w a w',K F H w→Rel C β F H a w'→aF C.K w w'→Q .normal a w'):
  ∀ (fuel:Nat) (listed:Array Bool) (rem:List Nat) (β:Nat→Nat) (F:Fr) (H:Hp) (w:World) (a:Act) (w':World),listed.size=full.size→rem.Pairwise (·< ·)→(∀ x,x∈rem↔x < full.size∧listed.getD x true=false)→rem.length≤fuel→
    (∀ j,j < full.size→listed.getD j true=true→∀ d∈du full j,listed.getD d false=true)→
    nd C ml full B S J rem K F H w→Rel C β F H a w'→aF C.K w w'→wpAny C.P .any full Q fuel listed a w':=by
 unfold FI at kD
 simp only [Bool.and_eq_true] at kD
 obtain ⟨hp0,h5,hB,hS⟩:=kD
 have gu:∀ j,j < full.size→∀ d∈du full j,d < j:=fun j hj d hd=>by
  have:=List.all_eq_true.1 hp0 j (List.mem_range.2 hj)
  rw [Bool.and_eq_true] at this
  exact Nat.le_of_ble_eq_true (List.all_eq_true.1 this.1 d hd)
 have GJ:∀ i j,i < j→j < full.size→sb C.SU ml full B S i j=true:=fun i j hij hj=>by
  have:=List.all_eq_true.1 hp0 j (List.mem_range.2 hj)
  rw [Bool.and_eq_true] at this
  exact List.all_eq_true.1 this.2 i (List.mem_range.2 hij)
 have hne5:∀ {i:Nat} {o:Oper},full[i]? =some o→ax C.SU ml o≠5:=fun {i o} ho e=>by
  have:=List.all_eq_true.1 h5 o (List.mem_of_getElem? (by simpa using ho))
  rw [e] at this;exact absurd this (by decide)
 have hBm:∀ {i:Nat} {o:Oper},full[i]? =some o→B.contains i=true→ax C.SU ml o≤2∨ax C.SU ml o=4:=fun {i o} ho hb=>by
  have:=List.all_eq_true.1 hB i (by simpa using hb)
  rw [ho] at this
  dsimp only at this
  rw [Bool.or_eq_true] at this
  exact this.imp Nat.le_of_ble_eq_true Nat.eq_of_beq_eq_true
 have hSm:∀ {i:Nat} {o:Oper},full[i]? =some o→S.contains i=true→nc o=true:=fun {i o} ho hb=>by
  have:=List.all_eq_true.1 hS i (by simpa using hb)
  rw [ho] at this
  exact this
 intro fuel
 induction fuel with
 | zero=>
   intro listed rem β F H w a w' hsz hpw qH hlen oD h hr hk
   have h0:rem=[]:=List.eq_nil_of_length_eq_zero (by omega)
   subst h0
   refine ⟨?_,hQ β F H w a w' h hr hk⟩
   rw [List.eq_nil_iff_forall_not_mem]
   intro i hi
   have:=mem_ready.1 hi
   exact absurd ((qH i).2 ⟨this.1,this.2.1⟩) (by simp)
 | succ fuel ih=>
   intro listed rem β F H w a w' hsz hpw qH hlen oD h hr hk
   constructor
   ·intro xm
    cases rem with
    | nil=>exact hQ β F H w a w' h hr hk
    | cons i r=>
      exfalso
      have hi:=(qH i).1 (by simp)
      have:i∈Region.ready .any full listed:=mem_ready.2 ⟨hi.1,hi.2,fun d hd=>by
       have hdi:=gu i hi.1 d hd
       cases hl:listed.getD d true with
       | true=>
         rw [Array.getD_eq_getD_getElem?] at hl ⊢
         have:d < listed.size:=by omega
         rw [Array.getElem?_eq_getElem this] at hl ⊢
         exact hl
       | false=>
         have hm:=(qH d).2 ⟨by omega,hl⟩
         rcases List.mem_cons.1 hm with e | e
         ·omega
         ·have:=(List.pairwise_cons.1 hpw).1 d e;omega⟩
      rw [xm] at this
      cases this
   ·intro i hi
    obtain ⟨ky,yA,Bv⟩:=mem_ready.1 hi
    obtain ⟨pre,post,rfl⟩:=List.append_of_mem ((qH i).2 ⟨ky,yA⟩)
    have ho:=Array.getElem?_eq_getElem ky
    generalize full[i]=o at ho
    have nx:=List.pairwise_append.1 hpw
    have hlt:∀ p∈pre,p < i:=fun p hp=>nx.2.2 p hp i (by simp)
    have IM:∀ p∈post,i < p:=(List.pairwise_cons.1 nx.2.1).1
    have hb:nd C ml full B S J (i::(pre++post)) K F H w:=by
     refine Hd hC ho _ F H w (fun p hp=> ?_) (Live.of hr hk) h
     have iB:=(qH p).1 (by simp [hp])
     have zw:=hlt p hp
     have Bw:=Array.getElem?_eq_getElem iB.1
     generalize full[p]=q at Bw
     have hno:listed.getD p false=false:=by
      have h1:=iB.2
      have:p < listed.size:=by omega
      rw [Array.getD_eq_getD_getElem?] at h1 ⊢
      rw [Array.getElem?_eq_getElem this] at h1 ⊢
      exact h1
     refine ⟨q,Bw,?_,?_,hne5 Bw,hne5 ho,hBm Bw,hSm ho⟩
     ·have:=GJ p i zw ky
      unfold sb mg at this
      rw [Bw,ho] at this
      simp only [Bool.or_eq_true,Bool.and_eq_true] at this
      rcases this with (e | e) | e
      ·unfold indep at e
       rw [Bool.and_eq_true] at e
       exact e.1
      ·have:=jJ gu oD hsz full.size i ky Bv e
       rw [hno] at this;cases this
      ·exact e.2.2
     ·have:=GJ p i zw ky
      unfold sb mg at this
      rw [Bw,ho] at this
      simp only [Bool.or_eq_true,Bool.and_eq_true] at this
      rcases this with (e | e) | e
      ·exact .inl e
      ·have:=jJ gu oD hsz full.size i ky Bv e
       rw [hno] at this;cases this
      ·exact .inr ⟨e.1,e.2.1⟩
    have rQ:one C (some ml) full o (nd C ml full B S J (pre++post) K) F H w:=((kh ho).1 hb).2
    have:=mf (Q:=Q) (next:=wpAny C.P .any full Q fuel (listed.setIfInBounds i true)) hC rQ hr hk fun bC F' H' w1 a' sX h1 h2 h3=>by
     refine ih (listed.setIfInBounds i true) (pre++post) bC F' H' w1 a' sX (by simp [hsz]) ?_ ?_ ?_ ?_ h1 h2 h3
     ·exact List.pairwise_append.2 ⟨nx.1,(List.pairwise_cons.1 nx.2.1).2,fun x hx y hy=>nx.2.2 x hx y (by simp [hy])⟩
     ·intro x
      by_cases hx:x=i
      ·subst hx
       constructor
       ·intro hm
        rcases List.mem_append.1 hm with e | e
        ·exact absurd (hlt _ e) (by omega)
        ·exact absurd (IM _ e) (by omega)
       ·rintro ⟨_,e⟩
        simp [Array.getD_eq_getD_getElem?,Array.getElem?_setIfInBounds,hsz,ky] at e
      ·have e1:(listed.setIfInBounds i true).getD x true=listed.getD x true:=by
        rw [Array.getD_eq_getD_getElem?,Array.getElem?_setIfInBounds,if_neg (fun e=>hx e.symm),←Array.getD_eq_getD_getElem?]
       rw [e1,←qH x]
       simp [hx]
     ·have:(pre++i::post).length=(pre++post).length + 1:=by simp;omega
      omega
     ·intro j hj hl d hd
      have iE:listed.getD d false=true→(listed.setIfInBounds i true).getD d false=true:=fun e=>by
       by_cases hx:d=i
       ·subst hx
        simp [Array.getD_eq_getD_getElem?,Array.getElem?_setIfInBounds,hsz,ky]
       ·rw [Array.getD_eq_getD_getElem?,Array.getElem?_setIfInBounds,if_neg (fun e=>hx e.symm),←Array.getD_eq_getD_getElem?];exact e
      by_cases hx:j=i
      ·subst hx;exact iE (Bv d hd)
      ·refine iE (oD j hj ?_ d hd)
       rwa [Array.getD_eq_getD_getElem?,Array.getElem?_setIfInBounds,if_neg (fun e=>hx e.symm),←Array.getD_eq_getD_getElem?] at hl
    unfold wpOp
    rw [ho]
    simp only
    split
    ·rename_i hw;rw [if_pos hw] at this;exact .inl this
    ·rename_i hw;rw [if_neg hw] at this;exact this
theorem one_imp {k':Fr→Hp→World→Prop} (h:one C (some ml) full o k F H w) (hk:∀ F' H' w',k F' H' w'→k' F' H' w'):one C (some ml) full o k' F H w:=by
 unfold one at h ⊢
 split
 ·rename_i e;rw [e] at h;exact hk _ _ _ h
 ·rename_i e;rw [e] at h
  obtain ⟨cs,h1,h2,h3⟩:=h
  exact ⟨cs,h1,h2,hk _ _ _ h3⟩
 ·rename_i e;rw [e] at h
  obtain ⟨vs,h1,h2,h3⟩:=h
  exact ⟨vs,h1,h2,hk _ _ _ h3⟩
 ·rename_i e;rw [e] at h;exact ⟨h.1,hk _ _ _ h.2⟩
 ·rename_i e;rw [e] at h
  intro w1 β h1 h2 h3
  refine (h w1 β h1 h2 h3).mono ?_
  rintro e w2 ⟨bC,r,del,ups,he,Cb,yv,vJ,hch,hv⟩
  exact ⟨bC,r,del,ups,he,Cb,yv,vJ,hch,fun a b c ρ fD=>hk _ _ _ (hv a b c ρ fD)⟩
 ·rename_i e;rw [e] at h;exact h
theorem nd.chunk {B S J:List Nat} {K:Fr→Hp→World→Prop} {l2:List Nat}:∀ (l1:List Nat) {F:Fr} {H:Hp} {w:World},(l1.all fun j=>(!B.contains j && !S.contains j) && (full[j]?).isSome)=true→aA C (some ml) full (l1.filterMap (full[·]?)) (nd C ml full B S J l2 K) F H w→nd C ml full B S J (l1++l2) K F H w
 | [],F,H,w,_,h=>h
 | j::r,F,H,w,h0,h=>by
   rw [List.all_cons,Bool.and_eq_true,Bool.and_eq_true,Bool.and_eq_true,Bool.not_eq_true',Bool.not_eq_true'] at h0
   cases ho:full[j]? with
   | none=>rw [ho] at h0;exact absurd h0.1.2 (by simp)
   | some o=>
     rw [List.filterMap_cons_some ho] at h
     exact (kh (r:=r++l2) ho).2 ⟨⟨fun e=>(by rw [h0.1.1.1] at e;cases e),fun e=>(by rw [h0.1.1.2] at e;cases e)⟩,one_imp h fun F' H' w' hv=>nd.chunk r h0.2 hv⟩
theorem nd.one {B S J:List Nat} {K:Fr→Hp→World→Prop} {j:Nat} {r:List Nat} (ho:full[j]? =some o) (hs:ql C ml B S J j o F) (h:aA C (some ml) full [o] (nd C ml full B S J r K) F H w):nd C ml full B S J (j::r) K F H w:=(kh ho).2 ⟨hs,h⟩
theorem VS.drawL {k:List It} (hC:C.Ok) (hm:C.P.follows .mixedOrders=true) {id:Nat} {ops:Array Oper} (ml:List FuncId) (B S J:List Nat) (kD:FI C.SU ml ops B S=true) (h:nd C ml ops B S J (List.range ops.size) (VS C Q k) F H w):VS C Q (.code (.region id ops true)::k) F H w:=fun β a w' hr hk=>by
 refine wp_region_any hm ?_
 refine FJ (K:=VS C Q k) hC kD (fun β F H w a w' h hr hk=>h β a w' hr hk) ops.size (Array.replicate ops.size false) (List.range ops.size) β F H w a w'.drew (by simp) List.pairwise_lt_range ?_ (by simp) ?_ h hr.drew hk.drew
 ·intro x
  rw [List.mem_range]
  constructor
  ·intro hx
   refine ⟨hx,?_⟩
   simp [Array.getD_eq_getD_getElem?,Array.getElem?_replicate,hx]
  ·exact fun h=>h.1
 ·intro j hj hl
  simp [Array.getD_eq_getD_getElem?,Array.getElem?_replicate,hj] at hl
end
theorem away_of {su:TypeId→Bool} {ml:List FuncId} {J:List Nat} {F:Fr} {o:Oper} (h:(o.op.operands.toList.all fun x=>match ev F x with | some v=>v.ids.isEmpty | none=>true)=true) (hd:(match o.dst with | some d=> !J.contains d | none=>true)=true):xM su ml J F o:=by
 refine ⟨fun x hx v hv=> ?_,fun d hd'=> ?_⟩
 ·have:=List.all_eq_true.1 h x hx
  rw [hv] at this
  have he:v.ids=[]:=List.isEmpty_iff.1 this
  exact ⟨fun i hi=>by (rw [he] at hi;cases hi),fun _=>he⟩
 ·rw [hd'] at hd
  intro hm
  dsimp only at hd
  rw [show J.contains d=true from List.elem_eq_true_of_mem hm] at hd
  cases hd
section
variable {C:Cx} {ml:List FuncId} {full:Array Oper} {B S J:List Nat} {K:Fr→Hp→World→Prop} {F:Fr} {H:Hp} {w:World} {j:Nat} {r:List Nat} {o:Oper}
theorem nd.b (ho:full[j]? =some o) (h1:(o.op.operands.toList.all fun x=>match ev F x with | some v=>v.ids.isEmpty | none=>true)=true) (h2:(match o.dst with | some d=> !J.contains d | none=>true)=true) (h3:S.contains j=false) (h:aA C (some ml) full [o] (nd C ml full B S J r K) F H w):nd C ml full B S J (j::r) K F H w:=
 nd.one ho ⟨fun _=>away_of h1 h2,fun e=>by (rw [h3] at e;cases e)⟩ h
theorem nd.s (ho:full[j]? =some o) (h1:Toward J F o) (h3:B.contains j=false) (h:aA C (some ml) full [o] (nd C ml full B S J r K) F H w):nd C ml full B S J (j::r) K F H w:=
 nd.one ho ⟨fun e=>by (rw [h3] at e;cases e),fun _=>h1⟩ h
end
end Go.Proofs.YtabalinjfgcfeaaGreat
namespace Go.Proofs.YtabalinjfgcfeaaGreat
open Go.RowKit
def mr (o:Oper):Bool:=match o.op with | .defer _=>false | _=>true
def iy (F:Fence):Prop:=F=Fence.wide∨∃ l,F=Fence.wide.inRound l
theorem iy.wide:iy Fence.wide:=.inl rfl
section
variable {Fe:Fence} {n:Nat} {P:Program} {o:Oper} {a:Act} {w:World} {K:Act→World→Prop} {Q:Exit→Act→World→Prop}
theorem iy.fn (h:iy Fe) (f:FuncId):Fe.fn f:=by rcases h with rfl | ⟨l,rfl⟩ <;> trivial
theorem iy.depth (h:iy Fe):Fe.depth=none:=by rcases h with rfl | ⟨l,rfl⟩ <;> rfl
theorem iy.calls (h:iy Fe) {f:FuncId} {args:Array Value} {R:Ending→World→Prop} (hc:Calls P f args w R):CallsIn Fe n P f args w R:=by
 have:=(callsIn_wide (n:=n)).2 hc
 rcases h with rfl | ⟨l,rfl⟩
 ·exact this
 ·exact this
theorem iy.rows (h:iy Fe) {r:String} {args:Array Value} {R:Value→World→Prop} (hc:Rows P r args w R):RowsIn Fe n P r args w R:=by
 have:RowsIn Fence.wide n P r args w R:=fun c cs _=>let ⟨v,w',r,s⟩:=hc c cs;⟨v,w',r,stepsIn_wide.2 s⟩
 rcases h with rfl | ⟨l,rfl⟩
 ·exact this
 ·exact this
theorem iy.upon (h:iy Fe) {r:Result Next} (hu:o.upon P a K Q r):o.uponIn Fe n P a K Q r:=by
 have hd:Fe.depth.isSome=true→1≤n:=fun e=>by rw [h.depth] at e;cases e
 cases r with
 | ok x w'=>
   cases x with
   | value v=>exact hu
   | skip=>exact hu
   | defer d=>exact hu
   | enter f args=>exact ⟨hd,h.calls hu⟩
   | row r args=>exact ⟨hd,h.rows hu⟩
   | round l f tmps assign body=>exact hu.elim
   | _=>exact hu.elim
 | halt x w'=>
   cases x with
   | panic v=>exact hu
   | _=>exact hu.elim
theorem iy.sem (h:iy Fe) (hd:mr o=true):o.semAt Fe.round a.eval=execOp a.eval o:=by
 rcases h with rfl | ⟨l,rfl⟩
 ·rfl
 ·exact Oper.semAt_some l _ _ fun c e=>by unfold mr at hd;rw [e] at hd;cases hd
theorem iy.op (h:iy Fe) (hd:mr o=true) (hw:o.wp P a w K Q):o.wpIn Fe n P a w K Q:=by
 refine ⟨fun f _=>h.fn f,?_⟩
 rw [h.sem hd]
 exact h.upon hw
end
section
variable {Fe:Fence} {n:Nat} {C:Cx} {Q:Exit→Act→World→Prop} {ml:List FuncId} {full:Array Oper}
theorem uG (hB:iy Fe) (hC:C.Ok) {m:Option (List FuncId)} {K:Fr→Hp→World→Prop} {tl:List Oper} (hQ:∀ β F H w a w',K F H w→Rel C β F H a w'→aF C.K w w'→wpListIn Fe n C.P full Q tl a w'):
  ∀ (l:List Oper),l.all mr=true→∀ (β:Nat→Nat) (F:Fr) (H:Hp) (w:World) (a:Act) (w':World),aA C m full l K F H w→Rel C β F H a w'→aF C.K w w'→wpListIn Fe n C.P full Q (l++tl) a w'
 | [],_,β,F,H,w,a,w',h,hr,hk=>hQ β F H w a w' h hr hk
 | o::r,hd,β,F,H,w,a,w',h,hr,hk=>by
   rw [List.all_cons,Bool.and_eq_true] at hd
   show wpListIn Fe n C.P full Q (o::(r++tl)) a w'
   refine wpListIn_step fun K' hK'=> ?_
   have:=mf hC (next:=K') (Q:=Q) (k:=aA C m full r K) h hr hk fun bC F' H' w1 a' sX h1 h2 h3=>hK' _ _ (uG hB hC hQ r hd.2 bC F' H' w1 a' sX h1 h2 h3)
   split at this
   ·rename_i hw;rw [if_pos hw];exact hB.op hd.1 this
   ·rename_i hw;rw [if_neg hw];exact ⟨fun f _=>hB.fn f,this⟩
end
section
variable {Fe:Fence} {C:Cx} {Q:Exit→Act→World→Prop} {k:List It} {F F':Fr} {H H':Hp} {w:World} {id:Nat} {ops:Array Oper} {l':List Oper}
end
def Fr.vals (L:List (Nat×Value)):Fr:=Fr.of (L.map fun p=>(p.1,.val p.2))
def DB (F:Fr):List (Nat×Value)→Prop
 | []=>True
 | p::r=>F p.1=some (.val p.2)∧DB F r
theorem DB.mem {F:Fr}:∀ {L:List (Nat×Value)} {p:Nat×Value},DB F L→p∈L→F p.1=some (.val p.2)
 | q::r,p,h,hm=>by
   rcases List.mem_cons.1 hm with rfl | hm
   ·exact h.1
   ·exact DB.mem h.2 hm
theorem xN {L:List (Nat×Value)} {d:Nat} {v:AV} (h:Fr.vals L d=some v):∃ u,v=.val u∧(d,u)∈L:=by
 have:=Fr.fN h
 obtain ⟨p,hp,e⟩:=List.mem_map.1 this
 cases e
 exact ⟨p.2,rfl,hp⟩
structure Knows (N:Nat) (L:List (Nat×Value)) (a:Act):Prop where
 defers:a.defers=[]
 size:a.tmps.size=N
 tmp:∀ p∈L,p.1 < N∧a.tmps.getD p.1 undef=p.2
theorem Knows.rel {C:Cx} {L:List (Nat×Value)} {a:Act} {w:World} (h:Knows C.N L a) (ho:C.Old w):Rel C (fun _=>0) (Fr.vals L) (fun _=>none) a w:=
 ⟨h.defers,h.size,fun d v hd=>by obtain ⟨u,rfl,hm⟩:=xN hd;exact (h.tmp _ hm).2,fun i t cs hi=>(by cases hi),fun i j hi=>absurd rfl hi,fun d v hd i hi=>(by obtain ⟨u,rfl,hm⟩:=xN hd;cases hi),fun d v hd=>(by obtain ⟨u,rfl,hm⟩:=xN hd;exact (h.tmp _ hm).1),⟨fun i t cs hi=>(by cases hi),fun i t cs hi=>(by cases hi),fun i hi=>rfl⟩,ho⟩
theorem Rel.knows {C:Cx} {β:Nat→Nat} {F:Fr} {H:Hp} {a:Act} {w:World} {L:List (Nat×Value)} (hr:Rel C β F H a w) (hL:DB F L):Knows C.N L a:=
 ⟨hr.defers,hr.size,fun p hp=>⟨hr.fits _ _ (hL.mem hp),hr.tmp _ _ (hL.mem hp)⟩⟩
def Mj (N:Nat) (J:Nat→List (Nat×Value)→World→Prop) (n:Nat) (a:Act) (w:World):Prop:=∃ L,J n L w∧Knows N L a
section
variable {C:Cx} {Q:Exit→Act→World→Prop} {k:List It} {F:Fr} {H:Hp} {w:World} {J:Nat→List (Nat×Value)→World→Prop}
theorem VS.loopR (D:World→Cx) (hP:∀ w,(D w).P=C.P) (hN:∀ w,(D w).N=C.N) (hO:∀ w,(D w).Old w) (n0:Nat) {body:Code} (h0:∀ w',aF C.K w w'→C.Old w'→∃ L,DB F L∧J n0 L w')
  (round:∀ n L W,J n L W→VS (D W) Q (.code body::.back (fun a w=>∃ m,m < n∧Mj C.N J m a w)::k) (Fr.vals L) (fun _=>none) W):VS C Q (.code (.loop body)::k) F H w:=fun β a w' hr hk=>by
 obtain ⟨L,h1,h2⟩:=h0 w' hk hr.old
 refine wp_loop_ghost (Mj C.N J) n0 ⟨L,h2,hr.knows h1⟩ ?_
 rintro n a1 w1 ⟨L1,hJ,sR⟩
 have hkn':Knows (D w1).N L1 a1:=by rw [hN];exact sR
 have:=round n L1 w1 hJ _ a1 w1 (hkn'.rel (hO w1)) (aF.refl _ _)
 rw [hP] at this
 exact this
theorem VS.backR {n N:Nat} (hN:C.N=N) (m:Nat) (hm:m < n) (L:List (Nat×Value)) (hL:DB F L) (h:∀ w',aF C.K w w'→C.Old w'→J m L w'):VS C Q (.back (fun a w=>∃ m,m < n∧Mj N J m a w)::k) F H w:=fun β a w' hr hk=>by
 subst hN
 exact ⟨m,hm,L,h w' hk hr.old,hr.knows hL⟩
theorem VS.kF (hC:C.Ok) {fn:Func} {R:Ending→World→Prop} {vs:List AV} (h:oI C F H fn.results.toList=some vs) (hR:∀ w' β,aF C.K w w'→C.Old w'→Ends C β H w'→R (.returned (iC (vs.map (AV.aX β)))) w'):VS C (bodyPost C.P fn R) [] F H w:=
 fun β a w' hr hk=>⟨hr.defers,_,ux hC hr h,hR w' β hk hr.old ⟨hr.own,hr.apart⟩⟩
end
section
variable {C:Cx} {F:Fr} {H:Hp} {w:World} {Q:Exit→Act→World→Prop} {k:List It}
end
theorem qJ.bk {w w1 W:World} {ad:List Nat} (h:aj w w1) (k:qJ ad w1 W) (hg:∀ g∈ad,w.heap.size≤g):aj w W:=
 Below.trans h ⟨k.os,k.tape,k.output,k.size,fun g Ij=>k.nH g (Nat.lt_of_lt_of_le Ij h.size) fun hm=>by have:=hg g hm;omega⟩
end Go.Proofs.YtabalinjfgcfeaaGreat
namespace Go.Proofs.YtabalinjfgcfeaaGreat
open Go.RowKit
abbrev Vq:=Nat×Rat
abbrev Uq:=Nat×Nat×Rat
def ai (a b:Rat):Rat:=if b < a then b else a
theorem gV (a b:Rat):jG uD a [b]=ai a b:=by
 show (if uD b a=true then b else a)=_
 unfold ai
 by_cases h:b < a
 ·rw [if_pos (zM.2 h),if_pos h]
 ·rw [if_neg (fun e=>h (zM.1 e)),if_neg h]
theorem dh (a b:Rat):ai a b≤a:=by unfold ai;split <;> grind
theorem bR (a b:Rat):ai a b≤b:=by unfold ai;split <;> grind
theorem cQ (a b:Rat):(ai a b=a∧a≤b)∨(ai a b=b∧b < a):=by unfold ai;split <;> grind
structure aM where
 eb:Rat
 allowed:Rat
 bW:Rat
 used:Rat
 bL:Rat
 bl:Rat
 closing:Rat
deriving DecidableEq
def nW (y:Nat):List Vq→Rat→List Uq
 | [],_=>[]
 | p::q,m=>if 0 < m then (p.1,y,ai p.2 m)::(if p.2 - ai p.2 m=0 then nW y q (m - ai p.2 m) else []) else []
def ld:List Vq→Rat→List Vq
 | [],_=>[]
 | p::q,m=>if 0 < m then (if p.2 - ai p.2 m=0 then ld q (m - ai p.2 m) else (p.1,p.2 - ai p.2 m)::q) else p::q
def rh:List Vq→Rat→Rat
 | [],_=>0
 | p::q,m=>if 0 < m then ai p.2 m + (if p.2 - ai p.2 m=0 then rh q (m - ai p.2 m) else 0) else 0
theorem gz (y:Nat) (q:List Vq) {m:Rat} (h:¬ 0 < m):nW y q m=[]:=by cases q with | nil=>rfl | cons p q=>unfold nW;rw [if_neg h]
theorem fP (q:List Vq) {m:Rat} (h:¬ 0 < m):ld q m=q:=by cases q with | nil=>rfl | cons p q=>unfold ld;rw [if_neg h]
theorem gA (q:List Vq) {m:Rat} (h:¬ 0 < m):rh q m=0:=by cases q with | nil=>rfl | cons p q=>unfold rh;rw [if_neg h]
theorem fQ {y:Nat} {p:Vq} {q:List Vq} {m:Rat} (hm:0 < m) (h:p.2 - ai p.2 m≠0):¬ 0 < m - ai p.2 m∧nW y (p::q) m=[(p.1,y,ai p.2 m)]∧ld (p::q) m=(p.1,p.2 - ai p.2 m)::q∧rh (p::q) m=ai p.2 m:=by
 refine ⟨?_,?_,?_,?_⟩
 ·rcases cQ p.2 m with ⟨e,_⟩ | ⟨e,_⟩
  ·rw [e] at h;exact absurd (by grind) h
  ·rw [e];grind
 ·unfold nW;rw [if_pos hm,if_neg h]
 ·unfold ld;rw [if_pos hm,if_neg h]
 ·unfold rh;rw [if_pos hm,if_neg h];grind
theorem fR {y:Nat} {p:Vq} {q:List Vq} {m:Rat} (hm:0 < m) (h:p.2 - ai p.2 m=0):nW y (p::q) m=(p.1,y,ai p.2 m)::nW y q (m - ai p.2 m)∧ld (p::q) m=ld q (m - ai p.2 m)∧rh (p::q) m=ai p.2 m + rh q (m - ai p.2 m):=by
 refine ⟨?_,?_,?_⟩
 ·conv=>lhs;unfold nW
  rw [if_pos hm,if_pos h]
 ·conv=>lhs;unfold ld
  rw [if_pos hm,if_pos h]
 ·conv=>lhs;unfold rh
  rw [if_pos hm,if_pos h]
structure DC where
 q:List Vq
 rows:List aM
 uses:List Uq
def aD (S F e:Rat):Rat:=jG jF F [S * e,0]
def dz (S F:Rat) (q:List Vq) (y:Rat×Rat):aM:=
 ⟨aD S F y.2,ai y.1 (aD S F y.2),y.1 - ai y.1 (aD S F y.2),rh q (aD S F y.2 - ai y.1 (aD S F y.2)),ai y.1 (aD S F y.2) + rh q (aD S F y.2 - ai y.1 (aD S F y.2)),0,0⟩
def kG (ju:Nat) (d:Rat) (q:List Vq):List Vq:=if 0 < d then q++[(ju,d)] else q
def se (keep ju:Nat) (s:DC):DC:=match s.q with
 | p::q=>if p.1 + keep=ju then ⟨q,s.rows.modify p.1 (fun r=>{ r with bl:=p.2 }),s.uses⟩ else s
 | []=>s
def di (S F:Rat) (keep ju:Nat) (s:DC) (y:Rat×Rat):DC:=
 se keep ju ⟨kG ju (dz S F s.q y).bW (ld s.q (aD S F y.2 - ai y.1 (aD S F y.2))),s.rows++[dz S F s.q y],s.uses++nW ju s.q (aD S F y.2 - ai y.1 (aD S F y.2))⟩
def gn (S F:Rat) (keep:Nat) (l:List (Rat×Rat)):DC:=l.foldl (fun s y=>di S F keep s.rows.length s y) ⟨[],[],[]⟩
def et:List Vq→List aM→List aM
 | [],r=>r
 | p::q,r=>et q (r.modify p.1 (fun x=>{ x with closing:=p.2 }))
def nh (S F:Rat) (keep:Nat) (l:List (Rat×Rat)):List aM×List Uq:=(et (gn S F keep l).q (gn S F keep l).rows,(gn S F keep l).uses)
def sf (y:Nat):List Vq→Rat→List Uq
 | [],_=>[]
 | p::t,m=>(if 0 < ai p.2 m then [(p.1,y,ai p.2 m)] else [])++sf y t (m - ai p.2 m)
def si:List Vq→Rat→List Vq
 | [],_=>[]
 | p::t,m=>(p.1,p.2 - ai p.2 m)::si t (m - ai p.2 m)
def AX:List Vq→Rat→Rat
 | [],_=>0
 | p::t,m=>ai p.2 m + AX t (m - ai p.2 m)
theorem sj (y:Nat) (p:Vq) (t:List Vq) (m:Rat):sf y (p::t) m=(if 0 < ai p.2 m then [(p.1,y,ai p.2 m)] else [])++sf y t (m - ai p.2 m):=rfl
theorem sk (p:Vq) (t:List Vq) (m:Rat):si (p::t) m=(p.1,p.2 - ai p.2 m)::si t (m - ai p.2 m):=rfl
theorem oT (p:Vq) (t:List Vq) (m:Rat):AX (p::t) m=ai p.2 m + AX t (m - ai p.2 m):=rfl
def pos (p:Vq):Bool:=decide (0 < p.2)
theorem vU (y:Nat):∀ {t:List Vq},(∀ p∈t,0≤p.2)→sf y t 0=[]∧si t 0=t∧AX t 0=0
 | [],_=>⟨rfl,rfl,rfl⟩
 | p::t,h=>by
   have hp:=h p (by simp)
   have e:ai p.2 0=0:=by unfold ai;split <;> grind
   obtain ⟨h1,h2,h3⟩:=vU y (t:=t) fun x hx=>h x (by simp [hx])
   rw [sj,sk,oT,e,show (0:Rat) - 0=0 by grind,h1,h2,h3,show p.2 - 0=p.2 by grind]
   refine ⟨by simp,rfl,by grind⟩
theorem xO (y:Nat):∀ {t:List Vq} {m:Rat},(∀ p∈t,0≤p.2)→0≤m→nW y (t.filter pos) m=sf y t m∧ld (t.filter pos) m=(si t m).filter pos∧rh (t.filter pos) m=AX t m
 | [],_,_,_=>⟨rfl,rfl,rfl⟩
 | p::t,m,h,hm=>by
   have hp:=h p (by simp)
   have ht:∀ x∈t,0≤x.2:=fun x hx=>h x (by simp [hx])
   by_cases h0:0 < p.2
   ·rw [List.filter_cons_of_pos (by simpa [pos] using h0)]
    by_cases xP:0 < m
    ·have hn:0 < ai p.2 m:=by rcases cQ p.2 m with ⟨e,_⟩ | ⟨e,_⟩ <;> rw [e] <;> assumption
     by_cases hd:p.2 - ai p.2 m=0
     ·obtain ⟨i1,i2,i3⟩:=xO y (t:=t) (m:=m - ai p.2 m) ht (by have:=bR p.2 m;grind)
      obtain ⟨r1,r2,r3⟩:=fR (y:=y) (p:=p) (q:=t.filter pos) xP hd
      rw [r1,r2,r3,i1,i2,i3]
      rw [sj,sk,oT,if_pos hn,List.filter_cons_of_neg (by show ¬ decide (0 < p.2 - ai p.2 m)=true;rw [hd];simp)]
      exact ⟨rfl,rfl,rfl⟩
     ·obtain ⟨r0,r1,r2,r3⟩:=fQ (y:=y) (p:=p) (q:=t.filter pos) xP hd
      have hz:m - ai p.2 m=0:=by
       rcases cQ p.2 m with ⟨e,_⟩ | ⟨e,_⟩
       ·rw [e] at hd;exact absurd (by grind) hd
       ·rw [e];grind
      have IM:0 < p.2 - ai p.2 m:=by have:=dh p.2 m;grind
      obtain ⟨z1,z2,z3⟩:=vU y ht
      rw [r1,r2,r3]
      rw [sj,sk,oT,hz,z1,z2,z3,if_pos hn,List.filter_cons_of_pos (by simpa [pos] using IM)]
      exact ⟨rfl,rfl,by grind⟩
    ·have hz:m=0:=by grind
     subst hz
     rw [gz y _ xP,fP _ xP,gA _ xP]
     obtain ⟨z1,z2,z3⟩:=vU y h
     rw [z1,z2,z3,List.filter_cons_of_pos (by simpa [pos] using h0)]
     exact ⟨rfl,rfl,rfl⟩
   ·have hz:p.2=0:=by grind
    have e:ai p.2 m=0:=by rw [hz];unfold ai;split <;> grind
    obtain ⟨i1,i2,i3⟩:=xO y (t:=t) ht hm
    rw [List.filter_cons_of_neg (by simpa [pos] using h0),i1,i2,i3]
    rw [sj,sk,oT,e,show m - 0=m by grind,show p.2 - 0=p.2 by grind,if_neg (by grind),List.filter_cons_of_neg (by simpa [pos] using h0)]
    exact ⟨rfl,rfl,by grind⟩
theorem vV:∀ (t:List Vq) (m:Rat),(si t m).length=t.length
 | [],_=>rfl
 | p::t,m=>by unfold si;rw [List.length_cons,List.length_cons,vV t]
theorem AY:∀ {t:List Vq} {m:Rat},∀ p∈si t m,0≤p.2
 | [],_,p,h=>by cases h
 | x::t,m,p,h=>by
   unfold si at h
   rcases List.mem_cons.1 h with rfl | h
   ·have:=dh x.2 m
    show 0≤x.2 - ai x.2 m
    grind
   ·exact AY p h
def bZ:Nat→List Rat→List Vq
 | _,[]=>[]
 | k,x::l=>(k,x)::bZ (k + 1) l
theorem sm:∀ (k:Nat) (l:List Rat),(bZ k l).length=l.length
 | _,[]=>rfl
 | k,x::l=>by show (bZ (k + 1) l).length + 1=_;rw [sm];rfl
theorem gW:∀ (k:Nat) (l l':List Rat),bZ k (l++l')=bZ k l++bZ (k + l.length) l'
 | k,[],l'=>rfl
 | k,x::l,l'=>by show (k,x)::bZ (k + 1) (l++l')=_;rw [gW,show k + 1 + l.length=k + (x::l).length by rw [List.length_cons];omega];rfl
theorem pG:∀ (k:Nat) (l:List Rat) (i:Nat),(bZ k l)[i]? =(l[i]?).map fun x=>(k + i,x)
 | _,[],_=>rfl
 | k,x::l,0=>rfl
 | k,x::l,i + 1=>by show (bZ (k + 1) l)[i]? =(l[i]?).map _;rw [pG,show k + 1 + i=k + (i + 1) by omega]
theorem jq {k:Nat} {l:List Rat} {p:Vq} (h:p∈bZ k l):k≤p.1∧p.1 < k + l.length∧p.2∈l:=by
 obtain ⟨i,hi⟩:=List.mem_iff_getElem?.1 h
 rw [pG] at hi
 cases hx:l[i]? with
 | none=>rw [hx] at hi;cases hi
 | some x=>
   rw [hx] at hi
   cases hi
   have:=(List.getElem?_eq_some_iff.1 hx).1
   exact ⟨Nat.le_add_right _ _,by show k + i < _;omega,List.mem_of_getElem? hx⟩
theorem He:∀ (k:Nat) (l:List Rat) (m:Rat),si (bZ k l) m=bZ k ((si (bZ k l) m).map (·.2))
 | _,[],_=>rfl
 | k,x::l,m=>by
   exact congrArg (List.cons (k,x - ai x m)) (He (k + 1) l (m - ai x m))
theorem lg {k:Nat} {l:List Rat} (h:∀ x∈l,x=0):(bZ k l).filter pos=[]:=by
 rw [List.filter_eq_nil_iff]
 intro p hp
 have:=h _ (jq hp).2.2
 unfold pos
 rw [this];simp
structure yL where
 left:List Rat
 rows:List aM
 uses:List Uq
def FK (keep ju:Nat) (s:yL):yL:=if keep≤ju then ⟨s.left.set (ju - keep) 0,s.rows.modify (ju - keep) (fun r=>{ r with bl:=s.left.getD (ju - keep) 0 }),s.uses⟩ else s
def AZ (S F:Rat) (t:List Vq) (y:Rat×Rat):aM:=
 ⟨aD S F y.2,ai y.1 (aD S F y.2),y.1 - ai y.1 (aD S F y.2),AX t (aD S F y.2 - ai y.1 (aD S F y.2)),ai y.1 (aD S F y.2) + AX t (aD S F y.2 - ai y.1 (aD S F y.2)),0,0⟩
def mv (S F:Rat) (keep ju:Nat) (s:yL) (y:Rat×Rat):yL:=
 FK keep ju ⟨(s.left.take (ju - keep)++(si (bZ (ju - keep) (s.left.drop (ju - keep))) (aD S F y.2 - ai y.1 (aD S F y.2))).map (·.2))++[y.1 - ai y.1 (aD S F y.2)],
  s.rows++[AZ S F (bZ (ju - keep) (s.left.drop (ju - keep))) y],s.uses++sf ju (bZ (ju - keep) (s.left.drop (ju - keep))) (aD S F y.2 - ai y.1 (aD S F y.2))⟩
def runT (S F:Rat) (keep:Nat) (l:List (Rat×Rat)):yL:=l.foldl (fun s y=>mv S F keep s.rows.length s y) ⟨[],[],[]⟩
def ledT (S F:Rat) (keep:Nat) (l:List (Rat×Rat)):List aM×List Uq:=(et (bZ 0 (runT S F keep l).left) (runT S F keep l).rows,(runT S F keep l).uses)
structure Both (keep:Nat) (a:DC) (b:yL):Prop where
 len:b.left.length=b.rows.length
 rows:a.rows=b.rows
 uses:a.uses=b.uses
 queue:a.q=(bZ 0 b.left).filter pos
 nn:∀ x∈b.left,0≤x
 old:∀ (v:Nat) (x:Rat),v + keep < b.rows.length→b.left[v]? =some x→x=0
 exp:∀ (i:Nat) (r:aM),b.rows.length≤i + keep→b.rows[i]? =some r→r.bl=0
 clo:∀ r∈b.rows,r.closing=0
theorem pH (S F e:Rat):0≤aD S F e:=by
 show 0≤(if jF 0 (if jF (S * e) F=true then S * e else F)=true then 0 else (if jF (S * e) F=true then S * e else F))
 generalize (if jF (S * e) F=true then S * e else F)=o
 by_cases h:jF 0 o=true
 ·rw [if_pos h];exact Rat.le_refl
 ·rw [if_neg h]
  rw [Jo] at h
  exact Rat.not_lt.1 h
theorem uH {l:List aM} {i j:Nat} {f:aM→aM} (h:i=j):(l.modify i f)[j]? =(l[j]?).map f:=by
 subst h;rw [List.getElem?_modify];simp
theorem qm {l:List aM} {i j:Nat} {f:aM→aM} (h:i≠j):(l.modify i f)[j]? =l[j]? :=by
 rw [List.getElem?_modify];simp [h]
theorem DD {l:List aM} {i:Nat} {f:aM→aM} (h:∀ r,l[i]? =some r→f r=r):l.modify i f=l:=by
 apply List.ext_getElem?
 intro j
 rw [List.getElem?_modify]
 by_cases e:i=j
 ·subst e
  cases hr:l[i]? with
  | none=>rfl
  | some r=>simp [h r hr]
 ·simp [e]
theorem Jv {S F:Rat} {keep:Nat} {a:DC} {b:yL} (h:Both keep a b) (y:Rat×Rat):Both keep (di S F keep a.rows.length a y) (mv S F keep b.rows.length b y):=by
 obtain ⟨h1,h2,h3,h4,h5,h6,h7,h8⟩:=h
 obtain ⟨n,hn⟩:∃ n,n=b.rows.length:=⟨_,rfl⟩
 rw [h2,←hn]
 unfold di mv
 obtain ⟨lo,Aa⟩:∃ lo,lo=n - keep:=⟨_,rfl⟩
 obtain ⟨L,hL⟩:∃ L,L=aD S F y.2:=⟨_,rfl⟩
 obtain ⟨m,hm⟩:∃ m,m=L - ai y.1 L:=⟨_,rfl⟩
 have xP:0≤m:=by have:=bR y.1 L;grind
 obtain ⟨t,ht⟩:∃ t,t=bZ lo (b.left.drop lo):=⟨_,rfl⟩
 have htn:∀ p∈t,0≤p.2:=fun p hp=>by rw [ht] at hp;exact h5 _ (List.mem_of_mem_drop (jq hp).2.2)
 have hz:∀ x∈b.left.take lo,x=0:=fun x hx=>by
  obtain ⟨v,hv⟩:=List.mem_iff_getElem?.1 hx
  rw [List.getElem?_take] at hv
  split at hv
  ·exact h6 v x (by omega) hv
  ·cases hv
 have hq:a.q=t.filter pos:=by
  rw [h4,←List.take_append_drop lo b.left,gW,List.filter_append,lg hz,List.nil_append,List.length_take,ht]
  rcases Nat.le_total lo b.left.length with e | e
  ·rw [Nat.min_eq_left e,Nat.zero_add]
  ·rw [List.drop_of_length_le e];rfl
 obtain ⟨i1,i2,i3⟩:=xO n htn xP
 obtain ⟨d,hd⟩:∃ d,d=y.1 - ai y.1 L:=⟨_,rfl⟩
 have Gj:0≤d:=by have:=dh y.1 L;grind
 have e1:dz S F a.q y=AZ S F t y:=by unfold dz AZ;rw [←hL,←hm,hq,i3]
 have e2:(AZ S F t y).bW=d:=by show y.1 - ai y.1 (aD S F y.2)=d;rw [←hL,hd]
 rw [e1,e2,←Aa,←hL,←hm,←ht,←hd,hq,i1,i2,h3,h2]
 obtain ⟨lf,hlf⟩:∃ lf,lf=(b.left.take lo++(si t m).map (·.2))++[d]:=⟨_,rfl⟩
 have Mk:(b.left.take lo).length=lo:=by rw [List.length_take];omega
 have hlen:lf.length=n + 1:=by
  rw [hlf,List.length_append,List.length_append,Mk,List.length_map,vV,ht,sm,List.length_drop,List.length_singleton];omega
 have hlq:kG n d ((si t m).filter pos)=(bZ 0 lf).filter pos:=by
  have:(bZ 0 lf).filter pos=(si t m).filter pos++(if 0 < d then [(n,d)] else []):=by
   rw [hlf,gW,List.filter_append,gW,List.filter_append,lg hz,List.nil_append,Mk,Nat.zero_add]
   rw [show bZ lo ((si t m).map (·.2))=si t m by rw [ht];exact (He lo _ m).symm]
   congr 1
   have vJ:0 + (b.left.take lo++(si t m).map (·.2)).length=n:=by
    have:=hlen;rw [hlf,List.length_append,List.length_singleton] at this;omega
   rw [vJ]
   show List.filter pos [(n,d)]=_
   by_cases e:0 < d
   ·rw [if_pos e];simp [pos,e]
   ·rw [if_neg e];simp [pos,e]
  rw [this]
  unfold kG
  split
  ·rfl
  ·rw [List.append_nil]
 have hnn:∀ x∈lf,0≤x:=fun x hx=>by
  rw [hlf] at hx
  rcases List.mem_append.1 hx with hx | hx
  ·rcases List.mem_append.1 hx with hx | hx
   ·rw [hz x hx];exact Rat.le_refl
   ·obtain ⟨p,hp,rfl⟩:=List.mem_map.1 hx
    exact AY p hp
  ·rw [List.mem_singleton.1 hx];exact Gj
 have hold:∀ (v:Nat) (x:Rat),v + keep < n→lf[v]? =some x→x=0:=fun v x hv hx=>by
  rw [hlf,List.append_assoc,List.getElem?_append_left (by rw [Mk];omega)] at hx
  exact hz x (List.mem_of_getElem? hx)
 obtain ⟨Ml,hrw⟩:∃ Ml,Ml=b.rows++[AZ S F t y]:=⟨_,rfl⟩
 have sV:Ml.length=n + 1:=by rw [hrw,List.length_append,←hn];rfl
 have hre:∀ (i:Nat) (r:aM),n≤i + keep→Ml[i]? =some r→r.bl=0:=fun i r hi hr=>by
  rw [hrw] at hr
  by_cases e:i < b.rows.length
  ·rw [List.getElem?_append_left e] at hr
   exact h7 i r (by omega) hr
  ·rw [List.getElem?_append_right (by omega)] at hr
   have:=List.mem_of_getElem? hr
   rw [List.mem_singleton.1 this];rfl
 have hrc:∀ r∈Ml,r.closing=0:=fun r hr=>by
  rw [hrw] at hr
  rcases List.mem_append.1 hr with hr | hr
  ·exact h8 r hr
  ·rw [List.mem_singleton.1 hr];rfl
 rw [hlq,←hrw,←hlf]
 unfold FK
 by_cases hk:keep≤n
 ·rw [if_pos hk,←Aa]
  have hlt:lo < lf.length:=by omega
  obtain ⟨x,hx⟩:∃ x,lf[lo]? =some x:=⟨_,List.getElem?_eq_getElem hlt⟩
  have Ki:lf.getD lo 0=x:=by rw [List.getD_eq_getElem?_getD,hx];rfl
  have gB:=hnn x (List.mem_of_getElem? hx)
  have yK:lf=lf.take lo++x::lf.drop (lo + 1):=by
   have e:=(List.getElem?_eq_some_iff.1 hx).2
   rw [←e,←List.drop_eq_getElem_cons hlt,List.take_append_drop]
  have hzt:∀ z∈lf.take lo,z=0:=fun z Ei=>by
   obtain ⟨v,hv⟩:=List.mem_iff_getElem?.1 Ei
   rw [List.getElem?_take] at hv
   split at hv
   ·exact hold v z (by omega) hv
   ·cases hv
  have FL:(lf.take lo).length=lo:=by rw [List.length_take];omega
  have hset:lf.set lo 0=lf.take lo++0::lf.drop (lo + 1):=by rw [List.set_eq_take_append_cons_drop,if_pos hlt]
  have hf:(bZ 0 lf).filter pos=(if 0 < x then [(lo,x)] else [])++(bZ (lo + 1) (lf.drop (lo + 1))).filter pos:=by
   conv=>lhs;rw [yK]
   rw [gW,List.filter_append,lg hzt,List.nil_append,FL,Nat.zero_add]
   show List.filter pos ((lo,x)::bZ (lo + 1) _)=_
   by_cases e:0 < x
   ·rw [if_pos e,List.filter_cons_of_pos (by simpa [pos] using e)];rfl
   ·rw [if_neg e,List.filter_cons_of_neg (by simpa [pos] using e)];rfl
  have hfs:(bZ 0 (lf.set lo 0)).filter pos=(bZ (lo + 1) (lf.drop (lo + 1))).filter pos:=by
   rw [hset,gW,List.filter_append,lg hzt,List.nil_append,FL,Nat.zero_add]
   show List.filter pos ((lo,(0:Rat))::bZ (lo + 1) _)=_
   rw [List.filter_cons_of_neg (by simp [pos])]
  have qf:(Ml.modify lo (fun r=>{ r with bl:=x })).length=n + 1:=by rw [List.length_modify,sV]
  have hres:se keep n ⟨(bZ 0 lf).filter pos,Ml,b.uses++sf n t m⟩=⟨(bZ (lo + 1) (lf.drop (lo + 1))).filter pos,Ml.modify lo (fun r=>{ r with bl:=x }),b.uses++sf n t m⟩:=by
   rw [hf]
   by_cases e:0 < x
   ·rw [if_pos e]
    show (if lo + keep=n then _ else _)=_
    rw [if_pos (by omega)];rfl
   ·have hx00:x=0:=by grind
    rw [if_neg e,List.nil_append,DD (fun r hr=>by
     have:=hre lo r (by omega) hr
     rw [hx00]
     cases r
     simp only at this
     subst this;rfl)]
    unfold se
    dsimp only
    cases hc:(bZ (lo + 1) (lf.drop (lo + 1))).filter pos with
    | nil=>rfl
    | cons p q=>
      have hp:p∈bZ (lo + 1) (lf.drop (lo + 1)):=(List.mem_filter.1 (hc▸List.mem_cons_self)).1
      have:=(jq hp).1
      dsimp only
      rw [if_neg (by omega)]
  rw [hres,Ki]
  refine ⟨by rw [List.length_set,hlen,qf],rfl,rfl,hfs.symm,fun z Ei=> ?_,fun v z hv Ei=> ?_,fun i r hi hr=> ?_,fun r hr=> ?_⟩
  ·rcases List.mem_or_eq_of_mem_set Ei with e | e
   ·exact hnn z e
   ·rw [e];exact Rat.le_refl
  ·rw [qf] at hv
   rw [List.getElem?_set] at Ei
   by_cases e:lo=v
   ·rw [if_pos e,if_pos hlt] at Ei;cases Ei;rfl
   ·rw [if_neg e] at Ei
    exact hold v z (by omega) Ei
  ·rw [qf] at hi
   rw [qm (by omega)] at hr
   exact hre i r (by omega) hr
  ·obtain ⟨i,hi⟩:=List.mem_iff_getElem?.1 hr
   by_cases e:lo=i
   ·rw [uH e] at hi
    cases hq':Ml[i]? with
    | none=>rw [hq'] at hi;cases hi
    | some r'=>
      rw [hq'] at hi
      cases hi
      exact hrc r' (List.mem_of_getElem? hq')
   ·rw [qm e] at hi
    exact hrc r (List.mem_of_getElem? hi)
 ·rw [if_neg hk]
  have hres:se keep n ⟨(bZ 0 lf).filter pos,Ml,b.uses++sf n t m⟩=⟨(bZ 0 lf).filter pos,Ml,b.uses++sf n t m⟩:=by
   unfold se
   dsimp only
   cases (bZ 0 lf).filter pos with
   | nil=>rfl
   | cons p q=>dsimp only;rw [if_neg (by omega)]
  rw [hres]
  refine ⟨by rw [hlen,sV],rfl,rfl,rfl,hnn,fun v x hv hx=> ?_,fun i r hi hr=>hre i r (by omega) hr,hrc⟩
  rw [sV] at hv;omega
theorem Mn (S F:Rat) (keep:Nat) (l:List (Rat×Rat)):Both keep (gn S F keep l) (runT S F keep l):=by
 unfold gn runT
 have h0:Both keep (⟨[],[],[]⟩:DC) (⟨[],[],[]⟩:yL):=⟨rfl,rfl,rfl,rfl,fun x hx=>(by cases hx),fun v x _ hx=>(by cases hx),fun i r _ hr=>(by cases hr),fun r hr=>(by cases hr)⟩
 generalize (⟨[],[],[]⟩:DC)=a at h0 ⊢
 generalize (⟨[],[],[]⟩:yL)=b at h0 ⊢
 induction l generalizing a b with
 | nil=>exact h0
 | cons y l ih=>exact ih _ _ (Jv h0 y)
theorem pI:∀ (q:List Vq) (r:List aM),(q.map (·.1)).Nodup→∀ i,(et q r)[i]? =match q.find? (fun p=>p.1 == i) with
  | some p=>(r[i]?).map (fun x=>{ x with closing:=p.2 })
  | none=>r[i]?
 | [],r,_,i=>rfl
 | p::q,r,hn,i=>by
   rw [List.map_cons,List.nodup_cons] at hn
   show (et q (r.modify p.1 _))[i]? =_
   rw [pI q _ hn.2 i,List.find?_cons]
   by_cases e:p.1=i
   ·have xm:q.find? (fun p=>p.1 == i)=none:=by
     rw [List.find?_eq_none]
     intro x hx e'
     exact hn.1 (List.mem_map.2 ⟨x,hx,by rw [e];simpa using e'⟩)
    rw [xm,beq_iff_eq.2 e]
    dsimp only
    rw [uH e]
   ·rw [show (p.1 == i)=false by simpa using e]
    dsimp only
    rw [qm e]
theorem xQ (k:Nat) (l:List Rat):((bZ k l).map (·.1)).Nodup:=by
 induction l generalizing k with
 | nil=>exact List.nodup_nil
 | cons x l ih=>
   show (k::(bZ (k + 1) l).map (·.1)).Nodup
   rw [List.nodup_cons]
   refine ⟨fun h=> ?_,ih _⟩
   obtain ⟨p,hp,e⟩:=List.mem_map.1 h
   have:=(jq hp).1
   omega
theorem xR (S F:Rat) (keep:Nat) (l:List (Rat×Rat)):nh S F keep l=ledT S F keep l:=by
 obtain ⟨h1,h2,h3,h4,h5,h6,h7,h8⟩:=Mn S F keep l
 unfold nh ledT
 rw [h3,h2,h4]
 congr 1
 apply List.ext_getElem?
 intro i
 have hn:=xQ 0 (runT S F keep l).left
 rw [pI _ _ hn,pI _ _ (hn.sublist (List.filter_sublist.map _))]
 cases hf:((bZ 0 (runT S F keep l).left).filter pos).find? (fun p=>p.1 == i) with
 | some p=>
   have hm:=List.mem_of_find?_eq_some hf
   have hp:=List.find?_some hf
   have:(bZ 0 (runT S F keep l).left).find? (fun p=>p.1 == i)=some p:=by
    cases hg:(bZ 0 (runT S F keep l).left).find? (fun p=>p.1 == i) with
    | none=>exact absurd hp (List.find?_eq_none.1 hg p (List.mem_filter.1 hm).1)
    | some p'=>
      have Ko:=List.mem_of_find?_eq_some hg
      have hp':=List.find?_some hg
      obtain ⟨j,hj⟩:=List.mem_iff_getElem?.1 Ko
      obtain ⟨j',hj'⟩:=List.mem_iff_getElem?.1 (List.mem_filter.1 hm).1
      rw [pG] at hj hj'
      have a1:p'.1=j:=by cases hq:(runT S F keep l).left[j]? <;> rw [hq] at hj <;> cases hj;simp
      have a2:p.1=j':=by cases hq:(runT S F keep l).left[j']? <;> rw [hq] at hj' <;> cases hj';simp
      have a3:j=j':=by have b1:=beq_iff_eq.1 hp;have b2:=beq_iff_eq.1 hp';omega
      rw [a3,hj'] at hj
      exact hj.symm
   rw [this]
 | none=>
   dsimp only
   cases hg:(bZ 0 (runT S F keep l).left).find? (fun p=>p.1 == i) with
   | none=>rfl
   | some p=>
     dsimp only
     have hm:=List.mem_of_find?_eq_some hg
     have hp:=List.find?_some hg
     have hz:p.2=0:=by
      have h0:=h5 _ (jq hm).2.2
      by_cases e:0 < p.2
      ·exact absurd hp (List.find?_eq_none.1 hf p (List.mem_filter.2 ⟨hm,by simpa [pos] using e⟩))
      ·grind
     cases hr:(runT S F keep l).rows[i]? with
     | none=>rfl
     | some r=>
       have:=h8 r (List.mem_of_getElem? hr)
       cases r
       simp only at this
       subst this
       simp [hz]
end Go.Proofs.YtabalinjfgcfeaaGreat
set_option maxRecDepth 4000
namespace Go.Proofs.YtabalinjfgcfeaaGreat
open Go.RowKit
attribute [local irreducible] aA VS
def R4 (B:Nat) (w:World) (cs:List Value) (q:Rat):Prop:=∃ s p n c t r m d,cs=[.bool s,.slice p n c,.bool t,.slice r m d]∧aK w B (.agg #[.bool s,.slice p n c,.bool t,.slice r m d]) q
theorem R4.kp {B:Nat} {T:TypeId→Bool} {w w':World} {cs:List Value} {q:Rat} (h:R4 B w cs q) (k:aF ⟨UU,fun _=>True,T⟩ w w'):R4 B w' cs q:=by
 obtain ⟨s,p,n,c,t,r,m,d,h1,h2⟩:=h
 exact ⟨s,p,n,c,t,r,m,d,h1,h2.kp k⟩
def cG (B:Nat) (w:World) (cs:List Value) (e:Vq):Prop:=∃ s p n c t r m d,cs=[.int .i64 (e.1:Int),.bool s,.slice p n c,.bool t,.slice r m d]∧aK w B (.agg #[.bool s,.slice p n c,.bool t,.slice r m d]) e.2
theorem aL (B:Nat):mZ (cG B) 5 where
 kp:=fun h k=>by
  obtain ⟨s,p,n,c,t,r,m,d,h1,h2⟩:=h
  exact ⟨s,p,n,c,t,r,m,d,h1,h2.kp k⟩
 len:=fun h=>by obtain ⟨s,p,n,c,t,r,m,d,rfl,_⟩:=h;rfl
 ok:=fun h=>by obtain ⟨s,p,n,c,t,r,m,d,rfl,_⟩:=h;rfl
def nK (B:Nat) (w:World) (cs:List Value) (e:Uq):Prop:=∃ s p n c t r m d,cs=[.int .i64 (e.1:Int),.int .i64 (e.2.1:Int),.bool s,.slice p n c,.bool t,.slice r m d]∧aK w B (.agg #[.bool s,.slice p n c,.bool t,.slice r m d]) e.2.2
theorem dk (B:Nat):mZ (nK B) 6 where
 kp:=fun h k=>by
  obtain ⟨s,p,n,c,t,r,m,d,h1,h2⟩:=h
  exact ⟨s,p,n,c,t,r,m,d,h1,h2.kp k⟩
 len:=fun h=>by obtain ⟨s,p,n,c,t,r,m,d,rfl,_⟩:=h;rfl
 ok:=fun h=>by obtain ⟨s,p,n,c,t,r,m,d,rfl,_⟩:=h;rfl
structure cX {α:Type} (E:World→List Value→α→Prop) (sz:Nat) (w:World) (n off c:Nat) (pre:List Value) (vs:List (List Value)) (spare:List Value) (es:List α):Prop where
 len:n=es.length
 pl:pre.length=off∨c=0
 po:pre.all aR=true
 el:cM E w es vs
 so:spare.all aR=true
 le:n≤c
 cm:c≤9223372036854775807
 fl:(vs.flatten++spare).length=c * sz
abbrev Runner:TypeId:=89
abbrev cO:TypeId:=92
abbrev dM:TypeId:=41
abbrev ey:TypeId:=44
theorem Ba {a:AV} {r u:Value} (h:aG a=true) (hr:aR r=true) (hu:aR u=true):[a,.val r,.val u].all aG=true:=by
 rw [List.all_cons,List.all_cons,List.all_cons,h]
 show (true && (aR r && (aR u && true)))=true
 rw [hr,hu];rfl
theorem bo {w:World} {b:Nat} {t t':TypeId} {cs iH:Array Value} (h:aV w b t cs) (h':aV w b t' iH):t=t':=by
 have:=h.symm.trans h'
 simp only [Option.some.injEq,Obj.cells.injEq] at this
 exact this.2.1
theorem uI (g c:Nat) (p:Option Addr) (r u:Value) (w:World) (hg:aV w g Runner #[.slice p 0 c,r,u]):
  Calls Tryz.prog 75 #[.pointer (some ⟨g,0,none⟩)] w fun o w'=>o=.returned (.pointer none)∧aj w w':=by
 refine aw (C:=bP Tryz.prog w _) (args:=[_]) Tryz.func75 rfl Tryz.ntmps75 (Nat.le_of_ble_eq_true rfl) ?_
 (repeat first|refine wN ?_|refine wP rfl ?_|refine aa rfl ?_|refine ab rfl ?_|refine wO rfl rfl ?_)
 refine VO.read rfl [.slice p 0 c] rfl (fun j v hj=> ?_) (wV rfl ?_)
 ·match j,hj with
  | 0,hj=>cases hj;exact hg.cell rfl
  | j + 1,hj=>cases hj
 (repeat first|refine wN ?_|refine wP rfl ?_|refine aa rfl ?_|refine ab rfl ?_|refine wO rfl rfl ?_)
 refine VS.ret (aJ _ _) rfl rfl (fun wz kz bz=> ?_)
 exact ⟨rfl,bz⟩
theorem DF (g b off n c:Nat) (r u:Value) (w:World) (hn:n≠0) (hg:aV w g Runner #[.slice (some ⟨b,off,none⟩) n c,r,u]):
  Calls Tryz.prog 75 #[.pointer (some ⟨g,0,none⟩)] w fun o w'=>o=.returned (.pointer (some ⟨b,off,none⟩))∧aj w w':=by
 have hcell:∀ (j:Nat) (v:Value),([.slice (some ⟨b,off,none⟩) n c]:List Value)[j]? =some v→w.cell? ((⟨g,0 + 0,none⟩:Addr).add j)=some v:=fun j v hj=>by
  match j,hj with
  | 0,hj=>cases hj;exact hg.cell rfl
  | j + 1,hj=>cases hj
 refine aw (C:=bP Tryz.prog w _) (args:=[_]) Tryz.func75 rfl Tryz.ntmps75 (Nat.le_of_ble_eq_true rfl) ?_
 (repeat first|refine wN ?_|refine wP rfl ?_|refine aa rfl ?_|refine ab rfl ?_|refine wO rfl rfl ?_)
 refine VO.read rfl [.slice (some ⟨b,off,none⟩) n c] rfl hcell (wV rfl ?_)
 (repeat first|refine wN ?_|refine wP rfl ?_|refine aa rfl ?_|refine ab rfl ?_|refine wO rfl rfl ?_)
 refine VS.bK rfl (by rw [beq_eq_false_iff_ne];omega) ?_
 (repeat first|refine wN ?_|refine wP rfl ?_|refine aa rfl ?_|refine ab rfl ?_|refine wO rfl rfl ?_)
 refine VO.read rfl [.slice (some ⟨b,off,none⟩) n c] rfl hcell (wV rfl ?_)
 (repeat first|refine wN ?_|refine wP rfl ?_|refine aa rfl ?_|refine ab rfl ?_|refine wO rfl rfl ?_)
 refine VO.cond rfl ⟨by omega,by omega⟩ ?_
 refine wV rfl ?_
 (repeat first|refine wN ?_|refine wP rfl ?_|refine aa rfl ?_|refine ab rfl ?_|refine wO rfl rfl ?_)
 refine VS.ret (aJ _ _) rfl rfl (fun wz kz bz=> ?_)
 exact ⟨rfl,bz⟩
theorem sl_one {b off n c:Nat}:Value.slice (if c=((some (1:Int)).getD 0).toNat then some (⟨b,off,none⟩:Addr) else (some (⟨b,off,none⟩:Addr)).map (·.add (((some (1:Int)).getD 0).toNat * 5))) (((none:Option Int).getD (n:Int)).toNat - ((some (1:Int)).getD 0).toNat) (c - ((some (1:Int)).getD 0).toNat)=.slice (some ⟨b,if c=1 then off else off + 5,none⟩) (n - 1) (c - 1):=by
 by_cases h:c=1
 ·simp [h]
 ·simp [h,Addr.add_mid]
theorem Jw (g b off n c:Nat) (r u:Value) (w:World) (hg:aV w g Runner #[.slice (some ⟨b,off,none⟩) n c,r,u]) (hr:aR r=true) (hu:aR u=true) (hn:1≤n) (fH:n≤c) (fy:c≤9223372036854775807):
  Calls Tryz.prog 76 #[.pointer (some ⟨g,0,none⟩)] w fun o w'=>o=.returned (iC [])∧qJ [g] w w'∧aV w' g Runner #[.slice (some ⟨b,if c=1 then off else off + 5,none⟩) (n - 1) (c - 1),r,u]:=by
 have pX:iI (KU UU) 10 [g] [(Runner,[.val (.slice (some ⟨b,off,none⟩) n c),.val r,.val u])] w:=by
  refine ⟨rfl,by simp,fun j g' c' hj hc=> ?_,fun c' hc=> ?_,fun c' hc k hk=> ?_⟩
  ·match j,hj,hc with
   | 0,hj,hc=>cases hj;cases hc;exact hg
   | j + 1,hj,_=>simp at hj
  ·cases List.mem_singleton.1 hc
   exact ⟨rfl,Ba rfl hr hu⟩
  ·cases List.mem_singleton.1 hc;cases hk
 refine dZ Tryz.prog w _ (KU UU) (fun t=>Nat.beq t 22) table (fun _ _=>trivial) (ad:=[g]) (us:=[]) Tryz.func76 rfl Tryz.ntmps76 (Nat.le_of_ble_eq_true rfl) pX (Nat.le_of_ble_eq_true rfl) ?_
 (repeat first|refine wN ?_|refine wP rfl ?_|refine af rfl ?_|refine ag rfl ?_|refine wO rfl rfl ?_)
 refine VO.cond rfl ⟨show (0:Int)≤1 by decide,show (1:Int)≤(n:Int) by omega,show (n:Int)≤(c:Int) by omega,show (c:Int)≤9223372036854775807 by omega⟩ ?_
 refine VO.fix 7 rfl (congrArg AV.val (sl_one (b:=b) (off:=off) (n:=n) (c:=c))) ?_
 refine wV rfl ?_
 (repeat first|refine wN ?_|refine wP rfl ?_|refine af rfl ?_|refine ag rfl ?_|refine wO rfl rfl ?_)
 refine VS.kF (bj _ _) rfl (fun wz β kz oz en=> ?_)
 obtain ⟨o1,o2⟩:=ea (en.own 20 _ _ rfl) 0 g rfl rfl
 exact ⟨rfl,oz.1,o2⟩
def LeftA (w:World) (b:Nat):Prop:=∃ (t:TypeId) (cs:List Value),aV w b t cs.toArray∧(KU UU).fz t=false∧cs.all aR=true
theorem cX.all {α:Type} {E:World→List Value→α→Prop} {sz:Nat} {w:World} {n off c:Nat} {pre:List Value} {vs:List (List Value)} {spare:List Value} {es:List α} (hE:mZ E sz) (h:cX E sz w n off c pre vs spare es):(pre++(vs.flatten++spare)).all aR=true:=by
 rw [List.all_append,List.all_append,h.po,(h.el.ok hE).1,h.so];rfl
theorem cX.kp {α:Type} {E:World→List Value→α→Prop} {sz:Nat} {w w':World} {n off c:Nat} {pre:List Value} {vs:List (List Value)} {spare:List Value} {es:List α} (hE:mZ E sz) (h:cX E sz w n off c pre vs spare es) (k:Kp UU w w'):cX E sz w' n off c pre vs spare es:=
 ⟨h.len,h.pl,h.po,h.el.kp hE k,h.so,h.le,h.cm,h.fl⟩
theorem fe {d:Rat}:eG d 0 > 0↔0 < d:=by
 constructor
 ·intro h
  refine Rat.not_le.1 fun e=> ?_
  have:=jM.2 e;omega
 ·intro h
  have:¬ eG d 0≤0:=fun e=>absurd (jM.1 e) (Rat.not_le.2 h)
  omega
set_option maxRecDepth 4000 in
set_option maxHeartbeats 4000000 in
theorem Mo (B g b off n c ju:Nat) (pre:List Value) (vs:List (List Value)) (spare:List Value) (q:List Vq) (r u v:Value) (d:Rat) (kk:Nat) (w:World)
  (hg:aV w g Runner #[.slice (some ⟨b,off,none⟩) n c,r,u]) (hb:aV w b cO (pre++(vs.flatten++spare)).toArray) (hO:cX (cG B) 5 w n off c pre vs spare q) (hr:aR r=true) (hu:aR u=true) (hv:cP w v d) (hs:fo d kk) (hk:kk≤100000) (hn:n≤1000) (hB:B≤w.heap.size):
  Calls Tryz.prog 74 #[.pointer (some ⟨g,0,none⟩),.int .i64 (ju:Int),v] w fun o w'=>o=.returned (iC [])∧qJ [g,b] w w'∧LeftA w' b∧
   ∃ b' aQ n' c' bI gE ak,(w.heap.size≤b'∨b'=b)∧aV w' g Runner #[.slice (some ⟨b',aQ,none⟩) n' c',r,u]∧aV w' b' cO (bI++(gE.flatten++ak)).toArray∧cX (cG B) 5 w' n' aQ c' bI gE ak (kG ju d q):=by
 have hgb:g≠b:=fun e=>by
  subst e
  exact absurd (bo hg hb) (by decide)
 obtain ⟨Ew,iB,Jx,iV,zv,fH,fy,sT⟩:=id hO
 obtain ⟨Bb,Bc⟩:=iV.ok (aL B)
 obtain ⟨s0,p0,n0,c0,t0,y0,m0,d0,rfl⟩:=hv.form
 have pX:iI (KU UU) 23 [g,b] [(Runner,[.row 47 off n c,.val r,.val u]),(cO,pre.map .val++(vs.flatten.map .val++spare.map .val))] w:=by
  refine ⟨rfl,by simp [hgb],fun j g' c' hj hc=> ?_,fun c' hc=> ?_,fun c' hc k hk=> ?_⟩
  ·match j,hj,hc with
   | 0,hj,hc=>cases hj;cases hc;exact hg
   | 1,hj,hc=>cases hj;cases hc;rw [←List.map_append,←List.map_append,ah];exact hb
   | j + 2,hj,_=>simp at hj
  ·rcases List.mem_cons.1 hc with rfl | hc
   ·exact ⟨rfl,Ba rfl hr hu⟩
   ·cases List.mem_singleton.1 hc
    exact ⟨rfl,by rw [←List.map_append,←List.map_append];exact aZ (hO.all (aL B))⟩
  ·rcases List.mem_cons.1 hc with rfl | hc
   ·have:k=47:=by simpa [ay,AV.cL] using hk
    subst this;exact ⟨by omega,by show 47 < 2 * 23 + 2;omega⟩
   ·cases List.mem_singleton.1 hc
    rw [←List.map_append,←List.map_append,ao] at hk;cases hk
 refine dZ Tryz.prog w _ (KU UU) (fun t=>Nat.beq t 22) table (fun _ _=>trivial) (ad:=[g,b]) (us:=[_,_]) Tryz.func74 rfl Tryz.ntmps74 (Nat.le_of_ble_eq_true rfl) pX (Nat.le_of_ble_eq_true rfl) ?_
 (repeat first|refine wN ?_|refine wP rfl ?_|refine af rfl ?_|refine ag rfl ?_|refine wO rfl rfl ?_)
 obtain ⟨sg,kE⟩:∃ sg,eG d 0=sg:=⟨_,rfl⟩
 refine VO.call rfl rfl (fk Tryz.func13) (fun cB eu dt=>(dL _ d kk cB (hv.ki hs) (by omega) sg kE).mono ?_)
 rintro e w1 ⟨rfl,aU⟩
 skip
 refine ⟨_,rfl,aU,fun fq _ bb1=>wV rfl ?_⟩
 (repeat first|refine wN ?_|refine wP rfl ?_|refine af rfl ?_|refine ag rfl ?_|refine wO rfl rfl ?_)
 by_cases hd:0 < d
 ·have hp:kG ju d q=q++[(ju,d)]:=if_pos hd
  have kj:sg > 0:=by rw [←kE];exact fe.2 hd
  refine VS.bG rfl (decide_eq_true kj) ?_
  (repeat first|refine wN ?_|refine wP rfl ?_|refine af rfl ?_|refine ag rfl ?_|refine wO rfl rfl ?_)
  refine VO.gi rfl (fk Tryz.func14) (fun gY β iD jd ho=>(xK _ [d] kk gY (eE (ho.own 16 (.base (List.mem_singleton.2 rfl)) _ _ rfl) [] (vs:=[[.bool s0,.slice p0 n0 c0,.bool t0,.slice y0 m0 d0]]) (by rfl) rfl (cD.cons (hv.ki hs (by (with_reducible (repeat (first | assumption | exact kU _ | exact kR _ | exact Kp.of (U:=UU) (by assumption) | exact aF.of (by assumption) | refine kT ?_ (by assumption)))))) cD.nil) (Nat.le_of_ble_eq_true rfl) (by decide)) (by unfold gK nJ;simp;omega)).mono ?_)
  rintro o w3 ⟨r3,rfl,q3,hs3,cI⟩
  have q3':aK w3 gY.heap.size r3 d:=by
   have e:lI [d]=d:=by show 0 + d=d;grind
   rw [e] at q3;exact q3
  obtain ⟨s3,p3,n3,c3,t3,y3,m3,d3,rfl⟩:=q3'.form
  refine ⟨_,rfl,cI,fun kS _ bb3=>wV rfl ?_⟩
  (repeat first|refine wN ?_|refine wP rfl ?_|refine af rfl ?_|refine ag rfl ?_|refine wO rfl rfl ?_)
  refine VO.appO (bj _ _) (t:=85) (e:=cO) (sz:=5) (n:=n) (c:=c) (off:=off) (i:=47) (mm:=1) (pre:=pre.map .val) (known:=vs.flatten.map .val) (spare:=spare.map .val) (news:=([.int .i64 (ju:Int),.bool s3,.slice p3 n3 c3,.bool t3,.slice y3 m3 d3]:List Value).map .val) (dst:=20) rfl rfl rfl rfl rfl rfl rfl rfl (Nat.le_of_ble_eq_true rfl) rfl rfl (by rw [List.length_map];exact iB.imp id fun h=>⟨h,by decide⟩) (.inl rfl) (by rw [List.length_map,Bc,Ew]) (by rw [←List.map_append,List.length_map];exact sT) fH fy ⟨ao _,ao _,rfl⟩ (ao _) ⟨aZ Bb,aZ zv,rfl⟩ (aZ Jx) rfl (by omega)
   (fun w1 β k1 b1 ho=>⟨_,_,rfl,.inr ⟨β 19,0,rfl,cK (rest:=[]) (ho.own 19 (.base (List.mem_append_right _ (List.mem_singleton.2 rfl))) _ _ rfl) rfl⟩⟩)
   (fun oO aQ bI cap' ak ρ Hf Hg fD hp1 hp2 hp3 jh gU ed ni dv=>wV rfl ?_)
  (repeat first|refine wN ?_|refine wP rfl ?_|refine af rfl ?_|refine ag rfl ?_|refine wO rfl rfl ?_)
  refine VS.kF (bj _ _) rfl (fun wz β kz oz en=> ?_)
  rw [hp]
  obtain ⟨o1,o2⟩:=ea (en.own 46 _ _ rfl) 0 g rfl rfl
  have o3:=en.own 20 _ _ rfl
  have o5:β 20≠g:=fun e=>absurd (en.apart 46 20 (by intro h;cases h) (by intro h;cases h) (o1.trans e.symm)) (by decide)
  have o6:w.heap.size≤β 20∨β 20=b:=by
   have:=eO (show cA 23 [g,b] w 20 (β 20) from o3.new)
   simpa [o5] using this
  have o7:=o3.cls
  rw [List.map_append,List.map_append,List.map_append,ah,ah] at o7
  have hE:cG B wz [.int .i64 (ju:Int),.bool s3,.slice p3 n3 c3,.bool t3,.slice y3 m3 d3] (ju,d):=⟨s3,p3,n3,c3,t3,y3,m3,d3,rfl,(q3'.mono (Nat.le_trans hB jd.1.size)).kp (by (with_reducible (repeat (first | assumption | exact kU _ | exact kR _ | exact Kp.of (U:=UU) (by assumption) | exact aF.of (by assumption) | refine kT ?_ (by assumption)))))⟩
  refine ⟨rfl,oz.1,oz.2 b (by simp),β 20,aQ,n + 1,cap',bI.map (AV.leaf β),vs++[[.int .i64 (ju:Int),.bool s3,.slice p3 n3 c3,.bool t3,.slice y3 m3 d3]],ak.map (AV.leaf β),o6,o2,?_,⟨by simp [Ew],.inl (by rw [List.length_map];exact hp1),cJ hp2,?_,cJ ni,jh,gU,?_⟩⟩
  ·rw [List.flatten_append];exact o7
  ·exact (iV.kp (aL B) (by (with_reducible (repeat (first | assumption | exact kU _ | exact kR _ | exact Kp.of (U:=UU) (by assumption) | exact aF.of (by assumption) | refine kT ?_ (by assumption)))))).snoc hE
  ·have:=ed
   simp only [List.length_append,List.length_map,List.length_cons,List.length_nil,List.flatten_append,List.flatten_cons,List.flatten_nil,List.append_nil] at this ⊢
   omega
 ·have hp:kG ju d q=q:=if_neg hd
  have kj:¬ sg > 0:=by rw [←kE];exact fun h=>hd (fe.1 h)
  refine VS.bK rfl (decide_eq_false kj) ?_
  (repeat first|refine wN ?_|refine wP rfl ?_|refine af rfl ?_|refine ag rfl ?_|refine wO rfl rfl ?_)
  refine VS.kF (bj _ _) rfl (fun wz β kz oz en=> ?_)
  rw [hp]
  obtain ⟨o1,o2⟩:=ea (en.own 46 _ _ rfl) 0 g rfl rfl
  obtain ⟨o3,o4⟩:=ea (en.own 47 _ _ rfl) 1 b rfl rfl
  rw [←List.map_append,←List.map_append,ah] at o4
  refine ⟨rfl,oz.1,oz.2 b (by simp),b,off,n,c,pre,vs,spare,.inr rfl,?_,o4,hO.kp (aL B) (by (with_reducible (repeat (first | assumption | exact kU _ | exact kR _ | exact Kp.of (U:=UU) (by assumption) | exact aF.of (by assumption) | refine kT ?_ (by assumption)))))⟩
  have:β 47=b:=o3
  rw [←this];exact o2
set_option maxRecDepth 4000 in
set_option maxHeartbeats 4000000 in
theorem Mp (B g ju:Nat) (r u v:Value) (d:Rat) (kk:Nat) (w:World)
  (hg:aV w g Runner #[.slice none 0 0,r,u]) (hr:aR r=true) (hu:aR u=true) (hv:cP w v d) (hs:fo d kk) (hk:kk≤100000) (hB:B≤w.heap.size):
  Calls Tryz.prog 74 #[.pointer (some ⟨g,0,none⟩),.int .i64 (ju:Int),v] w fun o w'=>o=.returned (iC [])∧qJ [g] w w'∧
   ((¬ 0 < d∧aV w' g Runner #[.slice none 0 0,r,u])∨(0 < d∧∃ b' c' gE ak,w.heap.size≤b'∧aV w' g Runner #[.slice (some ⟨b',0,none⟩) 1 c',r,u]∧aV w' b' cO ([]++(gE.flatten++ak)).toArray∧cX (cG B) 5 w' 1 0 c' [] gE ak [(ju,d)])):=by
 obtain ⟨s0,p0,n0,c0,t0,y0,m0,d0,rfl⟩:=hv.form
 have pX:iI (KU UU) 23 [g] [(Runner,[.val (.slice none 0 0),.val r,.val u])] w:=by
  refine ⟨rfl,by simp,fun j g' c' hj hc=> ?_,fun c' hc=> ?_,fun c' hc k hk=> ?_⟩
  ·match j,hj,hc with
   | 0,hj,hc=>cases hj;cases hc;exact hg
   | j + 1,hj,_=>simp at hj
  ·cases List.mem_singleton.1 hc
   exact ⟨rfl,Ba rfl hr hu⟩
  ·cases List.mem_singleton.1 hc;cases hk
 refine dZ Tryz.prog w _ (KU UU) (fun t=>Nat.beq t 22) table (fun _ _=>trivial) (ad:=[g]) (us:=[_,_]) Tryz.func74 rfl Tryz.ntmps74 (Nat.le_of_ble_eq_true rfl) pX (Nat.le_of_ble_eq_true rfl) ?_
 (repeat first|refine wN ?_|refine wP rfl ?_|refine af rfl ?_|refine ag rfl ?_|refine wO rfl rfl ?_)
 obtain ⟨sg,kE⟩:∃ sg,eG d 0=sg:=⟨_,rfl⟩
 refine VO.call rfl rfl (fk Tryz.func13) (fun cB eu dt=>(dL _ d kk cB (hv.ki hs) (by omega) sg kE).mono ?_)
 rintro e w1 ⟨rfl,aU⟩
 skip
 refine ⟨_,rfl,aU,fun fq _ bb1=>wV rfl ?_⟩
 (repeat first|refine wN ?_|refine wP rfl ?_|refine af rfl ?_|refine ag rfl ?_|refine wO rfl rfl ?_)
 by_cases hd:0 < d
 ·have kj:sg > 0:=by rw [←kE];exact fe.2 hd
  refine VS.bG rfl (decide_eq_true kj) ?_
  (repeat first|refine wN ?_|refine wP rfl ?_|refine af rfl ?_|refine ag rfl ?_|refine wO rfl rfl ?_)
  refine VO.gi rfl (fk Tryz.func14) (fun gY β iD jd ho=>(xK _ [d] kk gY (eE (ho.own 16 (.base (List.mem_singleton.2 rfl)) _ _ rfl) [] (vs:=[[.bool s0,.slice p0 n0 c0,.bool t0,.slice y0 m0 d0]]) (by rfl) rfl (cD.cons (hv.ki hs (by (with_reducible (repeat (first | assumption | exact kU _ | exact kR _ | exact Kp.of (U:=UU) (by assumption) | exact aF.of (by assumption) | refine kT ?_ (by assumption)))))) cD.nil) (Nat.le_of_ble_eq_true rfl) (by decide)) (by unfold gK nJ;simp;omega)).mono ?_)
  rintro o w3 ⟨r3,rfl,q3,hs3,cI⟩
  have q3':aK w3 gY.heap.size r3 d:=by
   have e:lI [d]=d:=by show 0 + d=d;grind
   rw [e] at q3;exact q3
  obtain ⟨s3,p3,n3,c3,t3,y3,m3,d3,rfl⟩:=q3'.form
  refine ⟨_,rfl,cI,fun kS _ bb3=>wV rfl ?_⟩
  (repeat first|refine wN ?_|refine wP rfl ?_|refine af rfl ?_|refine ag rfl ?_|refine wO rfl rfl ?_)
  refine VO.app (bj _ _) (t:=85) (e:=cO) (sz:=5) (n:=0) (c:=0) (mm:=1) (known:=[]) (spare:=[]) (del:=none) (news:=([.int .i64 (ju:Int),.bool s3,.slice p3 n3 c3,.bool t3,.slice y3 m3 d3]:List Value).map .val) (dst:=20) rfl rfl rfl rfl rfl rfl rfl rfl (Nat.le_of_ble_eq_true rfl) rfl (.inl ⟨rfl,rfl,rfl,rfl,rfl,rfl,by omega⟩) (.inl rfl) rfl rfl (Nat.le_refl _) (by omega) ⟨rfl,rfl,rfl⟩ ⟨rfl,rfl,rfl⟩ rfl (by omega)
   (fun w1 β k1 b1 ho=>⟨_,_,rfl,.inr ⟨β 19,0,rfl,cK (rest:=[]) (ho.own 19 (.base (List.mem_append_right _ (List.mem_singleton.2 rfl))) _ _ rfl) rfl⟩⟩)
   (fun oO cap' ak ρ Hf Hg fD jh gU ed ni dv=>wV rfl ?_)
  (repeat first|refine wN ?_|refine wP rfl ?_|refine af rfl ?_|refine ag rfl ?_|refine wO rfl rfl ?_)
  refine VS.kF (bj _ _) rfl (fun wz β kz oz en=> ?_)
  obtain ⟨o1,o2⟩:=ea (en.own 46 _ _ rfl) 0 g rfl rfl
  have o3:=en.own 20 _ _ rfl
  have o5:β 20≠g:=fun e=>absurd (en.apart 46 20 (by intro h;cases h) (by intro h;cases h) (o1.trans e.symm)) (by decide)
  have o6:w.heap.size≤β 20:=by
   have:=eO (show cA 23 [g] w 20 (β 20) from o3.new)
   simpa [o5] using this
  have o7:=o3.cls
  rw [List.map_append,List.map_append,ah] at o7
  have hE:cG B wz [.int .i64 (ju:Int),.bool s3,.slice p3 n3 c3,.bool t3,.slice y3 m3 d3] (ju,d):=⟨s3,p3,n3,c3,t3,y3,m3,d3,rfl,(q3'.mono (Nat.le_trans hB jd.1.size)).kp (by (with_reducible (repeat (first | assumption | exact kU _ | exact kR _ | exact Kp.of (U:=UU) (by assumption) | exact aF.of (by assumption) | refine kT ?_ (by assumption)))))⟩
  refine ⟨rfl,oz.1,.inr ⟨hd,β 20,cap',[[.int .i64 (ju:Int),.bool s3,.slice p3 n3 c3,.bool t3,.slice y3 m3 d3]],ak.map (AV.leaf β),o6,o2,?_,⟨rfl,.inl rfl,rfl,.cons hE .nil,cJ ni,by omega,gU,?_⟩⟩⟩
  ·exact o7
  ·have:=ed
   simp only [List.length_append,List.length_map,List.length_cons,List.length_nil,List.flatten_cons,List.flatten_nil,List.append_nil] at this ⊢
   omega
 ·have kj:¬ sg > 0:=by rw [←kE];exact fun h=>hd (fe.1 h)
  refine VS.bK rfl (decide_eq_false kj) ?_
  (repeat first|refine wN ?_|refine wP rfl ?_|refine af rfl ?_|refine ag rfl ?_|refine wO rfl rfl ?_)
  refine VS.kF (bj _ _) rfl (fun wz β kz oz en=> ?_)
  obtain ⟨o1,o2⟩:=ea (en.own 46 _ _ rfl) 0 g rfl rfl
  exact ⟨rfl,oz.1,.inl ⟨hd,o2⟩⟩
end Go.Proofs.YtabalinjfgcfeaaGreat
namespace Go.Proofs.YtabalinjfgcfeaaGreat
open Go.RowKit
section
variable {C:Cx} {F:Fr} {H:Hp} {w:World} {m:Option (List FuncId)} {full:Array Oper} {K:Fr→Hp→World→Prop} {o:Oper} {r:List Oper}
theorem VO.cY {i c:Nat} {x a y:AV} {p:Nat→Option Addr} (hP:C.P=Tryz.prog) (hx:∀ β:Nat→Nat,x.leaf β=.slice (p (β 0)) 0 c∨∃ q,x.leaf β=.slice q 0 c) (e:stepOf C full F H o=.call (.fn 75 [.box i 0])) (hf:ou C.P 75) (h1:H i=some (Runner,[x,a,y]))
  (k:∀ w2,aF C.K w w2→C.Old w2→aA C m full r K (F.bh o.dst (.val (.pointer none))) H w2):aA C m full (o::r) K F H w:=by
 refine VO.gi e hf fun w1 β a1 a2 a3=> ?_
 have o1:=a3.own i (.base (by simp [fC,AV.ids])) _ _ h1
 obtain ⟨q,hq⟩:∃ q,x.leaf β=.slice q 0 c:=by
  rcases hx β with e | e
  ·exact ⟨_,e⟩
  ·exact e
 have hc:aV w1 (β i) Runner #[.slice q 0 c,a.leaf β,y.leaf β]:=by have:=o1.cls;rw [List.map_cons,hq] at this;exact this
 refine Calls.mono (show Calls C.P _ #[.pointer (some ⟨β i,0,none⟩)] w1 _ from hP▸uI (β i) c q _ _ w1 hc) ?_
 rintro e w2 ⟨rfl,hb⟩
 exact ⟨_,rfl,hb,fun b1 b2 b3=>k w2 b1 b3⟩
theorem VO.cH {i v off n c:Nat} {a y:AV} (hP:C.P=Tryz.prog) (e:stepOf C full F H o=.call (.fn 75 [.box i 0])) (hf:ou C.P 75) (h1:H i=some (Runner,[.row v off n c,a,y])) (hn:n≠0) (hv:H v≠none)
  (k:∀ w2,aF C.K w w2→C.Old w2→aA C m full r K (F.bh o.dst (.kC v off)) H w2):aA C m full (o::r) K F H w:=by
 show one C m full o (aA C m full r K) F H w
 unfold one
 rw [e]
 intro w1 β a1 a2 a3
 have ic:Reach H (eg.fn 75 [.box i 0]).ids i:=.base (by simp [eg.ids,fC,AV.ids])
 have o1:=a3.own i ic _ _ h1
 refine ⟨hf,Calls.mono (show Calls C.P _ #[.pointer (some ⟨β i,0,none⟩)] w1 _ from hP▸DF (β i) (β v) off n c _ _ w1 hn o1.cls) ?_⟩
 rintro e w2 ⟨rfl,hb⟩
 exact ⟨β,.kC v off,none,[],rfl,fun j hj=>.inr ⟨.step ic h1 (by have:j=v:=by simpa [AV.ids] using hj
                                                                rw [this];simp [ay,AV.cL]),by have:j=v:=by simpa [AV.ids] using hj
                                                                                              rw [this];exact hv,by simp⟩,.inr rfl,.inr rfl,wZ.none hb,fun a b c _ _=>k w2 a c⟩
theorem VO.iz {i v off n c:Nat} {a y:AV} (hP:C.P=Tryz.prog) (e:stepOf C full F H o=.call (.fn 76 [.box i 0])) (hf:ou C.P 76) (h1:H i=some (Runner,[.row v off n c,a,y])) (hn:1≤n) (fH:n≤c) (fy:c≤9223372036854775807) (hv:∀ j∈ay [.row v off n c,a,y],H j≠none) (hl:1≤lvl C.SU m o)
  (k:∀ w2,aF C.K w w2→C.Old w2→aA C m full r K (F.bh o.dst (.val (iC []))) (H.put i (Runner,[.row v (if c=1 then off else off + 5) (n - 1) (c - 1),a,y])) w2):aA C m full (o::r) K F H w:=by
 show one C m full o (aA C m full r K) F H w
 unfold one
 rw [e]
 intro w1 β a1 a2 a3
 have ic:Reach H (eg.fn 76 [.box i 0]).ids i:=.base (by simp [eg.ids,fC,AV.ids])
 have o1:=a3.own i ic _ _ h1
 have fF:=List.all_eq_true.1 o1.ok
 have lG:=cJ (β:=β) o1.ok
 refine ⟨hf,Calls.mono (show Calls C.P _ #[.pointer (some ⟨β i,0,none⟩)] w1 _ from hP▸Jw (β i) (β v) off n c (a.leaf β) (y.leaf β) w1 o1.cls (List.all_eq_true.1 lG _ (by simp)) (List.all_eq_true.1 lG _ (by simp)) hn fH fy) ?_⟩
 rintro e w2 ⟨rfl,hb,hc⟩
 refine ⟨β,.val (iC []),none,[(i,(Runner,[.row v (if c=1 then off else off + 5) (n - 1) (c - 1),a,y]))],rfl,fun i hi=>(by cases hi),.inl hl,.inr rfl,?_,fun a b c _ _=>k w2 a c⟩
 refine ⟨hb.os,hb.tape,hb.output,hb.size,fun k hk hx _ _=>hb.nH k hk (by simpa using hx),fun _ _=>rfl,fun i hi=>(by cases hi),fun i hi=>(by cases hi),fun x hx=> ?_,fun x hx=> ?_,by simp,fun x hx y hy _=> ?_,fun x hx j hj=> ?_⟩
 ·cases List.mem_singleton.1 hx
  refine ⟨o1.new,o1.ty,hc,?_⟩
  rw [List.all_cons,List.all_cons,fF a (by simp),List.all_cons,fF y (by simp)];rfl
 ·cases List.mem_singleton.1 hx
  exact .inl ⟨by rw [h1];simp,by simp,ic,rfl⟩
 ·cases List.mem_singleton.1 hx;cases List.mem_singleton.1 hy;rfl
 ·cases List.mem_singleton.1 hx
  exact .inr ⟨hv j (by simpa [ay,AV.cL] using hj),by simp⟩
theorem lh {β bC:Nat→Nat} {cs:List AV} {a:AV} (ha:a∈cs) (h:∀ i∈ay cs,bC i=β i):a.leaf bC=a.leaf β:=
 AV.mP fun i hi=>h i (aP.2 ⟨a,ha,hi⟩)
theorem VO.xS {B i v d2 off n c ju:Nat} {a y:AV} {pre spare:List Value} {vs:List (List Value)} {q:List Vq} {val:Value} {d:Rat} (kk:Nat) (hP:C.P=Tryz.prog) (hK:C.K=KU UU)
  (e:stepOf C full F H o=.call (.fn 74 [.box i 0,.val (.int .i64 (ju:Int)),.val val])) (hf:ou C.P 74) (h1:H i=some (Runner,[.row v off n c,a,y])) (h2:H v=some (cO,(pre++(vs.flatten++spare)).map .val)) (h3:H d2=none) (hd2:d2 < 2 * C.N) (hiv:i≠v)
  (gv:∀ j∈ay [a,y],H j≠none∧j≠v) (hl:lvl C.SU m o=2) (hO:∀ w1,aF C.K w w1→C.Old w1→cX (cG B) 5 w1 n off c pre vs spare q) (hv:∀ w1,aF C.K w w1→C.Old w1→cP w1 val d) (hs:fo d kk) (hk:kk≤100000) (hn:n≤1000) (hB:B≤C.w0.heap.size)
  (k:∀ w2 aQ n' c' bI gE ak ρ,aF C.K w w2→C.Old w2→cX (cG B) 5 w2 n' aQ c' bI gE ak (kG ju d q)→
   aA C m full r K ((F.forget (some v) ρ).bh o.dst (.val (iC []))) (((H.forget (some v) ρ).put i (Runner,[.row d2 aQ n' c',a,y])).put d2 (cO,(bI++(gE.flatten++ak)).map .val)) w2):aA C m full (o::r) K F H w:=by
 show one C m full o (aA C m full r K) F H w
 unfold one
 rw [e]
 intro w1 β a1 a2 a3
 have ic:Reach H (eg.fn 74 [.box i 0,.val (.int .i64 (ju:Int)),.val val]).ids i:=.base (by simp [eg.ids,fC,AV.ids])
 have ji:Reach H (eg.fn 74 [.box i 0,.val (.int .i64 (ju:Int)),.val val]).ids v:=.step ic h1 (by simp [ay,AV.cL])
 have o1:=a3.own i ic _ _ h1
 have o2:=a3.own v ji _ _ h2
 have fF:=List.all_eq_true.1 o1.ok
 have lG:=cJ (β:=β) o1.ok
 have gU:aV w1 (β v) cO (pre++(vs.flatten++spare)).toArray:=by have:=o2.cls;rw [ah] at this;exact this
 refine ⟨hf,Calls.mono (show Calls C.P _ #[.pointer (some ⟨β i,0,none⟩),.int .i64 (ju:Int),val] w1 _ from hP▸Mo B (β i) (β v) off n c ju pre vs spare q (a.leaf β) (y.leaf β) val d kk w1 o1.cls gU (hO w1 a1 a2) (List.all_eq_true.1 lG _ (by simp)) (List.all_eq_true.1 lG _ (by simp)) (hv w1 a1 a2) hs hk hn (Nat.le_trans hB (C.ez _ a2))) ?_⟩
 rintro e w2 ⟨rfl,hb,⟨tl,cl,l1,l2,l3⟩,b',aQ,n',c',bI,gE,ak,yn,Ka,hc',gL⟩
 have hne:∀ j,H j≠none→j≠d2:=fun j hj e=>hj (e▸h3)
 have hid:i≠d2:=hne i (by rw [h1];simp)
 have Hh:v≠d2:=hne v (by rw [h2];simp)
 let bC:Nat→Nat:=fun j=>if j=d2 then b' else β j
 have e2:bC d2=b':=if_pos rfl
 have e1:∀ j,j≠d2→bC j=β j:=fun j hj=>if_neg hj
 have hag:∀ j∈ay [a,y],bC j=β j:=fun j hj=>e1 j (hne j (gv j hj).1)
 have hokv:((bI++(gE.flatten++ak)).map AV.val).all aG=true:=aZ (gL.all (aL B))
 refine ⟨bC,.val (iC []),some v,[(i,(Runner,[.row d2 aQ n' c',a,y])),(d2,(cO,(bI++(gE.flatten++ak)).map .val))],rfl,fun i hi=>(by cases hi),.inl (by omega),.inl (by omega),?_,fun p1 _ p3 ρ _=>k w2 aQ n' c' bI gE ak ρ p1 p3 gL⟩
 refine ⟨hb.os,hb.tape,hb.output,hb.size,fun k hk hx iE _=>hb.nH k hk ?_,fun j hj=>e1 j (fun h=>hj (by simp [h])),fun j hj=> ?_,fun j hj=> ?_,fun x hx=> ?_,fun x hx=> ?_,by simpa using hid,fun x hx z hz he=> ?_,fun x hx j hj=> ?_⟩
 ·have g1:=hx (i,(Runner,[.row d2 aQ n' c',a,y])) (by simp)
  have g2:=iE v rfl
  rw [e1 i hid] at g1
  simpa using ⟨g1,g2⟩
 ·cases hj
  exact ⟨ji,by rw [h2];simp⟩
 ·cases hj
  exact .inl (.inr ⟨tl,cl,l1,by rw [hK];exact l2,l3⟩)
 ·rcases List.mem_cons.1 hx with rfl | hx
  ·refine ⟨by rw [e1 i hid];exact o1.new,o1.ty,?_,?_⟩
   ·rw [e1 i hid]
    show aV w2 (β i) Runner #[.slice (some ⟨bC d2,aQ,none⟩) n' c',a.leaf bC,y.leaf bC]
    rw [e2,lh (cs:=[a,y]) (by simp) hag,lh (cs:=[a,y]) (by simp) hag]
    exact Ka
   ·rw [List.all_cons,List.all_cons,fF a (by simp),List.all_cons,fF y (by simp)];rfl
  ·cases List.mem_singleton.1 hx
   refine ⟨?_,o2.ty,?_,hokv⟩
   ·rw [e2]
    rcases yn with h | h
    ·exact C.rH _ _ (by omega) (by have:=C.ez _ a2;omega)
    ·rw [h];exact C.Cl v d2 _ o2.new (by omega)
   ·rw [e2,ah];exact hc'
 ·rcases List.mem_cons.1 hx with rfl | hx
  ·exact .inl ⟨by rw [h1];simp,by simpa using fun h=>hiv h.symm,ic,e1 i hid⟩
  ·cases List.mem_singleton.1 hx
   refine .inr ⟨.inl h3,hd2,?_⟩
   rw [e2]
   exact yn.imp id fun h=>⟨v,rfl,h⟩
 ·have jl:∀ (x:Nat×(TypeId×List AV)),x∈[(i,(Runner,[.row d2 aQ n' c',a,y])),(d2,(cO,(bI++(gE.flatten++ak)).map AV.val))]→(x.1=i∧bC x.1=β i)∨(x.1=d2∧bC x.1=b'):=fun x hx=>by
   rcases List.mem_cons.1 hx with rfl | hx
   ·exact .inl ⟨rfl,e1 i hid⟩
   ·cases List.mem_singleton.1 hx;exact .inr ⟨rfl,e2⟩
  have hno:β i≠b':=fun h=>absurd (bo Ka (h▸hc')) (by decide)
  rcases jl x hx with ⟨g1,g2⟩ | ⟨g1,g2⟩ <;> rcases jl z hz with ⟨g3,g4⟩ | ⟨g3,g4⟩
  ·rw [g1,g3]
  ·exact absurd (g2.symm.trans (he.trans g4)) hno
  ·exact absurd (g4.symm.trans (he.symm.trans g2)) hno
  ·rw [g1,g3]
 ·rcases List.mem_cons.1 hx with rfl | hx
  ·have hj':j=d2∨j∈ay [a,y]:=by
    obtain ⟨z,hz,hj2⟩:=aP.1 hj
    rcases List.mem_cons.1 hz with rfl | hz
    ·exact .inl (by simpa [AV.cL] using hj2)
    ·exact .inr (aP.2 ⟨z,hz,hj2⟩)
   rcases hj' with h | h
   ·exact .inl (by simp [h])
   ·exact .inr ⟨(gv j h).1,by simpa using fun h'=>(gv j h).2 h'.symm⟩
  ·cases List.mem_singleton.1 hx
   rw [ao] at hj;cases hj
theorem VO.DG {B i d2 ju:Nat} {a y:AV} {val:Value} {d:Rat} (kk:Nat) (hP:C.P=Tryz.prog) (hK:C.K=KU UU)
  (e:stepOf C full F H o=.call (.fn 74 [.box i 0,.val (.int .i64 (ju:Int)),.val val])) (hf:ou C.P 74) (h1:H i=some (Runner,[.val (.slice none 0 0),a,y])) (h3:H d2=none) (hd2:d2 < 2 * C.N)
  (gv:∀ j∈ay [a,y],H j≠none) (hl:1≤lvl C.SU m o) (hv:∀ w1,aF C.K w w1→C.Old w1→cP w1 val d) (hs:fo d kk) (hk:kk≤100000) (hB:B≤C.w0.heap.size)
  (k1:∀ w2,aF C.K w w2→C.Old w2→¬ 0 < d→aA C m full r K (F.bh o.dst (.val (iC []))) (H.put i (Runner,[.val (.slice none 0 0),a,y])) w2)
  (k2:∀ w2 c' gE ak,aF C.K w w2→C.Old w2→0 < d→cX (cG B) 5 w2 1 0 c' [] gE ak [(ju,d)]→
   aA C m full r K (F.bh o.dst (.val (iC []))) ((H.put i (Runner,[.row d2 0 1 c',a,y])).put d2 (cO,(([]++(gE.flatten++ak):List Value)).map AV.val)) w2):aA C m full (o::r) K F H w:=by
 show one C m full o (aA C m full r K) F H w
 unfold one
 rw [e]
 intro w1 β a1 a2 a3
 have ic:Reach H (eg.fn 74 [.box i 0,.val (.int .i64 (ju:Int)),.val val]).ids i:=.base (by simp [eg.ids,fC,AV.ids])
 have o1:=a3.own i ic _ _ h1
 have fF:=List.all_eq_true.1 o1.ok
 have lG:=cJ (β:=β) o1.ok
 refine ⟨hf,Calls.mono (show Calls C.P _ #[.pointer (some ⟨β i,0,none⟩),.int .i64 (ju:Int),val] w1 _ from hP▸Mp B (β i) ju (a.leaf β) (y.leaf β) val d kk w1 o1.cls (List.all_eq_true.1 lG _ (by simp)) (List.all_eq_true.1 lG _ (by simp)) (hv w1 a1 a2) hs hk (Nat.le_trans hB (C.ez _ a2))) ?_⟩
 rintro e w2 ⟨rfl,hb,⟨hd,Ka⟩ | ⟨hd,b',c',gE,ak,yn,Ka,hc',gL⟩⟩
 ·refine ⟨β,.val (iC []),none,[(i,(Runner,[.val (.slice none 0 0),a,y]))],rfl,fun i hi=>(by cases hi),.inl hl,.inr rfl,?_,fun p1 _ p3 _ _=>k1 w2 p1 p3 hd⟩
  refine ⟨hb.os,hb.tape,hb.output,hb.size,fun k hk hx _ _=>hb.nH k hk (by simpa using hx),fun _ _=>rfl,fun i hi=>(by cases hi),fun i hi=>(by cases hi),fun x hx=> ?_,fun x hx=> ?_,by simp,fun x hx y hy _=> ?_,fun x hx j hj=> ?_⟩
  ·cases List.mem_singleton.1 hx
   exact ⟨o1.new,o1.ty,Ka,o1.ok⟩
  ·cases List.mem_singleton.1 hx
   exact .inl ⟨by rw [h1];simp,by simp,ic,rfl⟩
  ·cases List.mem_singleton.1 hx;cases List.mem_singleton.1 hy;rfl
  ·cases List.mem_singleton.1 hx
   exact .inr ⟨gv j (by simpa [ay,AV.cL] using hj),by simp⟩
 ·have hne:∀ j,H j≠none→j≠d2:=fun j hj e=>hj (e▸h3)
  have hid:i≠d2:=hne i (by rw [h1];simp)
  let bC:Nat→Nat:=fun j=>if j=d2 then b' else β j
  have e2:bC d2=b':=if_pos rfl
  have e1:∀ j,j≠d2→bC j=β j:=fun j hj=>if_neg hj
  have hag:∀ j∈ay [a,y],bC j=β j:=fun j hj=>e1 j (hne j (gv j hj))
  have hokv:(([]++(gE.flatten++ak)).map AV.val).all aG=true:=aZ (gL.all (aL B))
  refine ⟨bC,.val (iC []),none,[(i,(Runner,[.row d2 0 1 c',a,y])),(d2,(cO,(([]++(gE.flatten++ak):List Value)).map AV.val))],rfl,fun i hi=>(by cases hi),.inl hl,.inr rfl,?_,fun p1 _ p3 _ _=>k2 w2 c' gE ak p1 p3 hd gL⟩
  refine ⟨hb.os,hb.tape,hb.output,hb.size,fun k hk hx _ _=>hb.nH k hk ?_,fun j hj=>e1 j (fun h=>hj (by simp [h])),fun i hi=>(by cases hi),fun i hi=>(by cases hi),fun x hx=> ?_,fun x hx=> ?_,by simpa using hid,fun x hx z hz he=> ?_,fun x hx j hj=> ?_⟩
  ·have g1:=hx (i,(Runner,[.row d2 0 1 c',a,y])) (by simp)
   rw [e1 i hid] at g1
   simpa using g1
  ·rcases List.mem_cons.1 hx with rfl | hx
   ·refine ⟨by rw [e1 i hid];exact o1.new,o1.ty,?_,?_⟩
    ·rw [e1 i hid]
     show aV w2 (β i) Runner #[.slice (some ⟨bC d2,0,none⟩) 1 c',a.leaf bC,y.leaf bC]
     rw [e2,lh (cs:=[a,y]) (by simp) hag,lh (cs:=[a,y]) (by simp) hag]
     exact Ka
    ·rw [List.all_cons,List.all_cons,fF a (by simp),List.all_cons,fF y (by simp)];rfl
   ·cases List.mem_singleton.1 hx
    refine ⟨by rw [e2];exact C.rH _ _ (by omega) (by have:=C.ez _ a2;omega),by rw [hK];rfl,?_,hokv⟩
    rw [e2,ah];exact hc'
  ·rcases List.mem_cons.1 hx with rfl | hx
   ·exact .inl ⟨by rw [h1];simp,by simp,ic,e1 i hid⟩
   ·cases List.mem_singleton.1 hx
    refine .inr ⟨.inl h3,hd2,.inl ?_⟩
    rw [e2];exact yn
  ·have jl:∀ (x:Nat×(TypeId×List AV)),x∈[(i,(Runner,[.row d2 0 1 c',a,y])),(d2,(cO,([]++(gE.flatten++ak)).map AV.val))]→(x.1=i∧bC x.1=β i)∨(x.1=d2∧bC x.1=b'):=fun x hx=>by
    rcases List.mem_cons.1 hx with rfl | hx
    ·exact .inl ⟨rfl,e1 i hid⟩
    ·cases List.mem_singleton.1 hx;exact .inr ⟨rfl,e2⟩
   have hno:β i≠b':=fun h=>absurd (bo Ka (h▸hc')) (by decide)
   rcases jl x hx with ⟨g1,g2⟩ | ⟨g1,g2⟩ <;> rcases jl z hz with ⟨g3,g4⟩ | ⟨g3,g4⟩
   ·rw [g1,g3]
   ·exact absurd (g2.symm.trans (he.trans g4)) hno
   ·exact absurd (g4.symm.trans (he.symm.trans g2)) hno
   ·rw [g1,g3]
  ·rcases List.mem_cons.1 hx with rfl | hx
   ·have hj':j=d2∨j∈ay [a,y]:=by
     obtain ⟨z,hz,hj2⟩:=aP.1 hj
     rcases List.mem_cons.1 hz with rfl | hz
     ·exact .inl (by simpa [AV.cL] using hj2)
     ·exact .inr (aP.2 ⟨z,hz,hj2⟩)
    rcases hj' with h | h
    ·exact .inl (by simp [h])
    ·exact .inr ⟨gv j h,by simp⟩
   ·cases List.mem_singleton.1 hx
    rw [ao] at hj;cases hj
end
end Go.Proofs.YtabalinjfgcfeaaGreat
