/- Be of the proof,laid behind one another. -/
import Derived.Test.YtabalinjfgcfeaaGreatKInterestConserves3
set_option linter.all false
set_option maxRecDepth 4000
namespace Go.Proofs.YtabalinjfgcfeaaGreat
open Go.RowKit
attribute [local irreducible] aB VS
theorem qI (w:World):Calls Tryz.prog 77 #[] w fun e w'=>∃ r,e=.returned r∧aC w' w.heap.size r 1∧aj w w':=by
 refine aw (C:=cj Tryz.prog w _) (args:=[]) Tryz.func77 rfl Tryz.ntmps77 (Nat.le_of_ble_eq_true rfl) ?_
 (repeat first|refine wN ?_|refine wP rfl ?_|refine aa rfl ?_|refine ab rfl ?_|refine wO rfl rfl ?_)
 refine VO.call rfl rfl (fk Tryz.func82) (fun cC er dv=>(Gy 1 cC (by omega) (by omega)).mono ?_)
 rintro e w1 ⟨r1,rfl,h1,aV⟩
 obtain ⟨s1,p1,n1,c1,rfl⟩:=h1.form
 refine ⟨_,rfl,aV,fun fe _ bb1=>wV rfl ?_⟩
 (repeat first|refine wN ?_|refine wP rfl ?_|refine aa rfl ?_|refine ab rfl ?_|refine wO rfl rfl ?_)
 refine VS.ret (aL _ _) rfl rfl (fun wz kz bz=> ?_)
 exact ⟨_,rfl,(h1.kp kz).mono dv.size,bz⟩
def Fl (s:Bool) (xs:List Nat) (t:Bool) (ys:List Nat):Bool:=dw s xs && (dw t ys && (decide (0 < numOf t ys) && decide (Int.gcd (numOf s xs) (numOf t ys)=1)))
theorem LN {s t:Bool} {xs ys:List Nat} (h:Fl s xs t ys=false):rq s xs t ys=0:=by
 unfold rq EZ
 split
 ·rename_i hc
  cases h1:dw s xs with
  | false=>unfold numOf;rw [if_neg (by simp [h1])];simp
  | true=>
    cases h2:dw t ys with
    | false=>
      have:numOf t ys=0:=by unfold numOf;rw [if_neg (by simp [h2])]
      omega
    | true=>
      unfold Fl at h
      rw [h1,h2,decide_eq_true hc.1,decide_eq_true hc.2] at h
      cases h
 ·rfl
theorem rtB_inv {s t:Bool} {xs ys:List Nat} (h:Fl s xs t ys=true):dw s xs=true∧dw t ys=true∧0 < numOf t ys∧Int.gcd (numOf s xs) (numOf t ys)=1:=by
 unfold Fl at h
 simp only [Bool.and_eq_true,decide_eq_true_eq] at h
 exact h
theorem eW.lim {w:World} {v:Value} {s:Bool} {xs:List Nat} (h:eW w v s xs):bV xs:=by
 obtain ⟨_,_,_,_,l⟩:=h
 exact l
theorem LO {w:World} {v:Value} {s t:Bool} {xs ys:List Nat} (hv:eR w v s xs t ys) (h:Fl s xs t ys=true):cQ w v (rq s xs t ys):=by
 obtain ⟨h1,h2,h3,h4⟩:=rtB_inv h
 obtain ⟨p,c,r,d,rfl,a1,a2⟩:=hv
 obtain ⟨e1,e2⟩:=qE ⟨h3,h4⟩
 refine ⟨s,p,_,c,t,r,_,d,rfl,?_,?_⟩
 ·unfold rq;rw [e1]
  have l:=a1.lim
  unfold numOf
  rw [if_pos h1]
  obtain ⟨c1,c2⟩:=canon l h1
  show eW _ _ _ _
  rw [←c1,←c2]
  assumption
 ·unfold rq;rw [e2]
  have l:=a2.lim
  unfold numOf
  rw [if_pos h2]
  obtain ⟨c1,c2⟩:=canon l h2
  show eW _ _ _ _
  rw [←c1,←c2]
  assumption
theorem eW.in {w:World} {v:Value} {s:Bool} {xs:List Nat} {k:Nat} (h:eW w v s xs) (hk:xs.length≤k):bP w v (numOf s xs) k:=⟨s,xs,h,rfl,hk⟩
theorem rW (s t:Bool) (xs ys:List Nat) (v:Value) (w:World) (h:eR w v s xs t ys) (hx:xs.length≤536870912) (hy:ys.length≤536870912):
  Calls Tryz.prog 68 #[v] w fun e w'=>e=.returned (.bool (Fl s xs t ys))∧aj w w':=by
 obtain ⟨p,c,r,d,rfl,h1,h2⟩:=h
 refine aw (C:=cj Tryz.prog w _) (args:=[_]) Tryz.func68 rfl Tryz.ntmps68 (Nat.le_of_ble_eq_true rfl) ?_
 (repeat first|refine wN ?_|refine wP rfl ?_|refine aa rfl ?_|refine ab rfl ?_|refine wO rfl rfl ?_)
 refine VO.call rfl rfl (fk Tryz.func102) (fun cC er dv=>(qB s xs _ cC (h1.bj dv)).mono ?_)
 rintro e w1 ⟨rfl,aV⟩
 cases q1:dw s xs
 ·refine ⟨_,rfl,aV,fun fe _ bb1=>wV rfl ?_⟩
  (repeat first|refine wN ?_|refine wP rfl ?_|refine aa rfl ?_|refine ab rfl ?_|refine wO rfl rfl ?_)
  refine VS.ret (aL _ _) rfl rfl (fun wz kz bz=> ?_)
  exact ⟨by simp [Fl,q1,iC],bz⟩
 refine ⟨_,rfl,aV,fun fe _ bb1=>wV rfl ?_⟩
 (repeat first|refine wN ?_|refine wP rfl ?_|refine aa rfl ?_|refine ab rfl ?_|refine wO rfl rfl ?_)
 refine VO.call rfl rfl (fk Tryz.func102) (fun dC gu eu=>(qB t ys _ dC (h2.bj eu)).mono ?_)
 rintro e w2 ⟨rfl,bm⟩
 cases q2:dw t ys
 ·refine ⟨_,rfl,bm,fun fZ _ bb2=>wV rfl ?_⟩
  (repeat first|refine wN ?_|refine wP rfl ?_|refine aa rfl ?_|refine ab rfl ?_|refine wO rfl rfl ?_)
  refine VS.ret (aL _ _) rfl rfl (fun wz kz bz=> ?_)
  exact ⟨by simp [Fl,q1,q2,iC],bz⟩
 refine ⟨_,rfl,bm,fun fZ _ bb2=>wV rfl ?_⟩
 (repeat first|refine wN ?_|refine wP rfl ?_|refine aa rfl ?_|refine ab rfl ?_|refine wO rfl rfl ?_)
 refine VO.call rfl rfl (fk Tryz.func43) (fun gv gY gV=>(oZ _ (numOf t ys) _ gv ((h2.in (Nat.le_refl _)).bj gV)).mono ?_)
 rintro e w3 ⟨rfl,cD⟩
 by_cases q3:0 < numOf t ys
 ·rw [eX q3]
  refine ⟨_,rfl,cD,fun kt _ bb3=>wV rfl ?_⟩
  (repeat first|refine wN ?_|refine wP rfl ?_|refine aa rfl ?_|refine ab rfl ?_|refine wO rfl rfl ?_)
  refine VO.call rfl rfl (fk Tryz.func103) (fun nj qa qF=>(CE _ _ (numOf s xs) (numOf t ys) _ _ nj ((h1.in (Nat.le_refl _)).bj qF) ((h2.in (Nat.le_refl _)).bj qF) hx hy).mono ?_)
  rintro e w4 ⟨r4,rfl,h4,gU⟩
  obtain ⟨s4,p4,n4,c4,rfl⟩:=h4.form
  refine ⟨_,rfl,gU,fun pd _ AZ=>wV rfl ?_⟩
  (repeat first|refine wN ?_|refine wP rfl ?_|refine aa rfl ?_|refine ab rfl ?_|refine wO rfl rfl ?_)
  refine VO.call rfl rfl (fk Tryz.func77) (fun kg mG ku=>(qI kg).mono ?_)
  rintro e w5 ⟨r5,rfl,h5,gi⟩
  obtain ⟨s5,p5,n5,c5,rfl⟩:=h5.form
  refine ⟨_,rfl,gi,fun nk _ xf=>wV rfl ?_⟩
  (repeat first|refine wN ?_|refine wP rfl ?_|refine aa rfl ?_|refine ab rfl ?_|refine wO rfl rfl ?_)
  have hg:Sz (Int.gcd (numOf s xs) (numOf t ys):Int) ys.length:=by
   obtain ⟨_,_,_,_,l2⟩:=h2
   refine Sz.le (Y:=numOf t ys) (xc l2 (Nat.le_refl _)) ?_
   rw [Int.natAbs_natCast,←Int.natAbs_natCast (Int.gcd (numOf s xs) (numOf t ys))]
   have:=Int.gcd_dvd_right (numOf s xs) (numOf t ys)
   have:=Int.natAbs_dvd_natAbs.2 this
   exact Nat.le_of_dvd (by omega) this
  refine VO.call rfl rfl (fk Tryz.func41) (fun pK ux tw=>(wY _ _ (Int.gcd (numOf s xs) (numOf t ys):Int) 1 _ 1 pK ((h4.kp (mG.aJ ((Kp.of gi).aJ ux))).in hg) ((h5.kp ux).in (Sz.small (by decide))) (by omega) (by omega)).mono ?_)
  rintro e w6 ⟨rfl,mX⟩
  by_cases q4:Int.gcd (numOf s xs) (numOf t ys)=1
  ·rw [show ((Int.gcd (numOf s xs) (numOf t ys):Int) - 1).sign=0 by rw [q4];rfl]
   refine ⟨_,rfl,mX,fun tx _ CR=>wV rfl ?_⟩
   (repeat first|refine wN ?_|refine wP rfl ?_|refine aa rfl ?_|refine ab rfl ?_|refine wO rfl rfl ?_)
   refine VS.ret (aL _ _) rfl rfl (fun wz kz bz=> ?_)
   exact ⟨by simp [Fl,q1,q2,q3,q4,iC],bz⟩
  ·have hne:(((Int.gcd (numOf s xs) (numOf t ys):Int) - 1).sign == 0)=false:=by
    rw [beq_eq_false_iff_ne]
    intro e
    have:=Int.sign_eq_zero_iff_zero.1 e
    omega
   refine ⟨_,rfl,mX,fun tx _ CR=>wV rfl ?_⟩
   (repeat first|refine wN ?_|refine wP rfl ?_|refine aa rfl ?_|refine ab rfl ?_|refine wO rfl rfl ?_)
   refine VS.ret (aL _ _) rfl rfl (fun wz kz bz=> ?_)
   exact ⟨by simp only [Fl,q1,q2,q3,q4,iC,Bool.true_and,decide_true,decide_false,hne],bz⟩
 ·have q4:(numOf t ys).sign=0∨(numOf t ys).sign= -1:=by
   rcases Int.lt_trichotomy (numOf t ys) 0 with e | e | e
   ·exact .inr (sign_neg e)
   ·rw [e];exact .inl rfl
   ·exact absurd e q3
  rcases q4 with q4 | q4
  all_goals
   rw [q4]
   refine ⟨_,rfl,cD,fun kt _ bb3=>wV rfl ?_⟩
   (repeat first|refine wN ?_|refine wP rfl ?_|refine aa rfl ?_|refine ab rfl ?_|refine wO rfl rfl ?_)
   refine VS.ret (aL _ _) rfl rfl (fun wz kz bz=> ?_)
   exact ⟨by simp [Fl,q1,q2,q3,iC],bz⟩
theorem cQ.zero {w:World} {p:Option Addr} {n c:Nat} {s:Bool} (h:bO w (.agg #[.bool s,.slice p n c]) 1):cQ w (.agg #[.bool false,.slice none 0 0,.bool s,.slice p n c]) 0:=⟨_,_,_,_,_,_,_,_,rfl,bO.zero _,h⟩
theorem cG (v:Value) (q:Rat) (k:Nat) (w:World) (h:bK w v q k) (hk:k≤536870912):
  Calls Tryz.prog 40 #[v] w fun e w'=>∃ r,e=.returned r∧cQ w' r q∧aj w w':=by
 obtain ⟨s,xs,t,ys,ot,rfl,hx,hy⟩:=h
 have hraw':=ot
 obtain ⟨p,c,r,d,rfl,_,_⟩:=ot
 refine aw (C:=cj Tryz.prog w _) (args:=[_]) Tryz.func40 rfl Tryz.ntmps40 (Nat.le_of_ble_eq_true rfl) ?_
 (repeat first|refine wN ?_|refine wP rfl ?_|refine aa rfl ?_|refine ab rfl ?_|refine wO rfl rfl ?_)
 refine VO.call rfl rfl (fk Tryz.func68) (fun cC er dv=>(rW s t xs ys _ cC (hraw'.kp er) (by omega) (by omega)).mono ?_)
 rintro e w1 ⟨rfl,aV⟩
 cases hq:Fl s xs t ys
 ·refine ⟨_,rfl,aV,fun fe _ bb1=>wV rfl ?_⟩
  (repeat first|refine wN ?_|refine wP rfl ?_|refine aa rfl ?_|refine ab rfl ?_|refine wO rfl rfl ?_)
  refine VO.call rfl rfl (fk Tryz.func77) (fun dC gu eu=>(qI dC).mono ?_)
  rintro e w2 ⟨r2,rfl,h2,bm⟩
  obtain ⟨s2,p2,n2,c2,rfl⟩:=h2.form
  refine ⟨_,rfl,bm,fun fZ _ bb2=>wV rfl ?_⟩
  (repeat first|refine wN ?_|refine wP rfl ?_|refine aa rfl ?_|refine ab rfl ?_|refine wO rfl rfl ?_)
  refine VS.ret (aL _ _) rfl rfl (fun wz kz bz=> ?_)
  exact ⟨_,rfl,by rw [LN hq];exact cQ.zero (h2.kp kz).rd,bz⟩
 ·refine ⟨_,rfl,aV,fun fe _ bb1=>wV rfl ?_⟩
  (repeat first|refine wN ?_|refine wP rfl ?_|refine aa rfl ?_|refine ab rfl ?_|refine wO rfl rfl ?_)
  refine VS.ret (aL _ _) rfl rfl (fun wz kz bz=> ?_)
  exact ⟨_,rfl,(LO hraw' hq).kp (fe.aJ kz),bz⟩
theorem Fm {X Y:Int} {k:Nat} (hY:Sz Y k) (h:Y≠0):Sz (Int.gcd X Y:Int) k:=by
 refine Sz.le (Y:=Y) hY ?_
 rw [Int.natAbs_natCast,←Int.natAbs_natCast (Int.gcd X Y)]
 exact Nat.le_of_dvd (by omega) (Int.natAbs_dvd_natAbs.2 (Int.gcd_dvd_right X Y))
theorem eI {w w':World} {X Y:Int} {e:Ending} (h:wZ w w' X Y e) (hY:Y≠0):∃ v u,e=.returned (.tuple #[v,u,.int .i64 0])∧aC w' w.heap.size v (X.fdiv Y)∧aC w' w.heap.size u (X.fmod Y):=by
 rcases h with ⟨h0,_⟩ | ⟨_,h⟩
 ·exact absurd h0 hY
 ·exact h
theorem oD (v u:Value) (X Y:Int) (j k:Nat) (w:World) (hv:bP w v X j) (hu:bP w u Y k) (hj:j≤268435456) (hk:k≤268435456) (hY:Y≠0):
  Calls Tryz.prog 83 #[v,u] w fun e w'=>∃ r,e=.returned r∧aK w' w.heap.size r (Rat.divInt X Y)∧aj w w':=by
 obtain ⟨s,p,n,c,rfl⟩:=hv.form
 obtain ⟨t,r,m,d,rfl⟩:=hu.form
 refine aw (C:=cj Tryz.prog w _) (args:=[_,_]) Tryz.func83 rfl Tryz.ntmps83 (Nat.le_of_ble_eq_true rfl) ?_
 (repeat first|refine wN ?_|refine wP rfl ?_|refine aa rfl ?_|refine ab rfl ?_|refine wO rfl rfl ?_)
 refine VO.call rfl rfl (fk Tryz.func103) (fun cC er dv=>(CE _ _ X Y j k cC (hv.kp er) (hu.kp er) (by omega) (by omega)).mono ?_)
 rintro e w1 ⟨r1,rfl,h1,aV⟩
 obtain ⟨s1,p1,n1,c1,rfl⟩:=h1.form
 refine ⟨_,rfl,aV,fun fe _ bb1=>wV rfl ?_⟩
 (repeat first|refine wN ?_|refine wP rfl ?_|refine aa rfl ?_|refine ab rfl ?_|refine wO rfl rfl ?_)
 refine VO.call rfl rfl (fk Tryz.func43) (fun dC gu eu=>(oZ _ Y k dC (hu.bj eu)).mono ?_)
 rintro e w2 ⟨rfl,bm⟩
 have LP:Sz (Int.gcd X Y:Int) k:=Fm hu.len hY
 have Ln:(Int.gcd X Y:Int)≠0:=by
  intro e
  have:=(Int.gcd_eq_zero_iff.1 (show Int.gcd X Y=0 by omega)).2
  exact hY this
 rcases Int.lt_or_lt_of_ne hY with q | q
 ·rw [sign_neg q]
  obtain ⟨l1,l2⟩:=low_neg (X:=X) q
  refine ⟨_,rfl,bm,fun fZ _ bb2=>wV rfl ?_⟩
  (repeat first|refine wN ?_|refine wP rfl ?_|refine aa rfl ?_|refine ab rfl ?_|refine wO rfl rfl ?_)
  refine VO.call rfl rfl (fk Tryz.func113) (fun gv gY gV=>(CD _ (Int.gcd X Y:Int) k gv ((h1.kp (fZ.aJ gY)).in LP) (by omega)).mono ?_)
  rintro e w3 ⟨r3,rfl,h3,cD⟩
  obtain ⟨s3,p3,n3,c3,rfl⟩:=h3.form
  refine ⟨_,rfl,cD,fun kt _ bb3=>wV rfl ?_⟩
  (repeat first|refine wN ?_|refine wP rfl ?_|refine aa rfl ?_|refine ab rfl ?_|refine wO rfl rfl ?_)
  refine VO.call rfl rfl (fk Tryz.func114) (fun nj qa qF=>(kK _ _ X (-(Int.gcd X Y:Int)) j k nj (hv.bj qF) ((h3.kp qa).in LP.neg) (by omega) (by omega)).mono ?_)
  rintro e w4 ⟨hd4,gU⟩
  obtain ⟨v4,u4,rfl,h4,h4'⟩:=eI hd4 (by omega)
  obtain ⟨s4,p4,n4,c4,rfl⟩:=h4.form
  obtain ⟨t4,r4,m4,d4,rfl⟩:=h4'.form
  refine ⟨_,rfl,gU,fun pd _ AZ=>wV rfl ?_⟩
  (repeat first|refine wN ?_|refine wP rfl ?_|refine aa rfl ?_|refine ab rfl ?_|refine wO rfl rfl ?_)
  refine VO.call rfl rfl (fk Tryz.func114) (fun kg mG ku=>(kK _ _ Y (-(Int.gcd X Y:Int)) k k kg (hu.bj ku) ((h3.kp (pd.aJ mG)).in LP.neg) (by omega) (by omega)).mono ?_)
  rintro e w5 ⟨hd5,gi⟩
  obtain ⟨v5,u5,rfl,h5,h5'⟩:=eI hd5 (by omega)
  obtain ⟨s5,p5,n5,c5,rfl⟩:=h5.form
  obtain ⟨t5,r5,m5,d5,rfl⟩:=h5'.form
  refine ⟨_,rfl,gi,fun nk _ xf=>wV rfl ?_⟩
  (repeat first|refine wN ?_|refine wP rfl ?_|refine aa rfl ?_|refine ab rfl ?_|refine wO rfl rfl ?_)
  refine VS.ret (aL _ _) rfl rfl (fun wz kz bz=> ?_)
  exact ⟨_,rfl,⟨_,_,_,_,_,_,_,_,rfl,aC.cast ((h4.kp (nk.aJ kz)).mono qF.size) l1,aC.cast ((h5.kp kz).mono ku.size) l2⟩,bz⟩
 ·rw [eX q]
  obtain ⟨l1,l2⟩:=vE (X:=X) q
  refine ⟨_,rfl,bm,fun fZ _ bb2=>wV rfl ?_⟩
  (repeat first|refine wN ?_|refine wP rfl ?_|refine aa rfl ?_|refine ab rfl ?_|refine wO rfl rfl ?_)
  refine VO.call rfl rfl (fk Tryz.func114) (fun nj qa qF=>(kK _ _ X (Int.gcd X Y:Int) j k nj (hv.bj qF) ((h1.kp (fZ.aJ qa)).in LP) (by omega) (by omega)).mono ?_)
  rintro e w4 ⟨hd4,gU⟩
  obtain ⟨v4,u4,rfl,h4,h4'⟩:=eI hd4 (by omega)
  obtain ⟨s4,p4,n4,c4,rfl⟩:=h4.form
  obtain ⟨t4,r4,m4,d4,rfl⟩:=h4'.form
  refine ⟨_,rfl,gU,fun pd _ AZ=>wV rfl ?_⟩
  (repeat first|refine wN ?_|refine wP rfl ?_|refine aa rfl ?_|refine ab rfl ?_|refine wO rfl rfl ?_)
  refine VO.call rfl rfl (fk Tryz.func114) (fun kg mG ku=>(kK _ _ Y (Int.gcd X Y:Int) k k kg (hu.bj ku) ((h1.kp (fZ.aJ (pd.aJ mG))).in LP) (by omega) (by omega)).mono ?_)
  rintro e w5 ⟨hd5,gi⟩
  obtain ⟨v5,u5,rfl,h5,h5'⟩:=eI hd5 (by omega)
  obtain ⟨s5,p5,n5,c5,rfl⟩:=h5.form
  obtain ⟨t5,r5,m5,d5,rfl⟩:=h5'.form
  refine ⟨_,rfl,gi,fun nk _ xf=>wV rfl ?_⟩
  (repeat first|refine wN ?_|refine wP rfl ?_|refine aa rfl ?_|refine ab rfl ?_|refine wO rfl rfl ?_)
  refine VS.ret (aL _ _) rfl rfl (fun wz kz bz=> ?_)
  exact ⟨_,rfl,⟨_,_,_,_,_,_,_,_,rfl,aC.cast ((h4.kp (nk.aJ kz)).mono qF.size) l1,aC.cast ((h5.kp kz).mono ku.size) l2⟩,bz⟩
end Go.Proofs.YtabalinjfgcfeaaGreat
namespace Go.Proofs.YtabalinjfgcfeaaGreat
open Go.RowKit
attribute [local irreducible] aB VS
theorem Aj (q r:Rat):q + r=Rat.divInt (q.num * r.den + r.num * q.den) ((q.den:Int) * r.den):=by
 rw [Rat.add_def',←Rat.divInt_ofNat];simp
theorem add_same {q r:Rat} (h:(q.den:Int)=r.den):q + r=Rat.divInt (q.num + r.num) q.den:=by
 rw [Aj,←h]
 have hd:(q.den:Int)≠0:=by have:=q.den_nz;omega
 rw [←Int.add_mul,Rat.divInt_mul_right hd]
theorem GK (q r:Rat):q * r=Rat.divInt (q.num * r.num) ((q.den:Int) * r.den):=by
 rw [Rat.mul_def',←Rat.divInt_ofNat];simp
theorem lZ {X Y:Int} {k l:Nat} (hX:Sz X k) (hY:Sz Y l) (h:Y≠0):Sz (Rat.divInt X Y).num k∧Sz ((Rat.divInt X Y).den:Int) l:=by
 constructor
 ·refine Sz.le hX ?_
  rw [Rat.num_divInt]
  have h1:(Y.sign * X / (Y.gcd X:Int)).natAbs≤(Y.sign * X).natAbs:=Int.natAbs_ediv_le_natAbs _ _
  rw [Int.natAbs_mul] at h1
  have h2:Y.sign.natAbs=1:=by
   rcases Int.lt_or_lt_of_ne h with e | e
   ·rw [sign_neg e];rfl
   ·rw [eX e];rfl
  rw [h2,Nat.one_mul] at h1
  exact h1
 ·refine Sz.le hY ?_
  rw [Rat.den_divInt,if_neg h,Int.natAbs_natCast]
  exact Nat.div_le_self _ _
theorem dV.add {q r:Rat} {k l:Nat} (hq:dV q k) (hr:dV r l):dV (q + r) (k + l + 1):=by
 rw [Aj]
 have hd:(q.den:Int) * r.den≠0:=Int.mul_ne_zero (by have:=q.den_nz;omega) (by have:=r.den_nz;omega)
 obtain ⟨h1,h2⟩:=lZ (Sz.add (hq.1.mul hr.2) (hr.1.mul hq.2) (m:=k + l) (by omega) (by omega)) (hq.2.mul hr.2) hd
 exact ⟨h1,h2.mono (by omega)⟩
theorem dV.mul {q r:Rat} {k l:Nat} (hq:dV q k) (hr:dV r l):dV (q * r) (k + l):=by
 rw [GK]
 have hd:(q.den:Int) * r.den≠0:=Int.mul_ne_zero (by have:=q.den_nz;omega) (by have:=r.den_nz;omega)
 exact lZ (hq.1.mul hr.1) (hq.2.mul hr.2) hd
theorem dV.neg {q:Rat} {k:Nat} (hq:dV q k):dV (-q) k:=⟨by rw [Rat.neg_num];exact hq.1.neg,by rw [Rat.neg_den];exact hq.2⟩
theorem dV.sub {q r:Rat} {k l:Nat} (hq:dV q k) (hr:dV r l):dV (q - r) (k + l + 1):=by rw [Rat.sub_eq_add_neg];exact hq.add hr.neg
def dK (q r:Rat):Int:=if q < r then -1 else if q=r then 0 else 1
theorem CT (q r:Rat):(q.num * r.den - r.num * q.den).sign=dK q r:=by
 unfold dK
 by_cases h1:q < r
 ·rw [if_pos h1];exact sign_neg (by have:=(Rat.lt_iff q r).1 h1;omega)
 ·rw [if_neg h1]
  by_cases h2:q=r
  ·subst h2;rw [if_pos rfl,Int.sub_self];rfl
  ·rw [if_neg h2]
   refine eX ?_
   have a:=mt (Rat.lt_iff q r).2 h1
   have b:=mt Rat.eq_iff_mul_eq_mul.2 h2
   omega
theorem IV (q:Rat):q.num.sign=dK q 0:=by
 have:=CT q 0
 simpa using this
def CU (Y:Int):Int:=if Y=0 then 20 else 0
theorem bF (n:Int) (w:World) (h0: -9223372036854775808≤n) (h1:n≤9223372036854775807):
  Calls Tryz.prog 44 #[.int .i64 n] w fun e w'=>∃ r,e=.returned r∧aK w' w.heap.size r (n:Rat)∧aj w w':=by
 refine aw (C:=cj Tryz.prog w _) (args:=[_]) Tryz.func44 rfl Tryz.ntmps44 (Nat.le_of_ble_eq_true rfl) ?_
 (repeat first|refine wN ?_|refine wP rfl ?_|refine aa rfl ?_|refine ab rfl ?_|refine wO rfl rfl ?_)
 refine VO.call rfl rfl (fk Tryz.func82) (fun cC er dv=>(Gy n cC h0 h1).mono ?_)
 rintro e w1 ⟨r1,rfl,q1,aV⟩
 obtain ⟨s1,p1,n1,c1,rfl⟩:=q1.form
 refine ⟨_,rfl,aV,fun fe _ bb1=>wV rfl ?_⟩
 (repeat first|refine wN ?_|refine wP rfl ?_|refine aa rfl ?_|refine ab rfl ?_|refine wO rfl rfl ?_)
 refine VO.call rfl rfl (fk Tryz.func77) (fun dC gu eu=>(qI dC).mono ?_)
 rintro e w2 ⟨r2,rfl,q2,bm⟩
 obtain ⟨s2,p2,n2,c2,rfl⟩:=q2.form
 refine ⟨_,rfl,bm,fun fZ _ bb2=>wV rfl ?_⟩
 (repeat first|refine wN ?_|refine wP rfl ?_|refine aa rfl ?_|refine ab rfl ?_|refine wO rfl rfl ?_)
 refine VS.ret (aL _ _) rfl rfl (fun wz kz bz=> ?_)
 exact ⟨_,rfl,⟨_,_,_,_,_,_,_,_,rfl,(q1.kp (fZ.aJ kz)).mono dv.size,(q2.kp kz).mono eu.size⟩,bz⟩
set_option maxHeartbeats 400000 in
theorem ma (v u:Value) (q r:Rat) (k l:Nat) (w:World) (hv:cQ w v q) (hu:cQ w u r) (hq:dV q k) (hr:dV r l) (hk:k≤67108864) (hl:l≤67108864):
  Calls Tryz.prog 45 #[v,u] w fun e w'=>∃ x,e=.returned x∧aK w' w.heap.size x (q + r)∧aj w w':=by
 obtain ⟨s,p,n,c,t,y,m,d,rfl⟩:=hv.form
 obtain ⟨s',p',n',c',t',y',m',d',rfl⟩:=hu.form
 obtain ⟨v1,v2⟩:=hv.parts
 obtain ⟨u1,u2⟩:=hu.parts
 have dq:(q.den:Int)≠0:=by have:=q.den_nz;omega
 have dr:(r.den:Int)≠0:=by have:=r.den_nz;omega
 refine aw (C:=cj Tryz.prog w _) (args:=[_,_]) Tryz.func45 rfl Tryz.ntmps45 (Nat.le_of_ble_eq_true rfl) ?_
 (repeat first|refine wN ?_|refine wP rfl ?_|refine aa rfl ?_|refine ab rfl ?_|refine wO rfl rfl ?_)
 refine VO.call rfl rfl (fk Tryz.func41) (fun cC er dv=>(wY _ _ (q.den:Int) r.den k l cC ((v2.bj dv).to hq.2) ((u2.bj dv).to hr.2) (by omega) (by omega)).mono ?_)
 rintro e w1 ⟨rfl,aV⟩
 by_cases hd:(q.den:Int)=r.den
 ·rw [show ((q.den:Int) - r.den).sign=0 by rw [hd,Int.sub_self];rfl]
  refine ⟨_,rfl,aV,fun fe _ bb1=>wV rfl ?_⟩
  (repeat first|refine wN ?_|refine wP rfl ?_|refine aa rfl ?_|refine ab rfl ?_|refine wO rfl rfl ?_)
  refine VO.call rfl rfl (fk Tryz.func84) (fun dC gu eu=>(CB _ _ q.num r.num k l dC ((v1.bj eu).to hq.1) ((u1.bj eu).to hr.1) (by omega) (by omega)).mono ?_)
  rintro e w2 ⟨r2,rfl,q2,bm⟩
  obtain ⟨s2,p2,n2,c2,rfl⟩:=q2.form
  refine ⟨_,rfl,bm,fun fZ _ bb2=>wV rfl ?_⟩
  (repeat first|refine wN ?_|refine wP rfl ?_|refine aa rfl ?_|refine ab rfl ?_|refine wO rfl rfl ?_)
  refine VO.call rfl rfl (fk Tryz.func83) (fun gv gY gV=>(oD _ _ (q.num + r.num) q.den (k + l + 1) k gv ((q2.kp gY).in (Sz.add hq.1 hr.1 (by omega) (by omega))) ((v2.bj gV).to hq.2) (by omega) (by omega) dq).mono ?_)
  rintro e w3 ⟨r3,rfl,q3,cD⟩
  obtain ⟨s3,p3,n3,c3,t3,y3,m3,d3,rfl⟩:=q3.form
  refine ⟨_,rfl,cD,fun kt _ bb3=>wV rfl ?_⟩
  (repeat first|refine wN ?_|refine wP rfl ?_|refine aa rfl ?_|refine ab rfl ?_|refine wO rfl rfl ?_)
  refine VS.ret (aL _ _) rfl rfl (fun wz kz bz=> ?_)
  exact ⟨_,rfl,aK.cast ((q3.kp kz).mono gV.size) (add_same hd).symm,bz⟩
 ·have hs:((((q.den:Int) - r.den).sign == 0))=false:=by
   rw [beq_eq_false_iff_ne]
   intro e
   have:=Int.sign_eq_zero_iff_zero.1 e
   omega
  rcases Int.lt_or_lt_of_ne (show (q.den:Int) - r.den≠0 by omega) with e | e
  all_goals
   first | rw [sign_neg e] | rw [eX e]
   refine ⟨_,rfl,aV,fun fe _ bb1=>wV rfl ?_⟩
   (repeat first|refine wN ?_|refine wP rfl ?_|refine aa rfl ?_|refine ab rfl ?_|refine wO rfl rfl ?_)
   refine VO.call rfl rfl (fk Tryz.func42) (fun dC gu eu=>(kf _ _ q.num r.den k l dC ((v1.bj eu).to hq.1) ((u2.bj eu).to hr.2) (by omega) (by omega)).mono ?_)
   rintro e w2 ⟨r2,rfl,q2,bm⟩
   obtain ⟨s2,p2,n2,c2,rfl⟩:=q2.form
   refine ⟨_,rfl,bm,fun fZ _ bb2=>wV rfl ?_⟩
   (repeat first|refine wN ?_|refine wP rfl ?_|refine aa rfl ?_|refine ab rfl ?_|refine wO rfl rfl ?_)
   refine VO.call rfl rfl (fk Tryz.func42) (fun gv gY gV=>(kf _ _ r.num q.den l k gv ((u1.bj gV).to hr.1) ((v2.bj gV).to hq.2) (by omega) (by omega)).mono ?_)
   rintro e w3 ⟨r3,rfl,q3,cD⟩
   obtain ⟨s3,p3,n3,c3,rfl⟩:=q3.form
   refine ⟨_,rfl,cD,fun kt _ bb3=>wV rfl ?_⟩
   (repeat first|refine wN ?_|refine wP rfl ?_|refine aa rfl ?_|refine ab rfl ?_|refine wO rfl rfl ?_)
   refine VO.call rfl rfl (fk Tryz.func84) (fun nj qa qF=>(CB _ _ (q.num * r.den) (r.num * q.den) (k + l) (l + k) nj ((q2.kp (kt.aJ qa)).in (hq.1.mul hr.2)) ((q3.kp qa).in (hr.1.mul hq.2)) (by omega) (by omega)).mono ?_)
   rintro e w4 ⟨r4,rfl,q4,gU⟩
   obtain ⟨s4,p4,n4,c4,rfl⟩:=q4.form
   refine ⟨_,rfl,gU,fun pd _ AZ=>wV rfl ?_⟩
   (repeat first|refine wN ?_|refine wP rfl ?_|refine aa rfl ?_|refine ab rfl ?_|refine wO rfl rfl ?_)
   refine VO.call rfl rfl (fk Tryz.func42) (fun kg mG ku=>(kf _ _ q.den r.den k l kg ((v2.bj ku).to hq.2) ((u2.bj ku).to hr.2) (by omega) (by omega)).mono ?_)
   rintro e w5 ⟨r5,rfl,q5,gi⟩
   obtain ⟨s5,p5,n5,c5,rfl⟩:=q5.form
   refine ⟨_,rfl,gi,fun nk _ xf=>wV rfl ?_⟩
   (repeat first|refine wN ?_|refine wP rfl ?_|refine aa rfl ?_|refine ab rfl ?_|refine wO rfl rfl ?_)
   refine VO.call rfl rfl (fk Tryz.func83) (fun pK ux tw=>(oD _ _ (q.num * r.den + r.num * q.den) ((q.den:Int) * r.den) (k + l + 1) (k + l) pK ((q4.kp (nk.aJ ux)).in (Sz.add (hq.1.mul hr.2) (hr.1.mul hq.2) (by omega) (by omega))) ((q5.kp ux).in (hq.2.mul hr.2)) (by omega) (by omega) (Int.mul_ne_zero dq dr)).mono ?_)
   rintro e w6 ⟨r6,rfl,q6,mX⟩
   obtain ⟨s6,p6,n6,c6,t6,y6,m6,d6,rfl⟩:=q6.form
   refine ⟨_,rfl,mX,fun tx _ CR=>wV rfl ?_⟩
   (repeat first|refine wN ?_|refine wP rfl ?_|refine aa rfl ?_|refine ab rfl ?_|refine wO rfl rfl ?_)
   refine VS.ret (aL _ _) rfl rfl (fun wz kz bz=> ?_)
   exact ⟨_,rfl,aK.cast ((q6.kp kz).mono tw.size) (Aj q r).symm,bz⟩
end Go.Proofs.YtabalinjfgcfeaaGreat
namespace Go.Proofs.YtabalinjfgcfeaaGreat
open Go.RowKit
attribute [local irreducible] aB VS
def jQ (k:Nat):Nat:=max k 1
theorem bK.Ak {w:World} {v:Value} {q:Rat} {k:Nat} (h:bK w v q k):dV q (jQ k):=by
 obtain ⟨s,xs,t,ys,h1,h2,h3,h4⟩:=h
 exact bK.sz (k:=jQ k) ⟨s,xs,t,ys,h1,h2,by unfold jQ;omega,by unfold jQ;omega⟩ (by unfold jQ;omega)
theorem dx (v u:Value) (q r:Rat) (k l:Nat) (w:World) (hv:bK w v q k) (hu:bK w u r l) (hk:k≤67108864) (hl:l≤67108864):
  Calls Tryz.prog 16 #[v,u] w fun e w'=>∃ x,e=.returned x∧aK w' w.heap.size x (q + r)∧aj w w':=by
 obtain ⟨s,p,n,c,t,y,m,d,rfl⟩:=hv.form
 obtain ⟨s',p',n',c',t',y',m',d',rfl⟩:=hu.form
 refine aw (C:=cj Tryz.prog w _) (args:=[_,_]) Tryz.func16 rfl Tryz.ntmps16 (Nat.le_of_ble_eq_true rfl) ?_
 (repeat first|refine wN ?_|refine wP rfl ?_|refine aa rfl ?_|refine ab rfl ?_|refine wO rfl rfl ?_)
 refine VO.call rfl rfl (fk Tryz.func40) (fun cC er dv=>(cG _ q k cC (hv.kp er) (by omega)).mono ?_)
 rintro e w1 ⟨r1,rfl,q1,aV⟩
 obtain ⟨s1,p1,n1,c1,t1,y1,m1,d1,rfl⟩:=q1.form
 refine ⟨_,rfl,aV,fun fe _ bb1=>wV rfl ?_⟩
 (repeat first|refine wN ?_|refine wP rfl ?_|refine aa rfl ?_|refine ab rfl ?_|refine wO rfl rfl ?_)
 refine VO.call rfl rfl (fk Tryz.func40) (fun dC gu eu=>(cG _ r l dC (hu.kp (fe.aJ gu)) (by omega)).mono ?_)
 rintro e w2 ⟨r2,rfl,q2,bm⟩
 obtain ⟨s2,p2,n2,c2,t2,y2,m2,d2,rfl⟩:=q2.form
 refine ⟨_,rfl,bm,fun fZ _ bb2=>wV rfl ?_⟩
 (repeat first|refine wN ?_|refine wP rfl ?_|refine aa rfl ?_|refine ab rfl ?_|refine wO rfl rfl ?_)
 refine VO.call rfl rfl (fk Tryz.func45) (fun gv gY gV=>(ma _ _ q r _ _ gv (q1.kp (fZ.aJ gY)) (q2.kp gY) hv.Ak hu.Ak (by unfold jQ;omega) (by unfold jQ;omega)).mono ?_)
 rintro e w3 ⟨r3,rfl,q3,cD⟩
 obtain ⟨s3,p3,n3,c3,t3,y3,m3,d3,rfl⟩:=q3.form
 refine ⟨_,rfl,cD,fun kt _ bb3=>wV rfl ?_⟩
 (repeat first|refine wN ?_|refine wP rfl ?_|refine aa rfl ?_|refine ab rfl ?_|refine wO rfl rfl ?_)
 refine VS.ret (aL _ _) rfl rfl (fun wz kz bz=> ?_)
 exact ⟨_,rfl,(q3.kp kz).mono gV.size,bz⟩
theorem Fo (v:Value) (q:Rat) (k:Nat) (w:World) (hv:bK w v q k) (hk:k≤536870912):
  Calls Tryz.prog 109 #[v] w fun e w'=>∃ x,e=.returned x∧aK w' w.heap.size x (-q)∧aj w w':=by
 obtain ⟨s,p,n,c,t,y,m,d,rfl⟩:=hv.form
 refine aw (C:=cj Tryz.prog w _) (args:=[_]) Tryz.func109 rfl Tryz.ntmps109 (Nat.le_of_ble_eq_true rfl) ?_
 (repeat first|refine wN ?_|refine wP rfl ?_|refine aa rfl ?_|refine ab rfl ?_|refine wO rfl rfl ?_)
 refine VO.call rfl rfl (fk Tryz.func40) (fun cC er dv=>(cG _ q k cC (hv.kp er) hk).mono ?_)
 rintro e w1 ⟨r1,rfl,q1,aV⟩
 obtain ⟨s1,p1,n1,c1,t1,y1,m1,d1,rfl⟩:=q1.form
 refine ⟨_,rfl,aV,fun fe _ bb1=>wV rfl ?_⟩
 (repeat first|refine wN ?_|refine wP rfl ?_|refine aa rfl ?_|refine ab rfl ?_|refine wO rfl rfl ?_)
 obtain ⟨a1,a2⟩:=q1.parts
 refine VO.call rfl rfl (fk Tryz.func113) (fun dC gu eu=>(CD _ q.num _ dC ((a1.kp gu).to hv.Ak.1) (by unfold jQ;omega)).mono ?_)
 rintro e w2 ⟨r2,rfl,q2,bm⟩
 obtain ⟨s2,p2,n2,c2,rfl⟩:=q2.form
 refine ⟨_,rfl,bm,fun fZ _ bb2=>wV rfl ?_⟩
 (repeat first|refine wN ?_|refine wP rfl ?_|refine aa rfl ?_|refine ab rfl ?_|refine wO rfl rfl ?_)
 refine VO.call rfl rfl (fk Tryz.func129) (fun gv gY gV=>(Lj _ q.den _ gv ((a2.kp (fZ.aJ gY)).to hv.Ak.2) (by unfold jQ;omega)).mono ?_)
 rintro e w3 ⟨r3,rfl,q3,cD⟩
 obtain ⟨s3,p3,n3,c3,rfl⟩:=q3.form
 refine ⟨_,rfl,cD,fun kt _ bb3=>wV rfl ?_⟩
 (repeat first|refine wN ?_|refine wP rfl ?_|refine aa rfl ?_|refine ab rfl ?_|refine wO rfl rfl ?_)
 refine VS.ret (aL _ _) rfl rfl (fun wz kz bz=> ?_)
 exact ⟨_,rfl,⟨_,_,_,_,_,_,_,_,rfl,aC.cast ((q2.kp (kt.aJ kz)).mono eu.size) (Rat.neg_num q).symm,aC.cast ((q3.kp kz).mono gV.size) (by rw [Rat.neg_den,Int.natAbs_natCast])⟩,bz⟩
theorem bW (v u:Value) (q r:Rat) (k l:Nat) (w:World) (hv:bK w v q k) (hu:bK w u r l) (hk:k≤67108864) (hl:l≤67108864):
  Calls Tryz.prog 72 #[v,u] w fun e w'=>∃ x,e=.returned x∧aK w' w.heap.size x (q - r)∧aj w w':=by
 obtain ⟨s,p,n,c,t,y,m,d,rfl⟩:=hv.form
 obtain ⟨s',p',n',c',t',y',m',d',rfl⟩:=hu.form
 refine aw (C:=cj Tryz.prog w _) (args:=[_,_]) Tryz.func72 rfl Tryz.ntmps72 (Nat.le_of_ble_eq_true rfl) ?_
 (repeat first|refine wN ?_|refine wP rfl ?_|refine aa rfl ?_|refine ab rfl ?_|refine wO rfl rfl ?_)
 refine VO.call rfl rfl (fk Tryz.func40) (fun cC er dv=>(cG _ q k cC (hv.kp er) (by omega)).mono ?_)
 rintro e w1 ⟨r1,rfl,q1,aV⟩
 obtain ⟨s1,p1,n1,c1,t1,y1,m1,d1,rfl⟩:=q1.form
 refine ⟨_,rfl,aV,fun fe _ bb1=>wV rfl ?_⟩
 (repeat first|refine wN ?_|refine wP rfl ?_|refine aa rfl ?_|refine ab rfl ?_|refine wO rfl rfl ?_)
 refine VO.call rfl rfl (fk Tryz.func109) (fun dC gu eu=>(Fo _ r l dC (hu.kp (fe.aJ gu)) (by omega)).mono ?_)
 rintro e w2 ⟨r2,rfl,q2,bm⟩
 obtain ⟨s2,p2,n2,c2,t2,y2,m2,d2,rfl⟩:=q2.form
 refine ⟨_,rfl,bm,fun fZ _ bb2=>wV rfl ?_⟩
 (repeat first|refine wN ?_|refine wP rfl ?_|refine aa rfl ?_|refine ab rfl ?_|refine wO rfl rfl ?_)
 refine VO.call rfl rfl (fk Tryz.func45) (fun gv gY gV=>(ma _ _ q (-r) _ _ gv (q1.kp (fZ.aJ gY)) (q2.kp gY).rd hv.Ak hu.Ak.neg (by unfold jQ;omega) (by unfold jQ;omega)).mono ?_)
 rintro e w3 ⟨r3,rfl,q3,cD⟩
 obtain ⟨s3,p3,n3,c3,t3,y3,m3,d3,rfl⟩:=q3.form
 refine ⟨_,rfl,cD,fun kt _ bb3=>wV rfl ?_⟩
 (repeat first|refine wN ?_|refine wP rfl ?_|refine aa rfl ?_|refine ab rfl ?_|refine wO rfl rfl ?_)
 refine VS.ret (aL _ _) rfl rfl (fun wz kz bz=> ?_)
 exact ⟨_,rfl,aK.cast ((q3.kp kz).mono gV.size) (Rat.sub_eq_add_neg q r).symm,bz⟩
theorem Fp (v u:Value) (q r:Rat) (k l:Nat) (w:World) (hv:bK w v q k) (hu:bK w u r l) (hk:k≤67108864) (hl:l≤67108864):
  Calls Tryz.prog 105 #[v,u] w fun e w'=>∃ x,e=.returned x∧aK w' w.heap.size x (q * r)∧aj w w':=by
 obtain ⟨s,p,n,c,t,y,m,d,rfl⟩:=hv.form
 obtain ⟨s',p',n',c',t',y',m',d',rfl⟩:=hu.form
 have dq:(q.den:Int) * r.den≠0:=Int.mul_ne_zero (by have:=q.den_nz;omega) (by have:=r.den_nz;omega)
 have zq:=hv.Ak
 have zr:=hu.Ak
 have uk:jQ k≤67108864:=by unfold jQ;omega
 have ul:jQ l≤67108864:=by unfold jQ;omega
 refine aw (C:=cj Tryz.prog w _) (args:=[_,_]) Tryz.func105 rfl Tryz.ntmps105 (Nat.le_of_ble_eq_true rfl) ?_
 (repeat first|refine wN ?_|refine wP rfl ?_|refine aa rfl ?_|refine ab rfl ?_|refine wO rfl rfl ?_)
 refine VO.call rfl rfl (fk Tryz.func40) (fun cC er dv=>(cG _ q k cC (hv.kp er) (by omega)).mono ?_)
 rintro e w1 ⟨r1,rfl,q1,aV⟩
 obtain ⟨s1,p1,n1,c1,t1,y1,m1,d1,rfl⟩:=q1.form
 refine ⟨_,rfl,aV,fun fe _ bb1=>wV rfl ?_⟩
 (repeat first|refine wN ?_|refine wP rfl ?_|refine aa rfl ?_|refine ab rfl ?_|refine wO rfl rfl ?_)
 refine VO.call rfl rfl (fk Tryz.func40) (fun dC gu eu=>(cG _ r l dC (hu.kp (fe.aJ gu)) (by omega)).mono ?_)
 rintro e w2 ⟨r2,rfl,q2,bm⟩
 obtain ⟨s2,p2,n2,c2,t2,y2,m2,d2,rfl⟩:=q2.form
 refine ⟨_,rfl,bm,fun fZ _ bb2=>wV rfl ?_⟩
 (repeat first|refine wN ?_|refine wP rfl ?_|refine aa rfl ?_|refine ab rfl ?_|refine wO rfl rfl ?_)
 obtain ⟨a1,a2⟩:=q1.parts
 obtain ⟨b1,b2⟩:=q2.parts
 refine VO.call rfl rfl (fk Tryz.func42) (fun gv gY gV=>(kf _ _ q.num r.num _ _ gv ((a1.kp (fZ.aJ gY)).to zq.1) ((b1.kp gY).to zr.1) (by omega) (by omega)).mono ?_)
 rintro e w3 ⟨r3,rfl,q3,cD⟩
 obtain ⟨s3,p3,n3,c3,rfl⟩:=q3.form
 refine ⟨_,rfl,cD,fun kt _ bb3=>wV rfl ?_⟩
 (repeat first|refine wN ?_|refine wP rfl ?_|refine aa rfl ?_|refine ab rfl ?_|refine wO rfl rfl ?_)
 refine VO.call rfl rfl (fk Tryz.func42) (fun nj qa qF=>(kf _ _ q.den r.den _ _ nj ((a2.kp (fZ.aJ (kt.aJ qa))).to zq.2) ((b2.kp (kt.aJ qa)).to zr.2) (by omega) (by omega)).mono ?_)
 rintro e w4 ⟨r4,rfl,q4,gU⟩
 obtain ⟨s4,p4,n4,c4,rfl⟩:=q4.form
 refine ⟨_,rfl,gU,fun pd _ AZ=>wV rfl ?_⟩
 (repeat first|refine wN ?_|refine wP rfl ?_|refine aa rfl ?_|refine ab rfl ?_|refine wO rfl rfl ?_)
 refine VO.call rfl rfl (fk Tryz.func83) (fun kg mG ku=>(oD _ _ (q.num * r.num) ((q.den:Int) * r.den) _ _ kg ((q3.kp (pd.aJ mG)).in (zq.1.mul zr.1)) ((q4.kp mG).in (zq.2.mul zr.2)) (by omega) (by omega) dq).mono ?_)
 rintro e w5 ⟨r5,rfl,q5,gi⟩
 obtain ⟨s5,p5,n5,c5,t5,y5,m5,d5,rfl⟩:=q5.form
 refine ⟨_,rfl,gi,fun nk _ xf=>wV rfl ?_⟩
 (repeat first|refine wN ?_|refine wP rfl ?_|refine aa rfl ?_|refine ab rfl ?_|refine wO rfl rfl ?_)
 refine VS.ret (aL _ _) rfl rfl (fun wz kz bz=> ?_)
 exact ⟨_,rfl,aK.cast ((q5.kp kz).mono ku.size) (GK q r).symm,bz⟩
theorem CV (v:Value) (q:Rat) (k:Nat) (w:World) (hv:bK w v q k) (hk:k≤536870912):
  Calls Tryz.prog 13 #[v] w fun e w'=>e=.returned (.int .i64 (dK q 0))∧aj w w':=by
 obtain ⟨s,p,n,c,t,y,m,d,rfl⟩:=hv.form
 refine aw (C:=cj Tryz.prog w _) (args:=[_]) Tryz.func13 rfl Tryz.ntmps13 (Nat.le_of_ble_eq_true rfl) ?_
 (repeat first|refine wN ?_|refine wP rfl ?_|refine aa rfl ?_|refine ab rfl ?_|refine wO rfl rfl ?_)
 refine VO.call rfl rfl (fk Tryz.func40) (fun cC er dv=>(cG _ q k cC (hv.kp er) hk).mono ?_)
 rintro e w1 ⟨r1,rfl,q1,aV⟩
 obtain ⟨s1,p1,n1,c1,t1,y1,m1,d1,rfl⟩:=q1.form
 refine ⟨_,rfl,aV,fun fe _ bb1=>wV rfl ?_⟩
 (repeat first|refine wN ?_|refine wP rfl ?_|refine aa rfl ?_|refine ab rfl ?_|refine wO rfl rfl ?_)
 refine VO.call rfl rfl (fk Tryz.func43) (fun dC gu eu=>(oZ _ q.num _ dC ((q1.parts.1.kp gu).to hv.Ak.1)).mono ?_)
 rintro e w2 ⟨rfl,bm⟩
 rw [IV]
 refine ⟨_,rfl,bm,fun fZ _ bb2=>wV rfl ?_⟩
 (repeat first|refine wN ?_|refine wP rfl ?_|refine aa rfl ?_|refine ab rfl ?_|refine wO rfl rfl ?_)
 refine VS.ret (aL _ _) rfl rfl (fun wz kz bz=> ?_)
 exact ⟨rfl,bz⟩
theorem qJ (v u:Value) (q r:Rat) (k l:Nat) (w:World) (hv:bK w v q k) (hu:bK w u r l) (hk:k≤67108864) (hl:l≤67108864):
  Calls Tryz.prog 12 #[v,u] w fun e w'=>e=.returned (.int .i64 (dK q r))∧aj w w':=by
 obtain ⟨s,p,n,c,t,y,m,d,rfl⟩:=hv.form
 obtain ⟨s',p',n',c',t',y',m',d',rfl⟩:=hu.form
 have zq:=hv.Ak
 have zr:=hu.Ak
 have uk:jQ k≤67108864:=by unfold jQ;omega
 have ul:jQ l≤67108864:=by unfold jQ;omega
 refine aw (C:=cj Tryz.prog w _) (args:=[_,_]) Tryz.func12 rfl Tryz.ntmps12 (Nat.le_of_ble_eq_true rfl) ?_
 (repeat first|refine wN ?_|refine wP rfl ?_|refine aa rfl ?_|refine ab rfl ?_|refine wO rfl rfl ?_)
 refine VO.call rfl rfl (fk Tryz.func40) (fun cC er dv=>(cG _ q k cC (hv.kp er) (by omega)).mono ?_)
 rintro e w1 ⟨r1,rfl,q1,aV⟩
 obtain ⟨s1,p1,n1,c1,t1,y1,m1,d1,rfl⟩:=q1.form
 refine ⟨_,rfl,aV,fun fe _ bb1=>wV rfl ?_⟩
 (repeat first|refine wN ?_|refine wP rfl ?_|refine aa rfl ?_|refine ab rfl ?_|refine wO rfl rfl ?_)
 refine VO.call rfl rfl (fk Tryz.func40) (fun dC gu eu=>(cG _ r l dC (hu.kp (fe.aJ gu)) (by omega)).mono ?_)
 rintro e w2 ⟨r2,rfl,q2,bm⟩
 obtain ⟨s2,p2,n2,c2,t2,y2,m2,d2,rfl⟩:=q2.form
 refine ⟨_,rfl,bm,fun fZ _ bb2=>wV rfl ?_⟩
 (repeat first|refine wN ?_|refine wP rfl ?_|refine aa rfl ?_|refine ab rfl ?_|refine wO rfl rfl ?_)
 obtain ⟨a1,a2⟩:=q1.parts
 obtain ⟨b1,b2⟩:=q2.parts
 refine VO.call rfl rfl (fk Tryz.func42) (fun gv gY gV=>(kf _ _ q.num r.den _ _ gv ((a1.kp (fZ.aJ gY)).to zq.1) ((b2.kp gY).to zr.2) (by omega) (by omega)).mono ?_)
 rintro e w3 ⟨r3,rfl,q3,cD⟩
 obtain ⟨s3,p3,n3,c3,rfl⟩:=q3.form
 refine ⟨_,rfl,cD,fun kt _ bb3=>wV rfl ?_⟩
 (repeat first|refine wN ?_|refine wP rfl ?_|refine aa rfl ?_|refine ab rfl ?_|refine wO rfl rfl ?_)
 refine VO.call rfl rfl (fk Tryz.func42) (fun nj qa qF=>(kf _ _ r.num q.den _ _ nj ((b1.kp (kt.aJ qa)).to zr.1) ((a2.kp (fZ.aJ (kt.aJ qa))).to zq.2) (by omega) (by omega)).mono ?_)
 rintro e w4 ⟨r4,rfl,q4,gU⟩
 obtain ⟨s4,p4,n4,c4,rfl⟩:=q4.form
 refine ⟨_,rfl,gU,fun pd _ AZ=>wV rfl ?_⟩
 (repeat first|refine wN ?_|refine wP rfl ?_|refine aa rfl ?_|refine ab rfl ?_|refine wO rfl rfl ?_)
 refine VO.call rfl rfl (fk Tryz.func41) (fun kg mG ku=>(wY _ _ (q.num * r.den) (r.num * q.den) _ _ kg ((q3.kp (pd.aJ mG)).in (zq.1.mul zr.2)) ((q4.kp mG).in (zr.1.mul zq.2)) (by omega) (by omega)).mono ?_)
 rintro e w5 ⟨rfl,gi⟩
 rw [CT]
 refine ⟨_,rfl,gi,fun nk _ xf=>wV rfl ?_⟩
 (repeat first|refine wN ?_|refine wP rfl ?_|refine aa rfl ?_|refine ab rfl ?_|refine wO rfl rfl ?_)
 refine VS.ret (aL _ _) rfl rfl (fun wz kz bz=> ?_)
 exact ⟨rfl,bz⟩
end Go.Proofs.YtabalinjfgcfeaaGreat
namespace Go.Proofs.YtabalinjfgcfeaaGreat
open Go.RowKit
attribute [local irreducible] aB VS
def ju (w:World) (v:Value) (qs:List Rat) (k:Nat):Prop:=
 ∃ p c,v=.slice p qs.length c∧qs.length≤c∧c≤maxLen∧∀ i q,qs[i]? =some q→∃ b off s p' n c' t r m d,p=some ⟨b,off,none⟩∧
   (∀ j u,[Value.bool s,.slice p' n c',.bool t,.slice r m d][j]? =some u→w.cell? ⟨b,off + i * 4 + j,none⟩=some u)∧bK w (.agg #[.bool s,.slice p' n c',.bool t,.slice r m d]) q k
theorem ju.form {w:World} {v:Value} {qs:List Rat} {k:Nat} (h:ju w v qs k):∃ p c,v=.slice p qs.length c∧qs.length≤c∧c≤maxLen:=by
 obtain ⟨p,c,hv,h1,h2,_⟩:=h
 exact ⟨p,c,hv,h1,h2⟩
theorem ju.at {w:World} {p:Option Addr} {n c:Nat} {qs:List Rat} {k i:Nat} {q:Rat} (h:ju w (.slice p n c) qs k) (hq:qs[i]? =some q):∃ b off s p' n' c' t r m d,p=some ⟨b,off,none⟩∧
  (∀ j u,[Value.bool s,.slice p' n' c',.bool t,.slice r m d][j]? =some u→w.cell? ⟨b,off + i * 4 + j,none⟩=some u)∧bK w (.agg #[.bool s,.slice p' n' c',.bool t,.slice r m d]) q k:=by
 obtain ⟨p',c',hv,h1,h2,h3⟩:=h
 cases hv
 exact h3 i q hq
theorem ju.bj {w w':World} {v:Value} {qs:List Rat} {k:Nat} (h:ju w v qs k) (hb:aj w w'):ju w' v qs k:=by
 obtain ⟨p,c,hv,h1,h2,h3⟩:=h
 refine ⟨p,c,hv,h1,h2,fun i q hq=> ?_⟩
 obtain ⟨b,off,s,p',n,c',t,r,m,d,hp,hc,hr⟩:=h3 i q hq
 exact ⟨b,off,s,p',n,c',t,r,m,d,hp,fun j u hj=>hb.cell (hc j u hj),hr.kp (Kp.of (U:=UU) hb)⟩
theorem bX {i:Nat} (h:i < 9223372036854775807):IntKind.i64.wrap ((i:Int) + 1)=((i + 1:Nat):Int):=by
 rw [IntWalk.i64_in _ (by omega)];omega
def gW (qs:List Rat):Rat:=qs.foldl (·+ ·) 0
theorem fY {α:Type} {l:List α} {i:Nat} {x:α} (h:l[i]? =some x):l.take (i + 1)=l.take i++[x]:=by
 obtain ⟨hi,rfl⟩:=List.getElem?_eq_some_iff.1 h
 exact List.take_succ_eq_append_getElem hi
theorem tB {qs:List Rat} {i:Nat} {q:Rat} (h:qs[i]? =some q):gW (qs.take (i + 1))=gW (qs.take i) + q:=by
 rw [fY h];simp [gW,List.foldl_append]
def cX (k i:Nat):Nat:=1 + i * (jQ k + 1)
theorem uy (k i:Nat):cX k (i + 1)=cX k i + jQ k + 1:=by unfold cX;rw [Nat.add_mul,Nat.one_mul];omega
theorem pj {k i n:Nat} (h:i≤n):cX k i≤cX k n:=by unfold cX;have:=Nat.mul_le_mul_right (jQ k + 1) h;omega
set_option maxHeartbeats 400000 in
theorem qK (v:Value) (qs:List Rat) (k:Nat) (w:World) (hv:ju w v qs k) (hk:cX k qs.length≤67108864):
  Calls Tryz.prog 14 #[v] w fun e w'=>∃ x,e=.returned x∧aK w' w.heap.size x (gW qs)∧dV (gW qs) (cX k qs.length)∧aj w w':=by
 obtain ⟨p,c,rfl,eT,eV⟩:=hv.form
 obtain ⟨N,hN⟩:∃ N,N=qs.length:=⟨_,rfl⟩
 rw [←hN] at hv hk eT ⊢
 have hNm:N < 9223372036854775807:=by unfold cX at hk;have:=Nat.le_mul_of_pos_right N (show 0 < jQ k + 1 by omega);omega
 have huk:jQ k≤67108864∨N=0:=by
  rcases Nat.eq_zero_or_pos N with e | e
  ·exact .inr e
  ·left;unfold cX at hk;have:=Nat.le_mul_of_pos_left (jQ k + 1) e;omega
 refine aw (C:=cj Tryz.prog w _) (args:=[_]) Tryz.func14 rfl Tryz.ntmps14 (Nat.le_of_ble_eq_true rfl) ?_
 (repeat first|refine wN ?_|refine wP rfl ?_|refine aa rfl ?_|refine ab rfl ?_|refine wO rfl rfl ?_)
 refine VO.call rfl rfl (fk Tryz.func44) (fun cC er dv=>(bF 0 cC (by omega) (by omega)).mono ?_)
 rintro e w1 ⟨r1,rfl,q1,aV⟩
 obtain ⟨s1,p1,n1,c1,t1,y1,m1,d1,rfl⟩:=q1.form
 refine ⟨_,rfl,aV,fun fe _ bb1=>wV rfl ?_⟩
 (repeat first|refine wN ?_|refine wP rfl ?_|refine aa rfl ?_|refine ab rfl ?_|refine wO rfl rfl ?_)
 refine VS.loop (J:=fun n L M w'=>∃ i s p' n' c' t r m d,i≤N∧n=N - i∧L=[(7,.val (.slice p N c)),(8,.val (.int .i64 (N:Int))),(9,.val (.int .i64 (i:Int))),(3,.box 3 0),(2,.box 2 0)]∧
  M=[(2,(26,([.bool false,.slice none 0 0,.bool false,.slice none 0 0]:List Value).map .val)),(3,(26,([.bool s,.slice p' n' c',.bool t,.slice r m d]:List Value).map .val))]∧aK w' w.heap.size (.agg #[.bool s,.slice p' n' c',.bool t,.slice r m d]) (gW (qs.take i))∧dV (gW (qs.take i)) (cX k i)) N ⟨_,_,?_,?_,?_,?_,⟨0,s1,p1,n1,c1,t1,y1,m1,d1,by omega,by omega,rfl,rfl,(q1.mono dv.size).cast (by simp [gW]),by simp only [List.take_zero,gW,List.foldl_nil,cX,Nat.zero_mul,Nat.add_zero];exact dV.zero⟩⟩ ?_
 ·(repeat first|exact trivial|refine ⟨rfl,?_⟩)
 ·(repeat first|exact trivial|refine ⟨rfl,?_⟩)
 ·rfl
 ·(repeat first|exact trivial|refine ⟨aF.lit rfl,?_⟩|refine ⟨aF.vals _,?_⟩)
 rintro n L M w' ⟨i,s,p',n',c',t,r,m,d,hi,rfl,rfl,rfl,ho,hz⟩
 (repeat first|refine wN ?_|refine wP rfl ?_|refine aa rfl ?_|refine ab rfl ?_|refine wO rfl rfl ?_)
 by_cases hlt:i < N
 ·obtain ⟨q,hq⟩:∃ q,qs[i]? =some q:=⟨_,List.getElem?_eq_getElem (by omega)⟩
  obtain ⟨b,off,s2,p2,n2,c2,t2,r2,m2,d2,rfl,hc,tU⟩:=hv.at hq
  refine VS.bE rfl (decide_eq_true (Int.ofNat_lt.2 hlt)) ?_
  (repeat first|refine wN ?_|refine wP rfl ?_|refine aa rfl ?_|refine ab rfl ?_|refine wO rfl rfl ?_)
  refine VO.cond rfl ⟨by omega,by omega⟩ (wV rfl ?_)
  refine VO.read rfl [.bool s2,.slice p2 n2 c2,.bool t2,.slice r2 m2 d2] rfl (fun j u hj=>by rw [Addr.add_mid,Int.toNat_natCast];exact hc j u hj) (wV rfl ?_)
  (repeat first|refine wN ?_|refine wP rfl ?_|refine aa rfl ?_|refine ab rfl ?_|refine wO rfl rfl ?_)
  refine VO.call rfl rfl (fk Tryz.func40) (fun dC gu eu=>(cG _ q k dC ((tU.kp (Kp.of (U:=UU) eu))) (by have:=hk;unfold jQ at *;omega)).mono ?_)
  rintro e w2 ⟨r2',rfl,q2,bm⟩
  obtain ⟨s3,p3,n3,c3,t3,y3,m3,d3,rfl⟩:=q2.form
  refine ⟨_,rfl,bm,fun fZ _ bb2=>wV rfl ?_⟩
  (repeat first|refine wN ?_|refine wP rfl ?_|refine aa rfl ?_|refine ab rfl ?_|refine wO rfl rfl ?_)
  refine VO.call rfl rfl (fk Tryz.func45) (fun gv gY gV=>(ma _ _ (gW (qs.take i)) q (cX k i) (jQ k) gv ((ho.kp (fZ.aJ gY)).rd) (q2.kp gY) hz tU.Ak (by have:=pj (k:=k) hi;omega) (by omega)).mono ?_)
  rintro e w3 ⟨r3',rfl,q3,cD⟩
  obtain ⟨s4,p4,n4,c4,t4,y4,m4,d4,rfl⟩:=q3.form
  refine ⟨_,rfl,cD,fun kt _ bb3=>wV rfl ?_⟩
  (repeat first|refine wN ?_|refine wP rfl ?_|refine aa rfl ?_|refine ab rfl ?_|refine wO rfl rfl ?_)
  refine VS.back (N - (i + 1)) (by omega) ⟨_,_,?_,?_,?_,?_,⟨i + 1,s4,p4,n4,c4,t4,y4,m4,d4,by omega,rfl,rfl,rfl,(q3.mono gV.size).cast (tB hq).symm,by rw [tB hq,uy];exact hz.add tU.Ak⟩⟩
  ·refine ⟨rfl,rfl,?_,rfl,rfl,trivial⟩
   rw [←bX (by omega)];rfl
  ·(repeat first|exact trivial|refine ⟨rfl,?_⟩)
  ·rfl
  ·(repeat first|exact trivial|refine ⟨aF.lit rfl,?_⟩|refine ⟨aF.vals _,?_⟩)
 ·refine VS.bu rfl (decide_eq_false (fun e=>hlt (Int.ofNat_lt.1 e))) ?_
  (repeat first|refine wN ?_|refine wP rfl ?_|refine aa rfl ?_|refine ab rfl ?_|refine wO rfl rfl ?_)
  refine VS.ret (aL _ _) rfl rfl (fun wz kz bz=> ?_)
  obtain rfl:i=N:=by omega
  rw [List.take_of_length_le (by omega)] at ho hz
  exact ⟨_,rfl,ho.kp kz,hz,bz⟩
def uz (y x:Rat):Bool:=decide (dK y x < 0)
def jz (y x:Rat):Bool:=decide (dK y x > 0)
theorem CW (v u:Value) (x y:Rat) (k l:Nat) (w:World) (hv:bK w v x k) (hu:bK w u y l) (hk:k≤67108864) (hl:l≤67108864):
  Calls Tryz.prog 108 #[v,u] w fun e w'=>e=.returned (.bool (uz y x))∧aj w w':=by
 obtain ⟨s,p,n,c,t,z,m,d,rfl⟩:=hv.form
 obtain ⟨s',p',n',c',t',z',m',d',rfl⟩:=hu.form
 refine aw (C:=cj Tryz.prog w _) (args:=[_,_]) Tryz.func108 rfl Tryz.ntmps108 (Nat.le_of_ble_eq_true rfl) ?_
 (repeat first|refine wN ?_|refine wP rfl ?_|refine aa rfl ?_|refine ab rfl ?_|refine wO rfl rfl ?_)
 refine VO.call rfl rfl (fk Tryz.func12) (fun cC er dv=>(qJ _ _ y x l k cC (hu.kp er) (hv.kp er) hl hk).mono ?_)
 rintro e w1 ⟨rfl,aV⟩
 skip
 refine ⟨_,rfl,aV,fun fe _ bb1=>wV rfl ?_⟩
 (repeat first|refine wN ?_|refine wP rfl ?_|refine aa rfl ?_|refine ab rfl ?_|refine wO rfl rfl ?_)
 refine VS.ret (aL _ _) rfl rfl (fun wz kz bz=> ?_)
 exact ⟨rfl,bz⟩
theorem CX (v u:Value) (x y:Rat) (k l:Nat) (w:World) (hv:bK w v x k) (hu:bK w u y l) (hk:k≤67108864) (hl:l≤67108864):
  Calls Tryz.prog 128 #[v,u] w fun e w'=>e=.returned (.bool (jz y x))∧aj w w':=by
 obtain ⟨s,p,n,c,t,z,m,d,rfl⟩:=hv.form
 obtain ⟨s',p',n',c',t',z',m',d',rfl⟩:=hu.form
 refine aw (C:=cj Tryz.prog w _) (args:=[_,_]) Tryz.func128 rfl Tryz.ntmps128 (Nat.le_of_ble_eq_true rfl) ?_
 (repeat first|refine wN ?_|refine wP rfl ?_|refine aa rfl ?_|refine ab rfl ?_|refine wO rfl rfl ?_)
 refine VO.call rfl rfl (fk Tryz.func12) (fun cC er dv=>(qJ _ _ y x l k cC (hu.kp er) (hv.kp er) hl hk).mono ?_)
 rintro e w1 ⟨rfl,aV⟩
 skip
 refine ⟨_,rfl,aV,fun fe _ bb1=>wV rfl ?_⟩
 (repeat first|refine wN ?_|refine wP rfl ?_|refine aa rfl ?_|refine ab rfl ?_|refine wO rfl rfl ?_)
 refine VS.ret (aL _ _) rfl rfl (fun wz kz bz=> ?_)
 exact ⟨rfl,bz⟩
theorem CY (s:Bool) (p:Option Addr) (n c:Nat) (t:Bool) (r:Option Addr) (m d:Nat) (w:World):
  Calls Tryz.prog 107 #[.agg #[.bool s,.slice p n c,.bool t,.slice r m d]] w fun e w'=>e=.returned (.func (.func 108) #[.agg #[.bool s,.slice p n c,.bool t,.slice r m d]] #[])∧aj w w':=by
 refine aw (C:=cj Tryz.prog w _) (args:=[_]) Tryz.func107 rfl Tryz.ntmps107 (Nat.le_of_ble_eq_true rfl) ?_
 (repeat first|refine wN ?_|refine wP rfl ?_|refine aa rfl ?_|refine ab rfl ?_|refine wO rfl rfl ?_)
 refine VS.ret (aL _ _) rfl rfl (fun wz kz bz=> ?_)
 exact ⟨rfl,bz⟩
theorem CZ (s:Bool) (p:Option Addr) (n c:Nat) (t:Bool) (r:Option Addr) (m d:Nat) (w:World):
  Calls Tryz.prog 127 #[.agg #[.bool s,.slice p n c,.bool t,.slice r m d]] w fun e w'=>e=.returned (.func (.func 128) #[.agg #[.bool s,.slice p n c,.bool t,.slice r m d]] #[])∧aj w w':=by
 refine aw (C:=cj Tryz.prog w _) (args:=[_]) Tryz.func127 rfl Tryz.ntmps127 (Nat.le_of_ble_eq_true rfl) ?_
 (repeat first|refine wN ?_|refine wP rfl ?_|refine aa rfl ?_|refine ab rfl ?_|refine wO rfl rfl ?_)
 refine VS.ret (aL _ _) rfl rfl (fun wz kz bz=> ?_)
 exact ⟨rfl,bz⟩
def jA (better:Rat→Rat→Bool) (q:Rat) (qs:List Rat):Rat:=qs.foldl (fun o y=>if better y o=true then y else o) q
theorem Fq {better:Rat→Rat→Bool} {x:Rat} {qs:List Rat} {i:Nat} {q:Rat} (h:qs[i]? =some q):jA better x (qs.take (i + 1))=if better q (jA better x (qs.take i))=true then q else jA better x (qs.take i):=by
 rw [fY h];unfold jA;rw [List.foldl_append];rfl
set_option maxHeartbeats 1000000 in
theorem uA (fB fL:FuncId) (better:Rat→Rat→Bool) (kB:od Tryz.prog fB) (kL:od Tryz.prog fL)
  (hB:∀ (s:Bool) (p:Option Addr) (n c:Nat) (t:Bool) (r:Option Addr) (m d:Nat) (w:World),Calls Tryz.prog fB #[.agg #[.bool s,.slice p n c,.bool t,.slice r m d]] w fun e w'=>e=.returned (.func (.func fL) #[.agg #[.bool s,.slice p n c,.bool t,.slice r m d]] #[])∧aj w w')
  (hL:∀ (v u:Value) (x y:Rat) (k l:Nat) (w:World),bK w v x k→bK w u y l→k≤67108864→l≤67108864→Calls Tryz.prog fL #[v,u] w fun e w'=>e=.returned (.bool (better y x))∧aj w w')
  (u v:Value) (q0:Rat) (qs:List Rat) (k:Nat) (w:World) (hu:bK w u q0 k) (hv:ju w v qs k) (hk:k≤67108863) (hlen:qs.length < 9223372036854775807):
  Calls Tryz.prog 106 #[u,v,.func (.func fB) #[] #[]] w fun e w'=>∃ x,e=.returned x∧aK w' w.heap.size x (jA better q0 qs)∧dV (jA better q0 qs) (jQ k)∧aj w w':=by
 obtain ⟨s,p,n,c,t,y,m,d,rfl⟩:=hu.form
 obtain ⟨P,cc,rfl,eT,eV⟩:=hv.form
 obtain ⟨N,hN⟩:∃ N,N=qs.length:=⟨_,rfl⟩
 rw [←hN] at hv hlen eT ⊢
 have zk:jQ k≤67108864:=by unfold jQ;omega
 refine aw (C:=cj Tryz.prog w _) (args:=[_,_,_]) Tryz.func106 rfl Tryz.ntmps106 (Nat.le_of_ble_eq_true rfl) ?_
 (repeat first|refine wN ?_|refine wP rfl ?_|refine aa rfl ?_|refine ab rfl ?_|refine wO rfl rfl ?_)
 refine VO.call rfl rfl (fk Tryz.func40) (fun cC er dv=>(cG _ q0 k cC (hu.kp er) (by omega)).mono ?_)
 rintro e w1 ⟨r1,rfl,q1,aV⟩
 obtain ⟨s1,p1,n1,c1,t1,y1,m1,d1,rfl⟩:=q1.form
 refine ⟨_,rfl,aV,fun fe _ bb1=>wV rfl ?_⟩
 (repeat first|refine wN ?_|refine wP rfl ?_|refine aa rfl ?_|refine ab rfl ?_|refine wO rfl rfl ?_)
 refine VO.call rfl rfl (fk Tryz.func44) (fun dC gu eu=>(bF 0 dC (by omega) (by omega)).mono ?_)
 rintro e w2 ⟨r2,rfl,q2,bm⟩
 obtain ⟨s2,p2,n2,c2,t2,y2,m2,d2,rfl⟩:=q2.form
 refine ⟨_,rfl,bm,fun fZ _ bb2=>wV rfl ?_⟩
 (repeat first|refine wN ?_|refine wP rfl ?_|refine aa rfl ?_|refine ab rfl ?_|refine wO rfl rfl ?_)
 refine VO.call rfl rfl (fk Tryz.func45) (fun gv gY gV=>(ma _ _ q0 ((0:Int):Rat) (jQ k) 1 gv (q1.kp (fZ.aJ gY)) (q2.kp gY).rd hu.Ak dV.zero zk (by omega)).mono ?_)
 rintro e w3 ⟨r3,rfl,q3,cD⟩
 obtain ⟨s3,p3,n3,c3,t3,y3,m3,d3,rfl⟩:=q3.form
 refine ⟨_,rfl,cD,fun kt _ bb3=>wV rfl ?_⟩
 (repeat first|refine wN ?_|refine wP rfl ?_|refine aa rfl ?_|refine ab rfl ?_|refine wO rfl rfl ?_)
 refine VS.loop (J:=fun n' L M w'=>∃ i s p' n c' t r m d,i≤N∧n'=N - i∧L=[(14,.val (.slice P N cc)),(15,.val (.int .i64 (N:Int))),(16,.val (.int .i64 (i:Int))),(2,.val (.func (.func fB) #[] #[])),(7,.box 7 0),(6,.box 6 0)]∧
  M=[(6,(26,([.bool false,.slice none 0 0,.bool false,.slice none 0 0]:List Value).map .val)),(7,(26,([.bool s,.slice p' n c',.bool t,.slice r m d]:List Value).map .val))]∧aK w' w.heap.size (.agg #[.bool s,.slice p' n c',.bool t,.slice r m d]) (jA better q0 (qs.take i))∧dV (jA better q0 (qs.take i)) (jQ k)) N ⟨_,_,?_,?_,?_,?_,⟨0,s3,p3,n3,c3,t3,y3,m3,d3,by omega,by omega,rfl,rfl,(q3.mono gV.size).cast (Rat.add_zero _),hu.Ak⟩⟩ ?_
 ·(repeat first|exact trivial|refine ⟨rfl,?_⟩)
 ·(repeat first|exact trivial|refine ⟨rfl,?_⟩)
 ·rfl
 ·(repeat first|exact trivial|refine ⟨aF.lit rfl,?_⟩|refine ⟨aF.vals _,?_⟩)
 rintro n' L M w' ⟨i,s,p',n,c',t,r,m,d,hi,rfl,rfl,rfl,ho,hz⟩
 (repeat first|refine wN ?_|refine wP rfl ?_|refine aa rfl ?_|refine ab rfl ?_|refine wO rfl rfl ?_)
 by_cases hlt:i < N
 ·obtain ⟨q,hq⟩:∃ q,qs[i]? =some q:=⟨_,List.getElem?_eq_getElem (by omega)⟩
  obtain ⟨b,off,s2,p2,n2,c2,t2,r2,m2,d2,rfl,hc,tU⟩:=hv.at hq
  refine VS.bE rfl (decide_eq_true (Int.ofNat_lt.2 hlt)) ?_
  (repeat first|refine wN ?_|refine wP rfl ?_|refine aa rfl ?_|refine ab rfl ?_|refine wO rfl rfl ?_)
  refine VO.cond rfl ⟨by omega,by omega⟩ (wV rfl ?_)
  refine VO.read rfl [.bool s2,.slice p2 n2 c2,.bool t2,.slice r2 m2 d2] rfl (fun j u hj=>by rw [Addr.add_mid,Int.toNat_natCast];exact hc j u hj) (wV rfl ?_)
  (repeat first|refine wN ?_|refine wP rfl ?_|refine aa rfl ?_|refine ab rfl ?_|refine wO rfl rfl ?_)
  refine VO.call rfl rfl kB (fun nj qa qF=>(hB s p' n c' t r m d nj).mono ?_)
  rintro e w4 ⟨rfl,gU⟩
  refine ⟨_,rfl,gU,fun pd _ AZ=>wV rfl ?_⟩
  (repeat first|refine wN ?_|refine wP rfl ?_|refine aa rfl ?_|refine ab rfl ?_|refine wO rfl rfl ?_)
  refine VO.call rfl rfl kL (fun kg mG ku=>(hL _ _ (jA better q0 (qs.take i)) q _ k kg ((ho.kp (pd.aJ mG)).in hz) (tU.kp (Kp.of (U:=UU) ku)) zk (by omega)).mono ?_)
  rintro e w5 ⟨rfl,gi⟩
  refine ⟨_,rfl,gi,fun nk _ xf=>wV rfl ?_⟩
  (repeat first|refine wN ?_|refine wP rfl ?_|refine aa rfl ?_|refine ab rfl ?_|refine wO rfl rfl ?_)
  have Al:=Fq (better:=better) (x:=q0) hq
  cases hbt:better q (jA better q0 (qs.take i))
  ·rw [hbt] at Al
   refine VS.bu rfl rfl ?_
   (repeat first|refine wN ?_|refine wP rfl ?_|refine aa rfl ?_|refine ab rfl ?_|refine wO rfl rfl ?_)
   refine VS.back (N - (i + 1)) (by omega) ⟨_,_,?_,?_,?_,?_,⟨i + 1,s,p',n,c',t,r,m,d,by omega,rfl,rfl,rfl,(ho.kp (pd.aJ nk)).cast Al.symm,by rw [Al];exact hz⟩⟩
   ·refine ⟨rfl,rfl,?_,rfl,rfl,rfl,trivial⟩
    rw [←bX (by omega)];rfl
   ·(repeat first|exact trivial|refine ⟨rfl,?_⟩)
   ·rfl
   ·(repeat first|exact trivial|refine ⟨aF.lit rfl,?_⟩|refine ⟨aF.vals _,?_⟩)
  ·rw [hbt] at Al
   refine VS.bE rfl rfl ?_
   (repeat first|refine wN ?_|refine wP rfl ?_|refine aa rfl ?_|refine ab rfl ?_|refine wO rfl rfl ?_)
   refine VO.call rfl rfl (fk Tryz.func40) (fun pK ux tw=>(cG _ q k pK (tU.kp (Kp.of (U:=UU) tw)) (by omega)).mono ?_)
   rintro e w6 ⟨r6,rfl,q6,mX⟩
   obtain ⟨s6,p6,n6,c6,t6,y6,m6,d6,rfl⟩:=q6.form
   refine ⟨_,rfl,mX,fun tx _ CR=>wV rfl ?_⟩
   (repeat first|refine wN ?_|refine wP rfl ?_|refine aa rfl ?_|refine ab rfl ?_|refine wO rfl rfl ?_)
   refine VO.call rfl rfl (fk Tryz.func44) (fun yn DX xX=>(bF 0 yn (by omega) (by omega)).mono ?_)
   rintro e w7 ⟨r7,rfl,q7,uO⟩
   obtain ⟨s7,p7,n7,c7,t7,y7,m7,d7,rfl⟩:=q7.form
   refine ⟨_,rfl,uO,fun zj _ bb7=>wV rfl ?_⟩
   (repeat first|refine wN ?_|refine wP rfl ?_|refine aa rfl ?_|refine ab rfl ?_|refine wO rfl rfl ?_)
   refine VO.call rfl rfl (fk Tryz.func45) (fun uQ Fg zl=>(ma _ _ q ((0:Int):Rat) (jQ k) 1 uQ (q6.kp (zj.aJ Fg)) (q7.kp Fg).rd tU.Ak dV.zero zk (by omega)).mono ?_)
   rintro e w8 ⟨r8,rfl,q8,qU⟩
   obtain ⟨s8,p8,n8,c8,t8,y8,m8,d8,rfl⟩:=q8.form
   refine ⟨_,rfl,qU,fun vH _ JL=>wV rfl ?_⟩
   (repeat first|refine wN ?_|refine wP rfl ?_|refine aa rfl ?_|refine ab rfl ?_|refine wO rfl rfl ?_)
   refine VS.back (N - (i + 1)) (by omega) ⟨_,_,?_,?_,?_,?_,⟨i + 1,s8,p8,n8,c8,t8,y8,m8,d8,by omega,rfl,rfl,rfl,(q8.mono zl.size).cast ((Rat.add_zero _).trans Al.symm),by rw [Al];exact tU.Ak⟩⟩
   ·refine ⟨rfl,rfl,?_,rfl,rfl,rfl,trivial⟩
    rw [←bX (by omega)];rfl
   ·(repeat first|exact trivial|refine ⟨rfl,?_⟩)
   ·rfl
   ·(repeat first|exact trivial|refine ⟨aF.lit rfl,?_⟩|refine ⟨aF.vals _,?_⟩)
 ·refine VS.bu rfl (decide_eq_false (fun e=>hlt (Int.ofNat_lt.1 e))) ?_
  (repeat first|refine wN ?_|refine wP rfl ?_|refine aa rfl ?_|refine ab rfl ?_|refine wO rfl rfl ?_)
  refine VS.ret (aL _ _) rfl rfl (fun wz kz bz=> ?_)
  obtain rfl:i=N:=by omega
  rw [List.take_of_length_le (by omega)] at ho hz
  exact ⟨_,rfl,ho.kp kz,hz,bz⟩
theorem fJ (u v:Value) (q0:Rat) (qs:List Rat) (k:Nat) (w:World) (hu:bK w u q0 k) (hv:ju w v qs k) (hk:k≤67108863) (hlen:qs.length < 9223372036854775807):
  Calls Tryz.prog 71 #[u,v] w fun e w'=>∃ x,e=.returned x∧aK w' w.heap.size x (jA uz q0 qs)∧dV (jA uz q0 qs) (jQ k)∧aj w w':=by
 obtain ⟨s,p,n,c,t,y,m,d,rfl⟩:=hu.form
 obtain ⟨P,cc,rfl,eT,eV⟩:=hv.form
 refine aw (C:=cj Tryz.prog w _) (args:=[_,_]) Tryz.func71 rfl Tryz.ntmps71 (Nat.le_of_ble_eq_true rfl) ?_
 (repeat first|refine wN ?_|refine wP rfl ?_|refine aa rfl ?_|refine ab rfl ?_|refine wO rfl rfl ?_)
 refine VO.call rfl rfl (fk Tryz.func106) (fun cC er dv=>(uA 107 108 uz (fk Tryz.func107) (fk Tryz.func108) CY CW _ _ q0 qs k cC (hu.kp er) (hv.bj dv) hk hlen).mono ?_)
 rintro e w1 ⟨r1,rfl,q1,z1,aV⟩
 obtain ⟨s1,p1,n1,c1,t1,y1,m1,d1,rfl⟩:=q1.form
 refine ⟨_,rfl,aV,fun fe _ bb1=>wV rfl ?_⟩
 (repeat first|refine wN ?_|refine wP rfl ?_|refine aa rfl ?_|refine ab rfl ?_|refine wO rfl rfl ?_)
 refine VS.ret (aL _ _) rfl rfl (fun wz kz bz=> ?_)
 exact ⟨_,rfl,(q1.kp kz).mono dv.size,z1,bz⟩
theorem Fs (u v:Value) (q0:Rat) (qs:List Rat) (k:Nat) (w:World) (hu:bK w u q0 k) (hv:ju w v qs k) (hk:k≤67108863) (hlen:qs.length < 9223372036854775807):
  Calls Tryz.prog 104 #[u,v] w fun e w'=>∃ x,e=.returned x∧aK w' w.heap.size x (jA jz q0 qs)∧dV (jA jz q0 qs) (jQ k)∧aj w w':=by
 obtain ⟨s,p,n,c,t,y,m,d,rfl⟩:=hu.form
 obtain ⟨P,cc,rfl,eT,eV⟩:=hv.form
 refine aw (C:=cj Tryz.prog w _) (args:=[_,_]) Tryz.func104 rfl Tryz.ntmps104 (Nat.le_of_ble_eq_true rfl) ?_
 (repeat first|refine wN ?_|refine wP rfl ?_|refine aa rfl ?_|refine ab rfl ?_|refine wO rfl rfl ?_)
 refine VO.call rfl rfl (fk Tryz.func106) (fun cC er dv=>(uA 127 128 jz (fk Tryz.func127) (fk Tryz.func128) CZ CX _ _ q0 qs k cC (hu.kp er) (hv.bj dv) hk hlen).mono ?_)
 rintro e w1 ⟨r1,rfl,q1,z1,aV⟩
 obtain ⟨s1,p1,n1,c1,t1,y1,m1,d1,rfl⟩:=q1.form
 refine ⟨_,rfl,aV,fun fe _ bb1=>wV rfl ?_⟩
 (repeat first|refine wN ?_|refine wP rfl ?_|refine aa rfl ?_|refine ab rfl ?_|refine wO rfl rfl ?_)
 refine VS.ret (aL _ _) rfl rfl (fun wz kz bz=> ?_)
 exact ⟨_,rfl,(q1.kp kz).mono dv.size,z1,bz⟩
end Go.Proofs.YtabalinjfgcfeaaGreat
set_option maxRecDepth 4000
namespace Go.Proofs.YtabalinjfgcfeaaGreat
open Go.RowKit
attribute [local irreducible] aB VS
theorem Da (w:World):Calls Tryz.prog 25 #[] w fun e w'=>∃ r,e=.returned r∧aK w' w.heap.size r 0∧aj w w':=by
 refine aw (C:=cj Tryz.prog w _) (args:=[]) Tryz.func25 rfl Tryz.ntmps25 (Nat.le_of_ble_eq_true rfl) ?_
 (repeat first|refine wN ?_|refine wP rfl ?_|refine aa rfl ?_|refine ab rfl ?_|refine wO rfl rfl ?_)
 refine VO.call rfl rfl (fk Tryz.func59) (fun cC er dv=>(pe 0 cC (by omega) (by omega)).mono ?_)
 rintro e w1 ⟨r1,rfl,q1,aV⟩
 obtain ⟨s1,p1,n1,c1,rfl⟩:=q1.form
 refine ⟨_,rfl,aV,fun fe _ bb1=>wV rfl ?_⟩
 (repeat first|refine wN ?_|refine wP rfl ?_|refine aa rfl ?_|refine ab rfl ?_|refine wO rfl rfl ?_)
 refine VO.call rfl rfl (fk Tryz.func59) (fun dC gu eu=>(pe 1 dC (by omega) (by omega)).mono ?_)
 rintro e w2 ⟨r2,rfl,q2,bm⟩
 obtain ⟨s2,p2,n2,c2,rfl⟩:=q2.form
 refine ⟨_,rfl,bm,fun fZ _ bb2=>wV rfl ?_⟩
 (repeat first|refine wN ?_|refine wP rfl ?_|refine aa rfl ?_|refine ab rfl ?_|refine wO rfl rfl ?_)
 refine VS.ret (aL _ _) rfl rfl (fun wz kz bz=> ?_)
 exact ⟨_,rfl,⟨_,_,_,_,_,_,_,_,rfl,(q1.kp (fZ.aJ kz)).mono dv.size,(q2.kp kz).mono eu.size⟩,bz⟩
theorem LQ {X Y:Int}:Rat.divInt X Y=Rat.divInt (-X) (-Y):=(Rat.neg_divInt_neg X Y).symm
set_option maxHeartbeats 1000000 in
theorem Ft (v u:Value) (X Y:Int) (j k:Nat) (w:World) (hv:bP w v X j) (hu:bP w u Y k) (hj:j≤134217728) (hk:k≤134217728):
  Calls Tryz.prog 61 #[v,u] w fun e w'=>∃ r,e=.returned (.tuple #[r,.int .i64 (CU Y)])∧aK w' w.heap.size r (Rat.divInt X Y)∧aj w w':=by
 obtain ⟨s,p,n,c,rfl⟩:=hv.form
 obtain ⟨t,r,m,d,rfl⟩:=hu.form
 refine aw (C:=cj Tryz.prog w _) (args:=[_,_]) Tryz.func61 rfl Tryz.ntmps61 (Nat.le_of_ble_eq_true rfl) ?_
 (repeat first|refine wN ?_|refine wP rfl ?_|refine aa rfl ?_|refine ab rfl ?_|refine wO rfl rfl ?_)
 refine VO.call rfl rfl (fk Tryz.func89) (fun cC er dv=>(cT _ Y k cC (hu.bj dv) (by omega)).mono ?_)
 rintro e w1 ⟨rfl,aV⟩
 by_cases hY:Y=0
 ·rw [show Y.sign=0 by rw [hY];rfl]
  refine ⟨_,rfl,aV,fun fe _ bb1=>wV rfl ?_⟩
  (repeat first|refine wN ?_|refine wP rfl ?_|refine aa rfl ?_|refine ab rfl ?_|refine wO rfl rfl ?_)
  refine VO.call rfl rfl (fk Tryz.func25) (fun dC gu eu=>(Da dC).mono ?_)
  rintro e w2 ⟨r2,rfl,h2,bm⟩
  obtain ⟨s2,p2,n2,c2,t2,y2,m2,d2,rfl⟩:=h2.form
  refine ⟨_,rfl,bm,fun fZ _ bb2=>wV rfl ?_⟩
  (repeat first|refine wN ?_|refine wP rfl ?_|refine aa rfl ?_|refine ab rfl ?_|refine wO rfl rfl ?_)
  refine VS.ret (aL _ _) rfl rfl (fun wz kz bz=> ?_)
  refine ⟨_,by rw [CU,if_pos hY];rfl,?_,bz⟩
  rw [hY,Rat.divInt_zero]
  exact (h2.kp kz).mono eu.size
 ·rcases Int.lt_or_lt_of_ne hY with q | q
  ·rw [sign_neg q]
   refine ⟨_,rfl,aV,fun fe _ bb1=>wV rfl ?_⟩
   (repeat first|refine wN ?_|refine wP rfl ?_|refine aa rfl ?_|refine ab rfl ?_|refine wO rfl rfl ?_)
   refine VO.call rfl rfl (fk Tryz.func89) (fun dC gu eu=>(cT _ Y k dC (hu.bj eu) (by omega)).mono ?_)
   rintro e w2 ⟨rfl,bm⟩
   rw [sign_neg q]
   refine ⟨_,rfl,bm,fun fZ _ bb2=>wV rfl ?_⟩
   (repeat first|refine wN ?_|refine wP rfl ?_|refine aa rfl ?_|refine ab rfl ?_|refine wO rfl rfl ?_)
   refine VO.call rfl rfl (fk Tryz.func93) (fun gv gY gV=>(xd _ X j gv (hv.bj gV) (by omega)).mono ?_)
   rintro e w3 ⟨r3,rfl,h3,cD⟩
   obtain ⟨s3,p3,n3,c3,rfl⟩:=h3.form
   refine ⟨_,rfl,cD,fun kt _ bb3=>wV rfl ?_⟩
   (repeat first|refine wN ?_|refine wP rfl ?_|refine aa rfl ?_|refine ab rfl ?_|refine wO rfl rfl ?_)
   refine VO.call rfl rfl (fk Tryz.func93) (fun nj qa qF=>(xd _ Y k nj (hu.bj qF) (by omega)).mono ?_)
   rintro e w4 ⟨r4,rfl,h4,gU⟩
   obtain ⟨s4,p4,n4,c4,rfl⟩:=h4.form
   refine ⟨_,rfl,gU,fun pd _ AZ=>wV rfl ?_⟩
   (repeat first|refine wN ?_|refine wP rfl ?_|refine aa rfl ?_|refine ab rfl ?_|refine wO rfl rfl ?_)
   have z3:Sz (-X) j:=Sz.neg hv.len
   have z4:Sz (-Y) k:=Sz.neg hu.len
   obtain ⟨l1,l2⟩:=vE (X:= -X) (Y:= -Y) (by omega)
   have LP:Sz (Int.gcd (-X) (-Y):Int) k:=Fm z4 (by omega)
   have Ln:(Int.gcd (-X) (-Y):Int)≠0:=by
    intro e
    have:=(Int.gcd_eq_zero_iff.1 (show Int.gcd (-X) (-Y)=0 by omega)).2
    omega
   refine VO.call rfl rfl (fk Tryz.func94) (fun kg mG ku=>(CS _ _ (-X) (-Y) j k kg ((h3.kp (pd.aJ mG)).in z3) ((h4.kp mG).in z4) (by omega) (by omega)).mono ?_)
   rintro e w5 ⟨r5,rfl,h5,gi⟩
   obtain ⟨s5,p5,n5,c5,rfl⟩:=h5.form
   refine ⟨_,rfl,gi,fun nk _ xf=>wV rfl ?_⟩
   (repeat first|refine wN ?_|refine wP rfl ?_|refine aa rfl ?_|refine ab rfl ?_|refine wO rfl rfl ?_)
   refine VO.call rfl rfl (fk Tryz.func95) (fun pK ux tw=>(kV _ _ (-X) (Int.gcd (-X) (-Y):Int) j k pK ((h3.kp (pd.aJ (nk.aJ ux))).in z3) ((h5.kp ux).in LP) (by omega) (by omega)).mono ?_)
   rintro e w6 ⟨hd6,mX⟩
   obtain ⟨v6,u6,rfl,h6,h6'⟩:=eI hd6 Ln
   obtain ⟨s6,p6,n6,c6,rfl⟩:=h6.form
   obtain ⟨t6,r6,m6,d6,rfl⟩:=h6'.form
   refine ⟨_,rfl,mX,fun tx _ CR=>wV rfl ?_⟩
   (repeat first|refine wN ?_|refine wP rfl ?_|refine aa rfl ?_|refine ab rfl ?_|refine wO rfl rfl ?_)
   refine VO.call rfl rfl (fk Tryz.func95) (fun yn DX xX=>(kV _ _ (-Y) (Int.gcd (-X) (-Y):Int) k k yn ((h4.kp (nk.aJ (tx.aJ DX))).in z4) ((h5.kp (tx.aJ DX)).in LP) (by omega) (by omega)).mono ?_)
   rintro e w7 ⟨hd7,uO⟩
   obtain ⟨v7,u7,rfl,h7,h7'⟩:=eI hd7 Ln
   obtain ⟨s7,p7,n7,c7,rfl⟩:=h7.form
   obtain ⟨t7,r7,m7,d7,rfl⟩:=h7'.form
   refine ⟨_,rfl,uO,fun zj _ bb7=>wV rfl ?_⟩
   (repeat first|refine wN ?_|refine wP rfl ?_|refine aa rfl ?_|refine ab rfl ?_|refine wO rfl rfl ?_)
   refine VS.ret (aL _ _) rfl rfl (fun wz kz bz=> ?_)
   rw [LQ]
   exact ⟨_,by rw [CU,if_neg hY];rfl,⟨_,_,_,_,_,_,_,_,rfl,aC.cast ((h6.kp (zj.aJ kz)).mono tw.size) l1,aC.cast ((h7.kp kz).mono xX.size) l2⟩,bz⟩
  ·rw [eX q]
   refine ⟨_,rfl,aV,fun fe _ bb1=>wV rfl ?_⟩
   (repeat first|refine wN ?_|refine wP rfl ?_|refine aa rfl ?_|refine ab rfl ?_|refine wO rfl rfl ?_)
   refine VO.call rfl rfl (fk Tryz.func89) (fun dC gu eu=>(cT _ Y k dC (hu.bj eu) (by omega)).mono ?_)
   rintro e w2 ⟨rfl,bm⟩
   rw [eX q]
   refine ⟨_,rfl,bm,fun fZ _ bb2=>wV rfl ?_⟩
   (repeat first|refine wN ?_|refine wP rfl ?_|refine aa rfl ?_|refine ab rfl ?_|refine wO rfl rfl ?_)
   obtain ⟨l1,l2⟩:=vE (X:=X) (Y:=Y) q
   have LP:Sz (Int.gcd X Y:Int) k:=Fm hu.len hY
   have Ln:(Int.gcd X Y:Int)≠0:=by
    intro e
    have:=(Int.gcd_eq_zero_iff.1 (show Int.gcd X Y=0 by omega)).2
    omega
   refine VO.call rfl rfl (fk Tryz.func94) (fun kg mG ku=>(CS _ _ X Y j k kg (hv.bj ku) (hu.bj ku) (by omega) (by omega)).mono ?_)
   rintro e w5 ⟨r5,rfl,h5,gi⟩
   obtain ⟨s5,p5,n5,c5,rfl⟩:=h5.form
   refine ⟨_,rfl,gi,fun nk _ xf=>wV rfl ?_⟩
   (repeat first|refine wN ?_|refine wP rfl ?_|refine aa rfl ?_|refine ab rfl ?_|refine wO rfl rfl ?_)
   refine VO.call rfl rfl (fk Tryz.func95) (fun pK ux tw=>(kV _ _ X (Int.gcd X Y:Int) j k pK (hv.bj tw) ((h5.kp ux).in LP) (by omega) (by omega)).mono ?_)
   rintro e w6 ⟨hd6,mX⟩
   obtain ⟨v6,u6,rfl,h6,h6'⟩:=eI hd6 Ln
   obtain ⟨s6,p6,n6,c6,rfl⟩:=h6.form
   obtain ⟨t6,r6,m6,d6,rfl⟩:=h6'.form
   refine ⟨_,rfl,mX,fun tx _ CR=>wV rfl ?_⟩
   (repeat first|refine wN ?_|refine wP rfl ?_|refine aa rfl ?_|refine ab rfl ?_|refine wO rfl rfl ?_)
   refine VO.call rfl rfl (fk Tryz.func95) (fun yn DX xX=>(kV _ _ Y (Int.gcd X Y:Int) k k yn (hu.bj xX) ((h5.kp (tx.aJ DX)).in LP) (by omega) (by omega)).mono ?_)
   rintro e w7 ⟨hd7,uO⟩
   obtain ⟨v7,u7,rfl,h7,h7'⟩:=eI hd7 Ln
   obtain ⟨s7,p7,n7,c7,rfl⟩:=h7.form
   obtain ⟨t7,r7,m7,d7,rfl⟩:=h7'.form
   refine ⟨_,rfl,uO,fun zj _ bb7=>wV rfl ?_⟩
   (repeat first|refine wN ?_|refine wP rfl ?_|refine aa rfl ?_|refine ab rfl ?_|refine wO rfl rfl ?_)
   refine VS.ret (aL _ _) rfl rfl (fun wz kz bz=> ?_)
   exact ⟨_,by rw [CU,if_neg hY];rfl,⟨_,_,_,_,_,_,_,_,rfl,aC.cast ((h6.kp (zj.aJ kz)).mono tw.size) l1,aC.cast ((h7.kp kz).mono xX.size) l2⟩,bz⟩
theorem IW (n d:Int) (w:World) (h0: -9223372036854775808≤n) (h1:n≤9223372036854775807) (g0: -9223372036854775808≤d) (g1:d≤9223372036854775807):
  Calls Tryz.prog 66 #[.int .i64 n,.int .i64 d] w fun e w'=>∃ r,e=.returned (.tuple #[r,.int .i64 (CU d)])∧aK w' w.heap.size r (Rat.divInt n d)∧aj w w':=by
 refine aw (C:=cj Tryz.prog w _) (args:=[_,_]) Tryz.func66 rfl Tryz.ntmps66 (Nat.le_of_ble_eq_true rfl) ?_
 (repeat first|refine wN ?_|refine wP rfl ?_|refine aa rfl ?_|refine ab rfl ?_|refine wO rfl rfl ?_)
 refine VO.call rfl rfl (fk Tryz.func59) (fun cC er dv=>(pe n cC h0 h1).mono ?_)
 rintro e w1 ⟨r1,rfl,q1,aV⟩
 obtain ⟨s1,p1,n1,c1,rfl⟩:=q1.form
 refine ⟨_,rfl,aV,fun fe _ bb1=>wV rfl ?_⟩
 (repeat first|refine wN ?_|refine wP rfl ?_|refine aa rfl ?_|refine ab rfl ?_|refine wO rfl rfl ?_)
 refine VO.call rfl rfl (fk Tryz.func59) (fun dC gu eu=>(pe d dC g0 g1).mono ?_)
 rintro e w2 ⟨r2,rfl,q2,bm⟩
 obtain ⟨s2,p2,n2,c2,rfl⟩:=q2.form
 refine ⟨_,rfl,bm,fun fZ _ bb2=>wV rfl ?_⟩
 (repeat first|refine wN ?_|refine wP rfl ?_|refine aa rfl ?_|refine ab rfl ?_|refine wO rfl rfl ?_)
 refine VO.call rfl rfl (fk Tryz.func61) (fun gv gY gV=>(Ft _ _ n d 2 2 gv ((q1.kp (fZ.aJ gY)).in (Sz.of_lt (by omega))) ((q2.kp gY).in (Sz.of_lt (by omega))) (by omega) (by omega)).mono ?_)
 rintro e w3 ⟨r3,rfl,q3,cD⟩
 obtain ⟨s3,p3,n3,c3,t3,x3,m3,d3,rfl⟩:=q3.form
 refine ⟨_,rfl,cD,fun kt _ bb3=>wV rfl ?_⟩
 (repeat first|refine wN ?_|refine wP rfl ?_|refine aa rfl ?_|refine ab rfl ?_|refine wO rfl rfl ?_)
 refine VS.ret (aL _ _) rfl rfl (fun wz kz bz=> ?_)
 exact ⟨_,rfl,(q3.kp kz).mono gV.size,bz⟩
end Go.Proofs.YtabalinjfgcfeaaGreat
namespace Go.Proofs.YtabalinjfgcfeaaGreat
open Go.RowKit
attribute [local irreducible] aB VS
theorem dL (v u:Value) (q r:Rat) (k l:Nat) (w:World) (hv:bK w v q k) (hu:bK w u r l) (hk:k≤67108864) (hl:l≤67108864) (c:Int) (hc:dK q r=c):
 Calls Tryz.prog 12 #[v,u] w fun e w'=>e=.returned (.int .i64 c)∧aj w w':=hc▸qJ v u q r k l w hv hu hk hl
inductive bZ (w:World) (k:Nat):List Rat→List (List Value)→Prop
 | nil:bZ w k [] []
 | cons {s:Bool} {p:Option Addr} {n c:Nat} {t:Bool} {r:Option Addr} {m d:Nat} {q:Rat} {qs:List Rat} {vs:List (List Value)}:bK w (.agg #[.bool s,.slice p n c,.bool t,.slice r m d]) q k→bZ w k qs vs→bZ w k (q::qs) ([.bool s,.slice p n c,.bool t,.slice r m d]::vs)
theorem bZ.four {w:World} {k:Nat} {qs:List Rat} {vs:List (List Value)} (h:bZ w k qs vs):∀ v∈vs,v.length=4:=by
 induction h with
 | nil=>intro v hv;cases hv
 | cons _ _ ih=>
   intro v hv
   rcases List.mem_cons.1 hv with rfl | e
   ·rfl
   ·exact ih v e
theorem bZ.at {w:World} {k:Nat} {qs:List Rat} {vs:List (List Value)} (h:bZ w k qs vs):∀ (j:Nat) (q:Rat),qs[j]? =some q→∃ s p' n' c' t r m d,vs[j]? =some [Value.bool s,.slice p' n' c',.bool t,.slice r m d]∧bK w (.agg #[.bool s,.slice p' n' c',.bool t,.slice r m d]) q k:=by
 induction h with
 | nil=>intro j q hq;simp at hq
 | cons h1 _ ih=>
   intro j q hq
   cases j with
   | zero=>cases hq;exact ⟨_,_,_,_,_,_,_,_,rfl,h1⟩
   | succ j=>exact ih j q (by simpa using hq)
theorem flat_at:∀ (vs:List (List Value)) (j:Nat) (v:List Value),(∀ v∈vs,v.length=4)→vs[j]? =some v→∀ (o:Nat) (u:Value),v[o]? =some u→vs.flatten[j * 4 + o]? =some u:=by
 intro vs
 induction vs with
 | nil=>intro j v _ h;simp at h
 | cons x r ih=>
   intro j v hl h o u hu
   have hx:x.length=4:=hl x (by simp)
   cases j with
   | zero=>
     simp at h
     subst h
     have ho:o < 4:=by have:=(List.getElem?_eq_some_iff.1 hu).1;omega
     rw [List.flatten_cons,List.getElem?_append_left (by omega)]
     simpa using hu
   | succ j=>
     have h':r[j]? =some v:=by simpa using h
     rw [List.flatten_cons,List.getElem?_append_right (by omega),hx,show (j + 1) * 4 + o - 4=j * 4 + o by omega]
     exact ih j v (fun v hv=>hl v (by simp [hv])) h' o u hu
theorem dW {C:Cx} {β:Nat→Nat} {w:World} {i:Nat} {t:TypeId} {cs:List AV} {qs:List Rat} {k:Nat} {vs:List (List Value)} {n c:Nat} (h:lQ C β w i t cs) (spare:List AV) (hcs:cs=vs.flatten.map .val++spare) (hn:n=qs.length) (hq:bZ w k qs vs) (hc:n≤c) (eV:c≤maxLen):
  ju w (.slice (some ⟨β i,0,none⟩) n c) qs k:=by
 subst hn
 refine ⟨_,_,rfl,hc,eV,fun j q hj=> ?_⟩
 obtain ⟨s,p',n',c',t',r,m,d,hvj,tU⟩:=hq.at j q hj
 refine ⟨β i,0,s,p',n',c',t',r,m,d,rfl,fun o u hu=> ?_,tU⟩
 refine h.cls.cell ?_
 have:=flat_at vs j _ hq.four hvj o u hu
 rw [hcs,List.map_append,ah,List.getElem?_toArray,Nat.zero_add,List.getElem?_append_left (List.getElem?_eq_some_iff.1 this).1]
 exact this
theorem bS (v:Value) (q:Rat) (k:Nat) (w:World) (hv:bK w v q k) (hk:k≤536870912) (c:Int) (hc:dK q 0=c):
 Calls Tryz.prog 13 #[v] w fun e w'=>e=.returned (.int .i64 c)∧aj w w':=hc▸CV v q k w hv hk
theorem eR.form' {w:World} {v:Value} {s t:Bool} {xs ys:List Nat} (h:eR w v s xs t ys):∃ p c r d,v=.agg #[.bool s,.slice p xs.length c,.bool t,.slice r ys.length d]∧True:=by
 obtain ⟨p,c,r,d,rfl,_⟩:=h
 exact ⟨_,_,_,_,rfl,trivial⟩
theorem jG {a b:Rat}:dK a b≤0↔a≤b:=by
 unfold dK
 split
 ·rename_i h;exact ⟨fun _=>Rat.le_of_lt h,fun _=>by omega⟩
 ·split
  ·rename_i h;exact ⟨fun _=>by rw [h];exact Rat.le_refl,fun _=>by omega⟩
  ·rename_i h1 h2;exact ⟨fun h=>by omega,fun h=>absurd (Rat.not_lt.1 h1) (fun h3=>h2 (Rat.le_antisymm h h3))⟩
theorem rX {a b:Rat}:dK a b≥0↔b≤a:=by
 unfold dK
 split
 ·rename_i h;exact ⟨fun _=>by omega,fun h'=>absurd h (Rat.not_lt.2 h')⟩
 ·rename_i h
  split
  ·exact ⟨fun _=>Rat.not_lt.1 h,fun _=>by omega⟩
  ·exact ⟨fun _=>Rat.not_lt.1 h,fun _=>by omega⟩
theorem gD {a b:Rat} (h:a=b):dK a b=0:=by subst h;unfold dK;rw [if_neg (by exact Rat.lt_irrefl),if_pos rfl]
theorem zm {y x:Rat}:uz y x=true↔y < x:=by
 unfold uz dK
 by_cases h:y < x
 ·simp [h]
 ·simp only [h,if_false,iff_false];split <;> simp
theorem IX {y x:Rat}:jz y x=true↔x < y:=by
 unfold jz
 rw [decide_eq_true_iff]
 constructor
 ·intro h
  exact Rat.not_le.1 (fun e=>by have:=jG.2 e;omega)
 ·intro h
  have:=mt jG.1 (Rat.not_le.2 h)
  omega
end Go.Proofs.YtabalinjfgcfeaaGreat
namespace Go.Proofs.YtabalinjfgcfeaaGreat
open Go.RowKit
structure lB {α:Type} (E:World→List Value→α→Prop) (sz:Nat):Prop where
 kp:∀ {w w':World} {cs:List Value} {a:α},E w cs a→Kp UU w w'→E w' cs a
 len:∀ {w:World} {cs:List Value} {a:α},E w cs a→cs.length=sz
 ok:∀ {w:World} {cs:List Value} {a:α},E w cs a→cs.all aU=true
inductive cM {α:Type} (E:World→List Value→α→Prop) (w:World):List α→List (List Value)→Prop
 | nil:cM E w [] []
 | cons {a:α} {es:List α} {cs:List Value} {vs:List (List Value)}:E w cs a→cM E w es vs→cM E w (a::es) (cs::vs)
section
variable {α:Type} {E:World→List Value→α→Prop} {sz:Nat} {w w':World} {es:List α} {vs:List (List Value)}
theorem cM.kp (hE:lB E sz) (h:cM E w es vs) (k:Kp UU w w'):cM E w' es vs:=by
 induction h with
 | nil=>exact .nil
 | cons h1 _ ih=>exact .cons (hE.kp h1 k) ih
theorem cM.at (h:cM E w es vs):∀ (j:Nat) (a:α),es[j]? =some a→∃ cs,vs[j]? =some cs∧E w cs a:=by
 induction h with
 | nil=>intro j q hq;simp at hq
 | cons h1 _ ih=>
   intro j q hq
   cases j with
   | zero=>cases hq;exact ⟨_,rfl,h1⟩
   | succ j=>exact ih j q (by simpa using hq)
theorem cM.append {es':List α} {gE:List (List Value)} (h:cM E w es vs) (h':cM E w es' gE):cM E w (es++es') (vs++gE):=by
 induction h with
 | nil=>exact h'
 | cons h1 _ ih=>exact .cons h1 ih
theorem cM.snoc {a:α} {cs:List Value} (h:cM E w es vs) (h':E w cs a):cM E w (es++[a]) (vs++[cs]):=h.append (.cons h' .nil)
theorem cM.ok (hE:lB E sz) (h:cM E w es vs):vs.flatten.all aU=true∧vs.flatten.length=es.length * sz:=by
 induction h with
 | nil=>exact ⟨rfl,by simp⟩
 | cons h1 _ ih=>
   refine ⟨?_,?_⟩
   ·rw [List.flatten_cons,List.all_append,ih.1,hE.ok h1];rfl
   ·rw [List.flatten_cons,List.length_append,ih.2,hE.len h1,List.length_cons,Nat.add_mul,Nat.one_mul,Nat.add_comm]
theorem cM.cell (hE:lB E sz) (h:cM E w es vs):∀ (j:Nat) (cs:List Value),vs[j]? =some cs→∀ (o:Nat) (u:Value),cs[o]? =some u→vs.flatten[j * sz + o]? =some u:=by
 induction h with
 | nil=>intro j v h;simp at h
 | @cons a es cs vs h1 _ ih=>
   intro j v h o u hu
   have hx:=hE.len h1
   cases j with
   | zero=>
     simp at h
     subst h
     have ho:o < sz:=by have:=(List.getElem?_eq_some_iff.1 hu).1;omega
     rw [List.flatten_cons,Nat.zero_mul,Nat.zero_add,List.getElem?_append_left (by omega)]
     exact hu
   | succ j=>
     rw [List.flatten_cons,List.getElem?_append_right (by rw [Nat.add_mul];omega)]
     have:=ih j v (by simpa using h) o u hu
     rw [←this]
     congr 1
     rw [Nat.add_mul]
     omega
def eE (E:World→List Value→α→Prop) (sz:Nat) (w:World) (v:Value) (es:List α):Prop:=
 ∃ p c,v=.slice p es.length c∧es.length≤c∧c≤maxLen∧∀ (i:Nat) (a:α),es[i]? =some a→∃ b off cs,p=some ⟨b,off,none⟩∧(∀ (j:Nat) (u:Value),cs[j]? =some u→w.cell? ⟨b,off + i * sz + j,none⟩=some u)∧E w cs a
theorem eE.form {v:Value} (h:eE E sz w v es):∃ p c,v=.slice p es.length c∧es.length≤c∧c≤9223372036854775807:=by
 obtain ⟨p,c,hv,h1,h2,_⟩:=h
 exact ⟨p,c,hv,h1,by simpa [maxLen] using h2⟩
theorem eE.at {p:Option Addr} {n c i:Nat} {a:α} (h:eE E sz w (.slice p n c) es) (hq:es[i]? =some a):∃ b off cs,p=some ⟨b,off,none⟩∧(∀ (j:Nat) (u:Value),cs[j]? =some u→w.cell? ⟨b,off + i * sz + j,none⟩=some u)∧E w cs a:=by
 obtain ⟨p',c',hv,h1,h2,h3⟩:=h
 cases hv
 exact h3 i a hq
theorem eE.bj (hE:lB E sz) {v:Value} (h:eE E sz w v es) (hb:aj w w'):eE E sz w' v es:=by
 obtain ⟨p,c,hv,h1,h2,h3⟩:=h
 refine ⟨p,c,hv,h1,h2,fun i q hq=> ?_⟩
 obtain ⟨b,off,cs,hp,hc,hr⟩:=h3 i q hq
 exact ⟨b,off,cs,hp,fun j u hj=>hb.cell (hc j u hj),hE.kp hr (Kp.of hb)⟩
theorem eE.mono {E':World→List Value→α→Prop} {v:Value} (h:eE E sz w v es) (hm:∀ (i:Nat) (a:α) (cs:List Value),es[i]? =some a→E w cs a→E' w cs a):eE E' sz w v es:=by
 obtain ⟨p,c,hv,h1,h2,h3⟩:=h
 refine ⟨p,c,hv,h1,h2,fun i q hq=> ?_⟩
 obtain ⟨b,off,cs,hp,hc,hr⟩:=h3 i q hq
 exact ⟨b,off,cs,hp,hc,hm i q cs hq hr⟩
theorem eE.nil (w:World) (E:World→List Value→α→Prop) (sz:Nat):eE E sz w (.slice none 0 0) []:=⟨none,0,rfl,Nat.le_refl _,by decide,fun i q hq=>by simp at hq⟩
theorem cM.lens (hE:lB E sz) (h:cM E w es vs):∀ v∈vs,v.length=sz:=by
 induction h with
 | nil=>intro v hv;cases hv
 | cons h1 _ ih=>
   intro v hv
   rcases List.mem_cons.1 hv with rfl | e
   ·exact hE.len h1
   ·exact ih v e
theorem IY (hE:lB E sz) {b n c:Nat} {t:TypeId} {spare:List Value} (h:aW w b t (vs.flatten++spare).toArray) (hr:cM E w es vs) (hn:n=es.length) (hc:n≤c) (hm:c≤9223372036854775807):eE E sz w (.slice (some ⟨b,0,none⟩) n c) es:=by
 subst hn
 refine ⟨_,_,rfl,hc,by simpa [maxLen] using hm,fun i a ha=> ?_⟩
 obtain ⟨cs,h1,h2⟩:=hr.at i a ha
 refine ⟨b,0,cs,rfl,fun j u hj=> ?_,h2⟩
 have:=hr.cell hE i cs h1 j u hj
 refine h.cell ?_
 rw [List.getElem?_toArray,Nat.zero_add,List.getElem?_append_left (List.getElem?_eq_some_iff.1 this).1]
 exact this
theorem mI (hE:lB E sz) {C:Cx} {β:Nat→Nat} {i n c:Nat} {t:TypeId} {cs:List AV} (h:lQ C β w i t cs) (spare:List AV) (hcs:cs=vs.flatten.map .val++spare) (hr:cM E w es vs) (hn:n=es.length) (hc:n≤c) (hm:c≤9223372036854775807):
  eE E sz w (.slice (some ⟨β i,0,none⟩) n c) es:=by
 refine IY hE (spare:=spare.map (AV.leaf β)) (t:=t) ?_ hr hn hc hm
 have:=h.cls
 rw [hcs,List.map_append,ah] at this
 exact this
end
section
variable {C:Cx} {F:Fr} {H:Hp} {w:World} {m:Option (List FuncId)} {full:Array Oper} {K:Fr→Hp→World→Prop} {o:Oper} {r:List Oper}
end
theorem Am {n d:Int} (h0: -9223372036854775808≤n) (h1:n≤9223372036854775807) (g0: -9223372036854775808≤d) (g1:d≤9223372036854775807):dV (Rat.divInt n d) 2:=by
 by_cases hd:d=0
 ·rw [hd,Rat.divInt_zero];exact dV.zero.mono (by omega)
 ·exact lZ (Sz.of_lt (by omega)) (Sz.of_lt (by omega)) hd
end Go.Proofs.YtabalinjfgcfeaaGreat
set_option maxRecDepth 4000
namespace Go.Proofs.YtabalinjfgcfeaaGreat
open Go.RowKit
attribute [local irreducible] aB VS
theorem rY (xs:List Nat) (v:Value) (n:Nat) (w:World) (hr:Rd w 1 v n (ints .u32 xs)) (hn:n≤1073741824):
  Calls Tryz.prog 64 #[v] w fun e w'=>∃ p c,e=.returned (.slice p n c)∧w'.ownsRow w.heap.size UU 1 (.slice p n c) n (ints .u32 xs)∧aj w w':=by
 obtain ⟨p,c,rfl,jw⟩:∃ p c,v=.slice p n c∧True:=by
  obtain ⟨p,c,hv,_⟩:=hr
  exact ⟨p,c,hv,trivial⟩
 refine aw (C:=cj Tryz.prog w _) (args:=[_]) Tryz.func64 rfl Tryz.ntmps64 (Nat.le_of_ble_eq_true rfl) ?_
 (repeat first|refine wN ?_|refine wP rfl ?_|refine aa rfl ?_|refine ab rfl ?_|refine wO rfl rfl ?_)
 refine VO.appU (aL _ _) (t:=22) (e:=117) (n:=n) (news:=ints .u32 xs) rfl rfl rfl rfl rfl (lL .u32 xs) (by omega) (fun w1 k1 b1=>hr.below b1) (fun w2 p2 c2 k2 b2 ho=>wV rfl ?_)
 (repeat first|refine wN ?_|refine wP rfl ?_|refine aa rfl ?_|refine ab rfl ?_|refine wO rfl rfl ?_)
 refine VS.ret (aL _ _) rfl rfl (fun wz kz bz=> ?_)
 exact ⟨_,_,rfl,Own.kp ho kz,bz⟩
theorem eW.fil {w:World} {s:Bool} {p:Option Addr} {xs:List Nat} {c:Nat} (h:eW w (.agg #[.bool s,.slice p xs.length c]) s xs):Rd w 1 (.slice p xs.length c) xs.length (ints .u32 xs)∧bV xs:=by
 obtain ⟨p',c',hv,hr,hl⟩:=h
 simp only [Value.agg.injEq,Array.mk.injEq,List.cons.injEq,and_true,true_and,Value.slice.injEq] at hv
 obtain ⟨rfl,rfl⟩:=hv
 exact ⟨hr,hl⟩
def oG (w:World) (B:Nat) (v:Value) (s:Bool) (xs:List Nat) (t:Bool) (ys:List Nat):Prop:=
 ∃ p c r d,v=.agg #[.bool s,.slice p xs.length c,.bool t,.slice r ys.length d]∧w.ownsRow B UU 1 (.slice p xs.length c) xs.length (ints .u32 xs)∧w.ownsRow B UU 1 (.slice r ys.length d) ys.length (ints .u32 ys)∧bV xs∧bV ys
theorem oG.raw {w:World} {B:Nat} {v:Value} {s:Bool} {xs:List Nat} {t:Bool} {ys:List Nat} (h:oG w B v s xs t ys):eR w v s xs t ys:=by
 obtain ⟨p,c,r,d,hv,h1,h2,h3,h4⟩:=h
 exact ⟨p,c,r,d,hv,⟨_,_,rfl,Rd.own h1,h3⟩,⟨_,_,rfl,Rd.own h2,h4⟩⟩
theorem oG.kp {T:TypeId→Bool} {w w':World} {B:Nat} {v:Value} {s:Bool} {xs:List Nat} {t:Bool} {ys:List Nat} (h:oG w B v s xs t ys) (k:aE ⟨UU,fun _=>True,T⟩ w w'):oG w' B v s xs t ys:=by
 obtain ⟨p,c,r,d,hv,h1,h2,h3,h4⟩:=h
 exact ⟨p,c,r,d,hv,Own.kp h1 k,Own.kp h2 k,h3,h4⟩
theorem oG.own {w:World} {B:Nat} {v:Value} {q:Rat} (h:oG w B v (decide (q.num < 0)) (limbs q.num.natAbs) (decide ((q.den:Int) < 0)) (limbs (q.den:Int).natAbs)):aK w B v q:=by
 obtain ⟨p,c,r,d,rfl,h1,h2,h3,h4⟩:=h
 exact ⟨_,p,_,c,_,r,_,d,rfl,⟨_,_,rfl,h1⟩,⟨_,_,rfl,h2⟩⟩
theorem IZ (s t:Bool) (xs ys:List Nat) (v:Value) (w:World) (h:eR w v s xs t ys) (hx:xs.length≤1073741824) (hy:ys.length≤1073741824):
  Calls Tryz.prog 67 #[v] w fun e w'=>∃ r,e=.returned r∧oG w' w.heap.size r s xs t ys∧aj w w':=by
 obtain ⟨p,c,r,d,rfl,h1,h2⟩:=h
 refine aw (C:=cj Tryz.prog w _) (args:=[_]) Tryz.func67 rfl Tryz.ntmps67 (Nat.le_of_ble_eq_true rfl) ?_
 (repeat first|refine wN ?_|refine wP rfl ?_|refine aa rfl ?_|refine ab rfl ?_|refine wO rfl rfl ?_)
 refine VO.call rfl rfl (fk Tryz.func64) (fun cC er dv=>(rY xs _ _ cC (h1.bj dv).fil.1 hx).mono ?_)
 rintro e w1 ⟨p1,c1,rfl,q1,aV⟩
 skip
 refine ⟨_,rfl,aV,fun fe _ bb1=>wV rfl ?_⟩
 (repeat first|refine wN ?_|refine wP rfl ?_|refine aa rfl ?_|refine ab rfl ?_|refine wO rfl rfl ?_)
 refine VO.call rfl rfl (fk Tryz.func64) (fun dC gu eu=>(rY ys _ _ dC (h2.bj eu).fil.1 hy).mono ?_)
 rintro e w2 ⟨p2,c2,rfl,q2,bm⟩
 skip
 refine ⟨_,rfl,bm,fun fZ _ bb2=>wV rfl ?_⟩
 (repeat first|refine wN ?_|refine wP rfl ?_|refine aa rfl ?_|refine ab rfl ?_|refine wO rfl rfl ?_)
 refine VS.ret (aL _ _) rfl rfl (fun wz kz bz=> ?_)
 exact ⟨_,rfl,⟨_,_,_,_,rfl,Own.kp (Own.mono q1 dv.size) (fZ.aJ kz),Own.kp (Own.mono q2 eu.size) kz,h1.fil.2,h2.fil.2⟩,bz⟩
theorem dX (n d:Int) (w:World) (h0: -9223372036854775808≤n) (h1:n≤9223372036854775807) (g0: -9223372036854775808≤d) (g1:d≤9223372036854775807):
  Calls Tryz.prog 31 #[.int .i64 n,.int .i64 d] w fun e w'=>∃ r,e=.returned r∧aK w' w.heap.size r (Rat.divInt n d)∧aj w w':=by
 refine aw (C:=cj Tryz.prog w _) (args:=[_,_]) Tryz.func31 rfl Tryz.ntmps31 (Nat.le_of_ble_eq_true rfl) ?_
 (repeat first|refine wN ?_|refine wP rfl ?_|refine aa rfl ?_|refine ab rfl ?_|refine wO rfl rfl ?_)
 refine VO.call rfl rfl (fk Tryz.func66) (fun cC er dv=>(IW n d cC h0 h1 g0 g1).mono ?_)
 rintro e w1 ⟨r1,rfl,q1,aV⟩
 obtain ⟨s1,p1,n1,c1,t1,y1,m1,d1,rfl⟩:=q1.form
 refine ⟨_,rfl,aV,fun fe _ bb1=>wV rfl ?_⟩
 (repeat first|refine wN ?_|refine wP rfl ?_|refine aa rfl ?_|refine ab rfl ?_|refine wO rfl rfl ?_)
 have hsz:(limbs (Rat.divInt n d).num.natAbs).length≤4∧(limbs ((Rat.divInt n d).den:Int).natAbs).length≤4:=by
  by_cases hd:d=0
  ·rw [hd,Rat.divInt_zero];exact ⟨dV.zero.1.mono (by omega),dV.zero.2.mono (by omega)⟩
  ·have h:=lZ (X:=n) (Y:=d) (k:=2) (l:=2) (Sz.of_lt (by omega)) (Sz.of_lt (by omega)) hd
   exact ⟨h.1.mono (by omega),h.2.mono (by omega)⟩
 refine VO.call rfl rfl (fk Tryz.func67) (fun dC gu eu=>(IZ _ _ _ _ _ dC (q1.kp (by (with_reducible (repeat (first | assumption | exact kU _ | exact kR _ | exact Kp.of (U:=UU) (by assumption) | exact aE.of (by assumption) | refine kT ?_ (by assumption)))))).rd.raw (by omega) (by omega)).mono ?_)
 rintro e w2 ⟨r2,rfl,q2,bm⟩
 obtain ⟨p2,c2,y2,d2,rfl,_⟩:=q2.raw.form'
 refine ⟨_,rfl,bm,fun fZ _ bb2=>wV rfl ?_⟩
 (repeat first|refine wN ?_|refine wP rfl ?_|refine aa rfl ?_|refine ab rfl ?_|refine wO rfl rfl ?_)
 refine VS.ret (aL _ _) rfl rfl (fun wz kz bz=> ?_)
 exact ⟨_,rfl,((q2.kp kz).own).mono eu.size,bz⟩
end Go.Proofs.YtabalinjfgcfeaaGreat
namespace Go.Proofs.YtabalinjfgcfeaaGreat
open Go.RowKit
section
variable {T:TypeId→Bool} {w w':World} {v:Value} {q:Rat} {X:Int} {B n:Nat}
theorem bK.k (h:bK w v q n) (k:aE ⟨UU,fun _=>True,T⟩ w w':=by (with_reducible (repeat (first | assumption | exact kU _ | exact kR _ | exact Kp.of (U:=UU) (by assumption) | exact aE.of (by assumption) | refine kT ?_ (by assumption))))):bK w' v q n:=h.kp k
theorem cQ.k (h:cQ w v q) (k:aE ⟨UU,fun _=>True,T⟩ w w':=by (with_reducible (repeat (first | assumption | exact kU _ | exact kR _ | exact Kp.of (U:=UU) (by assumption) | exact aE.of (by assumption) | refine kT ?_ (by assumption))))):cQ w' v q:=h.kp k
theorem aK.k (h:aK w B v q) (k:aE ⟨UU,fun _=>True,T⟩ w w':=by (with_reducible (repeat (first | assumption | exact kU _ | exact kR _ | exact Kp.of (U:=UU) (by assumption) | exact aE.of (by assumption) | refine kT ?_ (by assumption))))):aK w' B v q:=h.kp k
theorem aK.kr (h:aK w B v q) (k:aE ⟨UU,fun _=>True,T⟩ w w':=by (with_reducible (repeat (first | assumption | exact kU _ | exact kR _ | exact Kp.of (U:=UU) (by assumption) | exact aE.of (by assumption) | refine kT ?_ (by assumption))))):cQ w' v q:=(h.kp k).rd
theorem aK.ki (h:aK w B v q) (hs:dV q n) (k:aE ⟨UU,fun _=>True,T⟩ w w':=by (with_reducible (repeat (first | assumption | exact kU _ | exact kR _ | exact Kp.of (U:=UU) (by assumption) | exact aE.of (by assumption) | refine kT ?_ (by assumption))))):bK w' v q n:=(h.kp k).in hs
theorem cQ.ki (h:cQ w v q) (hs:dV q n) (k:aE ⟨UU,fun _=>True,T⟩ w w':=by (with_reducible (repeat (first | assumption | exact kU _ | exact kR _ | exact Kp.of (U:=UU) (by assumption) | exact aE.of (by assumption) | refine kT ?_ (by assumption))))):bK w' v q n:=(h.kp k).to hs
end
end Go.Proofs.YtabalinjfgcfeaaGreat
namespace Go.Proofs.YtabalinjfgcfeaaGreat
open Go.RowKit
theorem Ja {w:World} {a:Option Addr} {len cap:Nat} {zs:List Int}
  (h:(a=none∧len=0∧cap=0∧zs=[])∨∃ x,a=some x∧len≤cap∧cap≤maxLen∧zs.length=cap∧(∀ i,i < zs.length→w.cell? (x.add i)=some (.int .u32 (zs.getD i 0)))∧∀ n∈zs,(Lit.int .u32 n).wf=true):
  ∃ xs:List Nat,bV xs∧Rd w 1 (.slice a len cap) len (ints .u32 xs):=by
 rcases h with ⟨rfl,rfl,rfl,rfl⟩ | ⟨x,rfl,h1,h2,h3,h4,h5⟩
 ·exact ⟨[],bV.nil,Rd.nil w 1⟩
 ·have hb:∀ n∈zs,0≤n∧n < 4294967296:=fun n hn=>by
   have:=h5 n hn
   simp [Lit.wf,IntKind.min,IntKind.max,IntKind.signed,IntKind.bits] at this
   omega
  refine ⟨(zs.take len).map Int.toNat,?_,?_⟩
  ·intro y hy
   obtain ⟨z,hz,rfl⟩:=List.mem_map.1 hy
   have:=hb z (List.mem_of_mem_take hz)
   omega
  ·refine ⟨_,cap,rfl,h1,h2,by simp;omega,fun hn=> ?_⟩
   have kG:0 < zs.length:=by omega
   have h0:=h4 0 kG
   have hsp:x.spot=none:=by
    have:x.add 0=x:=by simp [Addr.add]
    rw [this] at h0
    unfold World.cell? at h0
    split at h0
    ·split at h0
     ·cases h0
     ·rename_i hs;simpa using hs
    ·cases h0
   obtain ⟨b,off,sp⟩:=x
   simp only at hsp
   subst hsp
   refine ⟨b,off,rfl,fun j u hj=> ?_⟩
   simp only [ints,List.map_map,List.getElem?_map,List.getElem?_take] at hj
   split at hj
   ·rename_i hjl
    have hjz:j < zs.length:=by omega
    rw [List.getElem?_eq_getElem hjz] at hj
    simp at hj
    subst hj
    have h6:=h4 j hjz
    have h7:=hb _ (List.getElem_mem hjz)
    rw [show (⟨b,off,none⟩:Addr).add j=⟨b,off + j,none⟩ by unfold Addr.add;split <;> simp_all] at h6
    rw [h6]
    simp [List.getD,hjz]
    omega
   ·cases hj
theorem Ao {α:Type} {l:List α} (h:l.length=2):∃ a b,l=[a,b]:=by
 match l,h with
 | [a,b],_=>exact ⟨a,b,rfl⟩
theorem LR {α:Type} {l:List α} (h:l.length=4):∃ a b c d,l=[a,b,c,d]:=by
 match l,h with
 | [a,b,c,d],_=>exact ⟨a,b,c,d,rfl⟩
section
variable {H:Type} {enc:TypeId×Value→H} {w:World} {held:Bool}
theorem Fu {fuel:Nat} {cs:List Value} {x:DataW H×List MemPlace} (h:DataW.trod enc Tryz.prog w 0 (fun _=>true) held fuel 22 cs=some x):∃ p n c xs,cs=[.slice p n c]∧Rd w 1 (.slice p n c) n (ints .u32 xs)∧bV xs:=by
 rcases ChangeShapes.open_ints Tryz.underlying22 Tryz.underlying117 (by kernel_rfl) h with ⟨rfl,_⟩ | ⟨a,len,cap,zs,rfl,_,hl,hc,hz,_,hcell,hwf⟩
 ·exact ⟨none,0,0,[],rfl,Rd.nil w 1,bV.nil⟩
 ·rw [if_pos rfl] at hz
  obtain ⟨xs,hxs,sM⟩:=Ja (w:=w) (.inr ⟨a,rfl,hl,hc,hz,hcell,hwf⟩)
  exact ⟨some a,len,cap,xs,rfl,sM,hxs⟩
theorem Db {fuel:Nat} {cs:List Value} {x:DataW H×List MemPlace} (h:DataW.trod enc Tryz.prog w 0 (fun _=>true) held fuel 24 cs=some x):∃ s p c xs,cs=[.bool s,.slice p xs.length c]∧eW w (.agg #[.bool s,.slice p xs.length c]) s xs:=by
 obtain ⟨ys,n,rfl,rfl,hl,jJ,hf⟩:=DataW.trod_struct Tryz.underlying24 h
 have xU:cs.length=2:=by
  have c:Tryz.prog.cellsOf 24=2:=by kernel_rfl
  rw [c] at hl;exact hl
 have hy2:ys.length=2:=jJ
 obtain ⟨a,b,rfl⟩:∃ a b,cs=[a,b]:=by
  exact Ao xU
 obtain ⟨y0,y1,rfl⟩:∃ a b,ys=[a,b]:=by
  exact Ao hy2
 have c0:Tryz.prog.cellsOf 4=1:=by kernel_rfl
 have c1:Tryz.prog.cellsOf 22=1:=by kernel_rfl
 have h0:=hf 0 _ rfl
 have h1:=hf 1 _ rfl
 change DataW.trod enc Tryz.prog w 0 (fun _=>true) held n 4 (([a,b].drop 0).take (Tryz.prog.cellsOf 4))=some y0 at h0
 change DataW.trod enc Tryz.prog w 0 (fun _=>true) held n 22 (([a,b].drop 1).take (Tryz.prog.cellsOf 22))=some y1 at h1
 rw [c0] at h0
 rw [c1] at h1
 obtain ⟨s,hs,_⟩:=DataW.trod_bool Tryz.underlying4 h0
 obtain ⟨p,m,c,xs,hp,hr,hx⟩:=Fu h1
 simp only [List.drop_zero,List.take_succ_cons,List.take_zero,List.cons.injEq,and_true] at hs
 simp only [List.drop_succ_cons,List.drop_zero,List.take_succ_cons,List.take_zero,List.cons.injEq,and_true] at hp
 subst hs hp
 obtain ⟨_,_,hv,_,_,ew⟩:=hr.u32
 subst ew
 exact ⟨s,p,c,xs,rfl,p,c,rfl,hr,hx⟩
theorem LS {fuel:Nat} {cs:List Value} {x:DataW H×List MemPlace} (h:DataW.trod enc Tryz.prog w 0 (fun _=>true) held fuel 26 cs=some x):∃ s p n c t r m d xs ys,cs=[.bool s,.slice p n c,.bool t,.slice r m d]∧eR w (.agg #[.bool s,.slice p n c,.bool t,.slice r m d]) s xs t ys:=by
 obtain ⟨zs,n,rfl,rfl,hl,jJ,hf⟩:=DataW.trod_struct Tryz.underlying26 h
 have xU:cs.length=4:=by
  have c:Tryz.prog.cellsOf 26=4:=by kernel_rfl
  rw [c] at hl;exact hl
 have hy2:zs.length=2:=jJ
 obtain ⟨a,b,a',b',rfl⟩:∃ a b a' b',cs=[a,b,a',b']:=by
  exact LR xU
 obtain ⟨y0,y1,rfl⟩:∃ a b,zs=[a,b]:=by
  exact Ao hy2
 have c0:Tryz.prog.cellsOf 24=2:=by kernel_rfl
 have h0:=hf 0 _ rfl
 have h1:=hf 1 _ rfl
 change DataW.trod enc Tryz.prog w 0 (fun _=>true) held n 24 (([a,b,a',b'].drop 0).take (Tryz.prog.cellsOf 24))=some y0 at h0
 change DataW.trod enc Tryz.prog w 0 (fun _=>true) held n 24 (([a,b,a',b'].drop 2).take (Tryz.prog.cellsOf 24))=some y1 at h1
 rw [c0] at h0 h1
 obtain ⟨s,p,c,xs,e0,n0⟩:=Db h0
 obtain ⟨t,r,d,ys,e1,n1⟩:=Db h1
 simp only [List.drop_zero,List.take_succ_cons,List.take_zero,List.cons.injEq,and_true] at e0
 simp only [List.drop_succ_cons,List.drop_zero,List.take_succ_cons,List.take_zero,List.cons.injEq,and_true] at e1
 obtain ⟨rfl,rfl⟩:=e0
 obtain ⟨rfl,rfl⟩:=e1
 exact ⟨_,_,_,_,_,_,_,_,xs,ys,rfl,_,_,_,_,rfl,n0,n1⟩
theorem LU {α:Type} {p:Nat→α→Prop}:∀ (n:Nat),(∀ i,i < n→∃ q,p i q)→∃ qs:List α,qs.length=n∧∀ (i:Nat) (q:α),qs[i]? =some q→p i q
 | 0,_=>⟨[],rfl,fun i q h=>by simp at h⟩
 | n + 1,h=>by
   obtain ⟨qs,hl,hq⟩:=LU n (fun i hi=>h i (by omega))
   obtain ⟨q,hqn⟩:=h n (by omega)
   refine ⟨qs++[q],by simp [hl],fun i x hx=> ?_⟩
   by_cases hi:i < n
   ·rw [List.getElem?_append_left (by omega)] at hx
    exact hq i x hx
   ·rw [List.getElem?_append_right (by omega),hl] at hx
    have:i=n:=by
     have:=(List.getElem?_eq_some_iff.1 hx).1
     simp at this
     omega
    subst this
    simp at hx
    subst hx
    exact hqn
end
end Go.Proofs.YtabalinjfgcfeaaGreat
namespace Go.Proofs.YtabalinjfgcfeaaGreat
open Go.RowKit
section
variable {H:Type} {enc:TypeId×Value→H} {w:World} {held:Bool}
set_option maxRecDepth 100000 in
theorem open_sl {α:Type} {E:World→List Value→α→Prop} {sz:Nat} {t e:TypeId} (hu:Tryz.prog.underlying t=some (.slice e)) (hc:Tryz.prog.cellsOf e=sz) (uJ:0 < sz)
  (Lc:∀ {fuel:Nat} {cs:List Value} {x:DataW H×List MemPlace},DataW.trod enc Tryz.prog w 0 (fun _=>true) held fuel e cs=some x→∃ a,E w cs a)
  {v:Value} {d:DataW H} {ps:List MemPlace} {r:_root_.Go.Reach} {b0:Nat} (hv:Value.okWide Tryz.prog w r b0 t v) (h:DataW.Trod enc Tryz.prog w 0 (fun _=>true) held t v d ps):∃ es:List α,eE E sz w v es:=by
 obtain ⟨p,len,cap,rfl⟩:=WideShapes.okWide_slice hu hv
 obtain ⟨fuel,hf⟩:=h
 rcases DataW.trod_slice hu hf with ⟨e,_⟩ | ⟨a,len',cap',elems,rest,n,_,e,_,_,hl,hm,hle,xT,_⟩
 ·simp [Value.cells] at e
  obtain ⟨rfl,rfl,rfl⟩:=e
  exact ⟨[],eE.nil _ _ _⟩
 ·simp [Value.cells] at e
  obtain ⟨rfl,rfl,rfl⟩:=e
  rw [hc] at xT
  have each:∀ i,i < len→∃ q,∃ b off cs,some a=some ⟨b,off,none⟩∧(∀ (j:Nat) (u:Value),cs[j]? =some u→w.cell? ⟨b,off + i * sz + j,none⟩=some u)∧E w cs q:=by
   intro i hi
   obtain ⟨y,hy⟩:∃ y,elems[i]? =some y:=⟨_,List.getElem?_eq_getElem (by omega)⟩
   have hb:=xT i hi
   rw [hy,Option.bind_eq_some_iff] at hb
   obtain ⟨cs,hcs,ht⟩:=hb
   obtain ⟨q,hq⟩:=Lc ht
   obtain ⟨_,hlen,hcell⟩:=World.cells?_some hcs
   obtain ⟨b,off,spot⟩:=a
   have hspot:spot=none:=by
    obtain ⟨y0,JT⟩:∃ y,elems[0]? =some y:=⟨_,List.getElem?_eq_getElem (by omega)⟩
    have oO:=xT 0 (by omega)
    rw [JT,Option.bind_eq_some_iff] at oO
    obtain ⟨cs0,hcs0,ht0⟩:=oO
    obtain ⟨_,hlen0,hcell0⟩:=World.cells?_some hcs0
    have LV:=hcell0 0 uJ
    rw [List.getElem?_eq_getElem (by omega)] at LV
    have g0:=World.cell?_spot LV
    simpa [Addr.add] using g0
   subst hspot
   refine ⟨q,b,off,cs,rfl,fun j u hj=> ?_,hq⟩
   have hjl:j < sz:=by have:=(List.getElem?_eq_some_iff.1 hj).1;omega
   have:=hcell j hjl
   rw [WideShapes.add_plain,WideShapes.add_plain] at this
   rw [this]
   exact hj
  obtain ⟨qs,zL,hqs⟩:=LU len each
  subst zL
  exact ⟨qs,_,_,rfl,hl,hm,fun i q hq=>hqs i q hq⟩
end
end Go.Proofs.YtabalinjfgcfeaaGreat
namespace Go.Proofs.YtabalinjfgcfeaaGreat
open Go.RowKit
def Hp.Jb:Nat→List (TypeId×List AV)→Hp
 | _,[]=>fun _=>none
 | i,c::r=>fun n=>bif Nat.beq n i then some c else Hp.Jb (i + 1) r n
theorem Hp.mJ:∀ (l:List (TypeId×List AV)) (i n:Nat),Hp.Jb i l n=if i≤n then l[n - i]? else none
 | [],i,n=>by unfold Hp.Jb;simp
 | c::r,i,n=>by
   unfold Hp.Jb
   rw [Hp.mJ r (i + 1) n]
   by_cases h:n=i
   ·subst h;simp
   ·have hb:Nat.beq n i=false:=by rw [←Bool.not_eq_true,Nat.beq_eq];exact h
    rw [hb,cond_false]
    by_cases h1:i≤n
    ·rw [if_pos h1,if_pos (by omega),show n - i=(n - (i + 1)) + 1 by omega];rfl
    ·rw [if_neg h1,if_neg (by omega)]
def adB (N:Nat) (ad:List Nat):Nat→Nat:=fun i=>ad.getD (i - 2 * N) 0
structure iG (K:KC) (N:Nat) (ad:List Nat) (l:List (TypeId×List AV)) (w:World):Prop where
 len:ad.length=l.length
 nodup:ad.Nodup
 cls:∀ (j:Nat) (g:Nat) (c:TypeId×List AV),ad[j]? =some g→l[j]? =some c→aW w g c.1 (c.2.map (AV.leaf (adB N ad))).toArray
 ok:∀ c∈l,K.fz c.1=false∧c.2.all aH=true
 ids:∀ c∈l,∀ k∈ax c.2,2 * N≤k∧k < 2 * N + l.length
theorem iG.ad {K:KC} {N:Nat} {ad:List Nat} {l:List (TypeId×List AV)} {w:World} (h:iG K N ad l w):rQ K ad w:=fun g hg=>by
 obtain ⟨j,hj⟩:=List.mem_iff_getElem?.1 hg
 have hlt:=(List.getElem?_eq_some_iff.1 hj).1
 obtain ⟨c,hc⟩:∃ c,l[j]? =some c:=⟨_,List.getElem?_eq_getElem (by rw [←h.len];exact hlt)⟩
 obtain ⟨h1,h2⟩:=h.ok c (List.mem_of_getElem? hc)
 exact ⟨c.1,_,h.cls j g c hj hc,h1,cJ h2⟩
theorem ea (P:Program) (w:World) (N:Nat) (K:KC) (SU:TypeId→Bool) (ti:TypeId→Option TI) (keep:∀ b,b < w.heap.size→K.S b) {ad:List Nat} {l:List (TypeId×List AV)} {us:List Value} {f:FuncId} {fn:Func} {c:Code} {R:Ending→World→Prop} (hf:P.funcs[f]? =some fn) (hb:fn.body=some c) (hN:fn.ntmps=N) (ha:us.length + 1≤N)
  (hl:iG K N ad l w) (h0:0 < l.length)
  (h:VS (Ix P w N K SU ti keep ad hl.nodup hl.ad) (bodyPost P fn R) [.code c] (Fr.Lg 0 (.box (2 * N) 0::us.map .val)) (Hp.Jb (2 * N) l) w):Calls P f (Value.pointer (some ⟨ad.getD 0 0,0,none⟩)::us).toArray w R:=by
 have xT:∀ i c,Hp.Jb (2 * N) l i=some c→2 * N≤i∧l[i - 2 * N]? =some c:=fun i c hi=>by
  rw [Hp.mJ] at hi
  split at hi
  ·exact ⟨by assumption,hi⟩
  ·cases hi
 have hsome:∀ i,Hp.Jb (2 * N) l i≠none→2 * N≤i∧i - 2 * N < l.length:=fun i hi=>by
  cases hh:Hp.Jb (2 * N) l i with
  | none=>exact absurd hh hi
  | some c=>
    obtain ⟨h1,h2⟩:=xT i c hh
    exact ⟨h1,(List.getElem?_eq_some_iff.1 h2).1⟩
 have hval:∀ k,k < ad.length→ad[k]? =some (ad.getD k 0):=fun k hk=>by simp [List.getD_eq_getElem?_getD,hk]
 have:=Cz (C:=Ix P w N K SU ti keep ad hl.nodup hl.ad) (R:=R) (args:=.box (2 * N) 0::us.map .val) (β:=adB N ad) (H:=Hp.Jb (2 * N) l) hf hb hN (by simpa using ha) (fun i t cs hi=> ?_) (fun i j hi hj e=> ?_) ⟨fun i t cs hi=> ?_,fun i t cs hi=> ?_,fun i hi=> ?_⟩ (fun v hv i hi=> ?_) h
 ·have e:(AV.box (2 * N) 0::us.map AV.val).map (AV.aY (adB N ad))=Value.pointer (some ⟨ad.getD 0 0,0,none⟩)::us:=by
   rw [List.map_cons,gO]
   show Value.pointer (some ⟨ad.getD (2 * N - 2 * N) 0,0,none⟩)::us=_
   rw [Nat.sub_self]
  rw [e] at this
  exact this
 ·obtain ⟨h1,h2⟩:=xT i _ hi
  have hlt:=(List.getElem?_eq_some_iff.1 h2).1
  obtain ⟨g1,g2⟩:=hl.ok _ (List.mem_of_getElem? h2)
  have hv:=hval (i - 2 * N) (by rw [hl.len];exact hlt)
  refine ⟨?_,g1,hl.cls _ _ _ hv h2,g2⟩
  show cB N ad w i (adB N ad i)
  unfold cB
  rw [if_pos h1]
  exact hv
 ·obtain ⟨h1,h2⟩:=hsome i hi
  obtain ⟨h3,h4⟩:=hsome j hj
  have e1:=hval (i - 2 * N) (by rw [hl.len];exact h2)
  have e2:=hval (j - 2 * N) (by rw [hl.len];exact h4)
  have e':ad.getD (i - 2 * N) 0=ad.getD (j - 2 * N) 0:=e
  rw [←e'] at e2
  have:=(List.getElem?_inj (by rw [hl.len];exact h2) hl.nodup).1 (e1.trans e2.symm)
  omega
 ·obtain ⟨h1,h2⟩:=xT i _ hi
  exact hl.ok _ (List.mem_of_getElem? h2)
 ·obtain ⟨h1,h2⟩:=xT i _ hi
  intro j hj
  obtain ⟨h3,h4⟩:=hl.ids _ (List.mem_of_getElem? h2) j hj
  rw [Hp.mJ,if_pos h3,List.getElem?_eq_getElem (by omega)]
  simp
 ·have sQ:2 * N + ad.length≤i:=hi
  rw [Hp.mJ]
  split
  ·exact List.getElem?_eq_none (by rw [←hl.len];omega)
  ·rfl
 ·rcases List.mem_cons.1 hv with rfl | hv
  ·have:i=2 * N:=by simpa [AV.ids] using hi
   rw [this,Hp.mJ,if_pos (Nat.le_refl _),Nat.sub_self,List.getElem?_eq_getElem h0];simp
  ·obtain ⟨u,_,rfl⟩:=List.mem_map.1 hv
   cases hi
theorem eb {P:Program} {w w':World} {N:Nat} {K:KC} {SU:TypeId→Bool} {ti:TypeId→Option TI} {keep:∀ b,b < w.heap.size→K.S b} {ad:List Nat} {hd:ad.Nodup} {ha:rQ K ad w} {β:Nat→Nat} {i:Nat} {t:TypeId} {cs:List AV} (h:lQ (Ix P w N K SU ti keep ad hd ha) β w' i t cs) (j g:Nat) (hi:i=2 * N + j) (hj:ad[j]? =some g):β i=g∧aW w' g t (cs.map (AV.leaf β)).toArray:=by
 have h1:cB N ad w i (β i):=h.new
 unfold cB at h1
 rw [if_pos (by omega),hi,Nat.add_sub_cancel_left,hj] at h1
 have h2:g=β i:=by rw [hi];simpa using h1
 exact ⟨h2.symm,h2▸h.cls⟩
end Go.Proofs.YtabalinjfgcfeaaGreat
namespace Go.Proofs.YtabalinjfgcfeaaGreat
open Go.RowKit
section
variable {C:Cx} {F:Fr} {H:Hp} {w:World} {m:Option (List FuncId)} {full:Array Oper} {K:Fr→Hp→World→Prop} {o:Oper} {r:List Oper} {Q:Exit→Act→World→Prop} {k:List It}
def xr (F:Fr) (β:Nat→Nat):List (Nat×AV)→Prop
 | []=>True
 | p::r=>(∃ u x,F p.1=some u∧u.aY β=x∧p.2=.val x)∧xr F β r
theorem xr.mem {β:Nat→Nat}:∀ {L:List (Nat×AV)} {d:Nat} {v:AV},xr F β L→(d,v)∈L→∃ u x,F d=some u∧u.aY β=x∧v=.val x
 | p::r,d,v,h,hm=>by
   rcases List.mem_cons.1 hm with rfl | hm
   ·exact h.1
   ·exact xr.mem h.2 hm
theorem VS.LW (D:World→Cx) (hP:∀ w,(D w).P=C.P) (hN:∀ w,(D w).N=C.N) (hO:∀ w,(D w).Old w)
  (h:∀ w' β,aE C.K w w'→C.Old w'→Ends C β H w'→∃ L:List (Nat×AV),xr F β L∧VS (D w') Q k (Fr.of L) (fun _=>none) w'):VS C Q k F H w:=fun β a w' hr hk=>by
 obtain ⟨L,hL,hv⟩:=h w' β hk hr.old ⟨hr.own,hr.apart⟩
 have:=hv β a w' ⟨hr.defers,by rw [hN];exact hr.size,fun d v hd=> ?_,fun i t cs hi=>(by cases hi),fun i j hi=>absurd rfl hi,fun d v hd i hi=> ?_,fun d v hd=> ?_,⟨fun i t cs hi=>(by cases hi),fun i t cs hi=>(by cases hi),fun i hi=>rfl⟩,hO w'⟩ (aE.refl _ _)
 ·rw [hP] at this
  exact this
 ·obtain ⟨u,x,h1,rfl,rfl⟩:=hL.mem (Fr.fH hd)
  exact hr.tmp d u h1
 ·obtain ⟨u,x,h1,rfl,rfl⟩:=hL.mem (Fr.fH hd)
  cases hi
 ·obtain ⟨u,x,h1,rfl,rfl⟩:=hL.mem (Fr.fH hd)
  rw [hN];exact hr.fits d u h1
end
end Go.Proofs.YtabalinjfgcfeaaGreat
namespace Go.Proofs.YtabalinjfgcfeaaGreat
open Go.RowKit
section
variable {C:Cx} {F:Fr} {H:Hp} {w:World} {m:Option (List FuncId)} {full:Array Oper} {K:Fr→Hp→World→Prop} {o:Oper} {r:List Oper}
theorem VO.appO (hC:C.Ok) {t e:TypeId} {it ie:TI} {sz n c mm off i:Nat} {x y:Operand} {src:AV} {pre known spare news:List AV} {dst:Nat}
  (e0:stepOf C full F H o=.call (.op o [.row i off n c,src])) (ho:o.op=.call { callee:=.builtin .append,args:=#[x,y],argTypes:=#[t,t] })
  (hit:C.ti t=some it) (Lc:it.elem=some (e,sz)) (Gn:C.ti e=some ie) (hU:C.K.fz e=false) (hzo:ie.zero.cells.toList.all aU=true)
  (hd:o.dst=some dst) (hN:dst < C.N) (hl:lvl C.SU m o=2)
  (hH:H i=some (e,pre++(known++spare))) (hpre0:pre.length=off∨(c=0∧0 < mm))
  (iQ:H dst=none∨some i=some dst) (hk:known.length=n * sz) (hsp:(known++spare).length=c * sz) (eT:n≤c) (eV:c≤9223372036854775807)
  (fu:ax known=[]∧ax spare=[]∧ax news=[]) (hlidp:ax pre=[]) (fR:known.all aH=true∧spare.all aH=true∧news.all aH=true) (hokp:pre.all aH=true) (za:news.length=mm * sz) (iJ:(n + mm) * (24 * sz)≤140737488355328)
  (Cv:∀ w1 β,aE C.K w w1→C.Old w1→lR C β H (fy [.row i off n c,src]) w1→∃ p cc,src.aY β=.slice p mm cc∧(mm=0∨∃ b off,p=some ⟨b,off,none⟩∧∀ j u,(news.map (AV.leaf β))[j]? =some u→w1.cell? ⟨b,off + j,none⟩=some u))
  (hK:∀ w2 aR bL cap ak ρ,aE C.K w w2→C.Old w2→(∀ x,aU (ρ x)=true)→bL.length=aR→bL.all aH=true→ax bL=[]→n + mm≤cap→cap≤9223372036854775807→((known++news)++ak).length=cap * sz→ak.all aH=true→ax ak=[]→
   aB C m full r K ((F.forget (some i) ρ).bD o.dst (.row dst aR (n + mm) cap)) ((H.forget (some i) ρ).put dst (e,bL++((known++news)++ak))) w2):aB C m full (o::r) K F H w:=by
 obtain ⟨base,ja⟩:∃ base,base=AV.row i off n c:=⟨_,rfl⟩
 obtain ⟨del,hdel⟩:∃ del,del=some i:=⟨_,rfl⟩
 rw [←ja] at e0 Cv
 rw [←hdel] at iQ hK
 show one C m full o (aB C m full r K) F H w
 unfold one
 rw [e0]
 intro w1 β h1 h2 h3
 obtain ⟨hu,hsz⟩:=(hC t it hit).isSlice e sz Lc
 have zb:=hC e ie Gn
 cases qo:C.P.info? e with
 | none=>have:=zb.size;rw [qo] at this;simp at this
 | some ti=>
   have Gt:ti.size=ie.size:=by have:=zb.size;rw [qo] at this;simpa using this
   have lj:ti.zero=some ie.zero:=by have:=zb.bT;rw [qo] at this;simpa using this
   have aV:ti.bytes≤24 * ie.size:=Nat.le_of_ble_eq_true (by have:=zb.bytes;rw [qo] at this;simpa using this)
   have zY:sz=ti.size:=by
    have:=hsz w1
    simp [sizeOf,typeInfo,qo] at this
    exact this.symm
   have uJ:0 < sz:=by rw [zY,Gt];exact zb.pos
   have JB:ie.zero.cells.size=sz:=by rw [zb.bQ,zY,Gt]
   have hcap:n + mm≤140737488355328:=by
    have:(n + mm) * 24≤(n + mm) * (24 * sz):=Nat.mul_le_mul_left _ (by omega)
    omega
   have Eb:(n + mm) * ti.bytes≤140737488355328:=Nat.le_trans (Nat.mul_le_mul_left _ (by rw [zY,Gt];exact aV)) iJ
   obtain ⟨p,cc,hsc,hsp2⟩:=Cv w1 β h1 h2 h3
   have hS:Src C.P ti.size t (.slice p mm cc) mm (news.map (AV.leaf β)) w1:=by
    have yj:∀ u∈news.map (AV.leaf β),u.oneCell'=true:=fun u hu=>qi (List.all_eq_true.1 (cJ (β:=β) fR.2.2) u hu)
    rcases hsp2 with rfl | ⟨b,off,rfl,hc⟩
    ·have:news=[]:=List.eq_nil_of_length_eq_zero (by simpa using za)
     subst this
     cases p with
     | none=>exact Src.ofNil w1 hu cc
     | some a=>exact Src.ofSlice w1 hu a 0 cc [] (by simp) (fun j u hj=>by simp at hj) yj
    ·refine Src.ofSlice w1 hu ⟨b,off,none⟩ mm cc _ (by rw [List.length_map,za,zY]) (fun j u hj=> ?_) yj
     rw [Addr.add_mid]
     exact hc j u hj
   have Ld:∀ ρ:Operand→Value,o.op.operands.toList.map ρ=[base,src].map (AV.aY β)→ρ x=base.aY β∧ρ y=.slice p mm cc:=fun ρ h=>by
    rw [ho] at h
    simp [Op.operands,Call.operands] at h
    exact ⟨h.1,h.2.trans hsc⟩
   have hrun:∀ {v:Value} {w2:World},(Builtin.append_ #[t,t] o.type #[base.aY β,.slice p mm cc]).run C.P w1=.ok v w2→∀ ρ:Operand→Value,o.op.operands.toList.map ρ=[base,src].map (AV.aY β)→(execOp ρ o).run C.P w1=.ok (.value v) w2:=fun {v w2} hv ρ fC=>by
    obtain ⟨q1,q2⟩:=Ld ρ fC
    unfold execOp
    simp only [ho,resolve,invoke,builtin,Sem.run_bind,Sem.run_pure,Result.andThen_ok,List.map_toArray,List.map_cons,List.map_nil,q1,q2,hv]
   have hg:∀ i,del=some i→Reach H (fy [base,src]) i∧H i≠none:=fun i' hi=>by
    rw [hdel] at hi;cases hi
    exact ⟨.base (by rw [ja];simp [fy,AV.ids]),by rw [hH];simp⟩
   have fin:∀ (w2:World) (b aR cap:Nat) (bL ak:List AV),bL.length=aR→bL.all aH=true→ax bL=[]→(∀ ρ:Operand→Value,o.op.operands.toList.map ρ=[base,src].map (AV.aY β)→(execOp ρ o).run C.P w1=.ok (.value (.slice (some ⟨b,aR,none⟩) (n + mm) cap)) w2)→
     w2.os=w1.os→w2.tape=w1.tape→w2.output=w1.output→w1.heap.size≤w2.heap.size→(∀ q,q < w1.heap.size→q≠b→w2.heap[q]? =w1.heap[q]?)→(w1.heap.size≤b∨∃ i,del=some i∧b=β i)→
     n + mm≤cap→cap≤9223372036854775807→((known++news)++ak).length=cap * sz→ak.all aH=true→ax ak=[]→aW w2 b e ((bL++((known++news)++ak)).map (AV.leaf β)).toArray→
     sZ C.P (.op o [base,src]) β w1 fun e w2=>∃ bG r' del ups,e=.returned (r'.aY bG)∧(∀ i∈r'.ids,i∈ups.map (·.1)∨(Reach H (eg.op o [base,src]).ids i∧H i≠none∧del≠some i))∧(1≤lvl C.SU m o∨ups=[])∧(2≤lvl C.SU m o∨del=none)∧
      wE C β bG H (eg.op o [base,src]).ids del ups w1 w2∧(aE C.K w w2→aE C.K w1 w2→C.Old w2→∀ ρ,(∀ x,aU (ρ x)=true)→aB C m full r K ((F.forget del ρ).bD o.dst r') ((H.forget del ρ).eM ups) w2):=by
    intro w2 b aR cap bL ak p1 p2 p3 hrun q1 q2 q3 q4 q5 q6 q7 q8 q9 q10 q11 q12
    let bG:Nat→Nat:=fun i=>if i=dst then b else β i
    have oQ:bG dst=b:=if_pos rfl
    have mo:(bL++((known++news)++ak)).all aH=true:=by simp only [List.all_append,fR.1,fR.2.2,q10,p2];rfl
    have gr:ax (bL++((known++news)++ak))=[]:=by rw [cA,cA,cA,fu.1,fu.2.2,q11,p3];rfl
    have Cw:C.yI dst b:=by
     rcases q6 with e | ⟨i,hi,e⟩
     ·exact C.rE _ _ (by omega) (by have:=C.ey _ h2;omega)
     ·obtain ⟨g1,g2⟩:=hg i hi
      cases hh:H i with
      | none=>exact absurd hh g2
      | some c'=>rw [e];exact C.BK i dst _ (h3.own i g1 c'.1 c'.2 hh).new (by omega)
    have yB:∀ i,del=some i→w2.heap[β i]? =w1.heap[β i]?∨∃ x∈[(dst,(e,bL++((known++news)++ak)))],bG x.1=β i:=fun i hi=>by
     by_cases e':β i=b
     ·exact .inr ⟨_,List.mem_singleton.2 rfl,oQ.trans e'.symm⟩
     ·obtain ⟨g1,g2⟩:=hg i hi
      cases hh:H i with
      | none=>exact absurd hh g2
      | some c'=>exact .inl (q5 _ (h3.own i g1 c'.1 c'.2 hh).cls.lt e')
    refine ⟨_,w2,fun ρ fC=>.inl (hrun ρ fC),bG,.row dst aR (n + mm) cap,del,[(dst,(e,bL++((known++news)++ak)))],?_,fun i hi=>.inl (by simpa [AV.ids] using hi),.inl (by omega),.inl (by omega),?_,fun a1 a2 a3 ρ fC=>hK w2 aR bL cap ak ρ a1 a3 fC p1 p2 p3 q7 q8 q9 q10 q11⟩
    ·show Ending.returned _=.returned (Value.slice (some ⟨bG dst,aR,none⟩) (n + mm) cap);rw [oQ]
    ·refine ⟨q1,q2,q3,q4,fun k hk hx iV _=>q5 k hk (by have:=hx _ (List.mem_singleton.2 rfl);simpa [oQ] using this),fun i hi=>if_neg (by simpa using hi),hg,fun i hi=>(yB i hi).imp .inl id,fun x hx=> ?_,fun x hx=> ?_,by simp,fun x hx y hy _=> ?_,fun x hx j hj=> ?_⟩
     ·cases List.mem_singleton.1 hx
      refine ⟨by rw [oQ];exact Cw,hU,?_,mo⟩
      rw [oQ,gN (β:=β) (fun i hi=>by rw [gr] at hi;cases hi)]
      exact q12
     ·cases List.mem_singleton.1 hx
      refine .inr ⟨iQ,by omega,?_⟩
      rcases q6 with e | ⟨i,hi,e⟩
      ·exact .inl (by rw [oQ];exact e)
      ·exact .inr ⟨i,hi,by rw [oQ];exact e⟩
     ·cases List.mem_singleton.1 hx;cases List.mem_singleton.1 hy;rfl
     ·cases List.mem_singleton.1 hx
      rw [gr] at hj;cases hj
   have grow:c < n + mm→(∃ bp,base.aY β=.slice bp n c∧(Builtin.firstCells ti.size n (.slice bp n c)).run C.P w1.drew=.ok (known.map (AV.leaf β)).toArray w1.drew)→sZ C.P (.op o [base,src]) β w1 fun e w2=>∃ bG r' del ups,e=.returned (r'.aY bG)∧(∀ i∈r'.ids,i∈ups.map (·.1)∨(Reach H (eg.op o [base,src]).ids i∧H i≠none∧del≠some i))∧(1≤lvl C.SU m o∨ups=[])∧(2≤lvl C.SU m o∨del=none)∧
      wE C β bG H (eg.op o [base,src]).ids del ups w1 w2∧(aE C.K w w2→aE C.K w1 w2→C.Old w2→∀ ρ,(∀ x,aU (ρ x)=true)→aB C m full r K ((F.forget del ρ).bD o.dst r') ((H.forget del ρ).eM ups) w2):=by
    rintro KY ⟨bp,hbp,hfc⟩
    have hr:=run_append_grow_src (P:=C.P) w1 t t o.type e ti ie.zero hu qo lj bp n c (known.map (AV.leaf β)) hfc (.slice p mm cc) mm (news.map (AV.leaf β)) hS KY (by omega) (growslice_fits KY Eb)
    obtain ⟨zs,lO,hz3,hz4⟩:=lW ie.zero (grownCap w1 (n + mm) c e - (n + mm))
    have hge:=grownCap_ge w1 (n + mm) c e
    have hle:=grownCap_le_maxLen w1 (n + mm) c e (by simp only [maxLen];omega)
    rw [lO] at hr
    have wU:aj w1 (w1.drew.alloc (.cells ((known.map (AV.leaf β)++news.map (AV.leaf β)).toArray++zs.toArray) e)):=(aj.refl w1).drew.alloc _
    refine fin _ w1.heap.size 0 (grownCap w1 (n + mm) c e) [] (zs.map .val) rfl rfl rfl (hrun (by rw [hbp];exact hr)) wU.os wU.tape wU.output wU.size (fun q hq _=>Below.block wU q hq) (.inl (Nat.le_refl _)) hge (by simpa [maxLen] using hle) ?_ (bb (hz4 hzo)) (ao zs) ?_
    ·rw [List.length_append,List.length_append,List.length_map,hk,za,hz3,JB,←Nat.add_mul,←Nat.add_mul]
     congr 1
     omega
    ·have:(((known++news)++zs.map AV.val).map (AV.leaf β)).toArray=(known.map (AV.leaf β)++news.map (AV.leaf β)).toArray++zs.toArray:=by
      rw [List.map_append,List.map_append,ah]
      apply Array.ext'
      rw [Array.toList_append]
     rw [List.nil_append,this]
     exact aW.newAt (w:=w1.drew) rfl _ _
   have hki:pre++(known++spare)=(pre++known)++spare:=(List.append_assoc _ _ _).symm
   have hcn:base.aY β=.slice (some ⟨β i,off,none⟩) n c:=by rw [ja];rfl
   obtain ⟨g1,g2,g3,g4⟩:=h3.own i (.base (List.mem_append_left _ (by rw [ja];exact List.mem_singleton.2 rfl))) e _ hH
   by_cases hroom:n + mm≤c
   ·have pH:pre.length=off:=hpre0.resolve_right (fun h=>by omega)
    have DR:(pre++known).length=off + n * sz:=by rw [List.length_append,pH,hk]
    have yo:known.length + spare.length=c * sz:=by rw [←List.length_append];exact hsp
    have hmul:n * sz + mm * sz≤c * sz:=by rw [←Nat.add_mul];exact Nat.mul_le_mul_right _ hroom
    have hfit:off + n * sz + news.length≤(pre++(known++spare)).length:=by rw [List.length_append,hsp,za,pH];omega
    have hr:=run_append_room_src (P:=C.P) w1 t t o.type e ti hu qo (β i) off n c (.slice p mm cc) mm (news.map (AV.leaf β)) hS hroom (fun j hj=>by
      rw [List.length_map] at hj
      obtain ⟨z,hz⟩:∃ z,((pre++(known++spare)).map (AV.leaf β))[off + n * ti.size + j]? =some z:=⟨_,List.getElem?_eq_getElem (by rw [List.length_map,←zY];omega)⟩
      rw [g3.cell (u:=z) (by simpa using hz)];rfl)
     (fun j _=>g3.frozen _)
    rw [←zY] at hr
    obtain ⟨k1,k2,k3,k4⟩:=jC (K:=C.K) (news.map (AV.leaf β)) (off + n * sz) w1 ((pre++(known++spare)).map (AV.leaf β)) g3 g2 (cJ g4) (cJ fR.2.2)
    obtain ⟨s1,s2,s3,_⟩:=iX (b:=β i) (news.map (AV.leaf β)) (off + n * sz) w1
    refine fin _ (β i) off c pre (spare.drop (mm * sz)) pH hokp hlidp (hrun (by rw [hcn];exact hr)) s1 s2 s3 k1.size (fun q _ hq=>ir _ _ _ q hq) (.inr ⟨i,hdel,rfl⟩) hroom eV ?_ ?_ ?_ ?_
    ·simp only [List.length_append,List.length_drop] at hsp hfit ⊢
     omega
    ·exact List.all_eq_true.2 fun x hx=>List.all_eq_true.1 fR.2.1 x (List.mem_of_mem_drop hx)
    ·rw [List.eq_nil_iff_forall_not_mem]
     intro j hj
     obtain ⟨v,hv,hj'⟩:=aQ.1 hj
     have:j∈ax spare:=aQ.2 ⟨v,List.mem_of_mem_drop hv,hj'⟩
     rw [fu.2.1] at this;cases this
    ·rw [mB _ _ _ (by simp only [List.length_map];omega)] at k2
     have:((pre++(known++spare)).map (AV.leaf β)).take (off + n * sz)++(news.map (AV.leaf β)++((pre++(known++spare)).map (AV.leaf β)).drop (off + n * sz + (news.map (AV.leaf β)).length))=((pre++((known++news)++spare.drop (mm * sz))).map (AV.leaf β)):=by
      rw [hki,List.length_map,za,←List.map_take,←List.map_drop,←DR,List.take_left',List.drop_append]
      ·rw [List.drop_of_length_le (by omega)]
       simp [List.map_append]
      ·rfl
     rw [this] at k2
     exact k2
   ·refine grow (by omega) ⟨some ⟨β i,off,none⟩,hcn,?_⟩
    refine run_firstCells_some w1.drew ti.size n ⟨β i,off,none⟩ n c (known.map (AV.leaf β)) (by rw [List.length_map,hk,zY]) (fun j u hj=> ?_)
    rw [Addr.add_mid]
    have hlt:=(List.getElem?_eq_some_iff.1 hj).1
    have pH:pre.length=off:=hpre0.resolve_right (fun h=>by
     rw [List.length_map,hk] at hlt
     have:n=0:=by omega
     rw [this] at hlt;omega)
    have:w1.cell? ⟨β i,off + j,none⟩=some u:=g3.cell (by
     rw [List.map_append,List.map_append]
     rw [List.getElem?_toArray,List.getElem?_append_right (by rw [List.length_map];omega),List.length_map,pH,Nat.add_sub_cancel_left,List.getElem?_append_left hlt]
     exact hj)
    exact this
end
end Go.Proofs.YtabalinjfgcfeaaGreat
namespace Go.Proofs.YtabalinjfgcfeaaGreat
open Go.RowKit
def mc (o:Oper):Bool:=match o.op with | .defer _=>false | _=>true
def iz (F:Fence):Prop:=F=Fence.wide∨∃ l,F=Fence.wide.inRound l
theorem iz.wide:iz Fence.wide:=.inl rfl
section
variable {Fe:Fence} {n:Nat} {P:Program} {o:Oper} {a:Act} {w:World} {K:Act→World→Prop} {Q:Exit→Act→World→Prop}
theorem iz.fn (h:iz Fe) (f:FuncId):Fe.fn f:=by rcases h with rfl | ⟨l,rfl⟩ <;> trivial
theorem iz.depth (h:iz Fe):Fe.depth=none:=by rcases h with rfl | ⟨l,rfl⟩ <;> rfl
theorem iz.calls (h:iz Fe) {f:FuncId} {args:Array Value} {R:Ending→World→Prop} (hc:Calls P f args w R):CallsIn Fe n P f args w R:=by
 have:=(callsIn_wide (n:=n)).2 hc
 rcases h with rfl | ⟨l,rfl⟩
 ·exact this
 ·exact this
theorem iz.rows (h:iz Fe) {r:String} {args:Array Value} {R:Value→World→Prop} (hc:Rows P r args w R):RowsIn Fe n P r args w R:=by
 have:RowsIn Fence.wide n P r args w R:=fun c cs _=>let ⟨v,w',r,s⟩:=hc c cs;⟨v,w',r,stepsIn_wide.2 s⟩
 rcases h with rfl | ⟨l,rfl⟩
 ·exact this
 ·exact this
theorem iz.upon (h:iz Fe) {r:Result Next} (hu:o.upon P a K Q r):o.uponIn Fe n P a K Q r:=by
 have hd:Fe.depth.isSome=true→1≤n:=fun e=>by rw [h.depth] at e;cases e
 cases r with
 | ok x w'=>
   cases x with
   | value v=>exact hu
   | skip=>exact hu
   | defer d=>exact hu
   | enter f args=>exact ⟨hd,h.calls hu⟩
   | row r args=>exact ⟨hd,h.rows hu⟩
   | round l f tmps assign body=>exact hu.elim
   | _=>exact hu.elim
 | halt x w'=>
   cases x with
   | panic v=>exact hu
   | _=>exact hu.elim
theorem iz.sem (h:iz Fe) (hd:mc o=true):o.semAt Fe.round a.eval=execOp a.eval o:=by
 rcases h with rfl | ⟨l,rfl⟩
 ·rfl
 ·exact Oper.semAt_some l _ _ fun c e=>by unfold mc at hd;rw [e] at hd;cases hd
theorem iz.op (h:iz Fe) (hd:mc o=true) (hw:o.wp P a w K Q):o.wpIn Fe n P a w K Q:=by
 refine ⟨fun f _=>h.fn f,?_⟩
 rw [h.sem hd]
 exact h.upon hw
end
section
variable {Fe:Fence} {n:Nat} {C:Cx} {Q:Exit→Act→World→Prop} {ml:List FuncId} {full:Array Oper}
theorem uB (hB:iz Fe) (hC:C.Ok) {m:Option (List FuncId)} {K:Fr→Hp→World→Prop} {tl:List Oper} (hQ:∀ β F H w a w',K F H w→Rel C β F H a w'→aE C.K w w'→wpListIn Fe n C.P full Q tl a w'):
  ∀ (l:List Oper),l.all mc=true→∀ (β:Nat→Nat) (F:Fr) (H:Hp) (w:World) (a:Act) (w':World),aB C m full l K F H w→Rel C β F H a w'→aE C.K w w'→wpListIn Fe n C.P full Q (l++tl) a w'
 | [],_,β,F,H,w,a,w',h,hr,hk=>hQ β F H w a w' h hr hk
 | o::r,hd,β,F,H,w,a,w',h,hr,hk=>by
   rw [List.all_cons,Bool.and_eq_true] at hd
   show wpListIn Fe n C.P full Q (o::(r++tl)) a w'
   refine wpListIn_step fun K' hK'=> ?_
   have:=oW hC (next:=K') (Q:=Q) (k:=aB C m full r K) h hr hk fun bG F' H' w1 a' ug h1 h2 h3=>hK' _ _ (uB hB hC hQ r hd.2 bG F' H' w1 a' ug h1 h2 h3)
   split at this
   ·rename_i hw;rw [if_pos hw];exact hB.op hd.1 this
   ·rename_i hw;rw [if_neg hw];exact ⟨fun f _=>hB.fn f,this⟩
end
section
variable {Fe:Fence} {C:Cx} {Q:Exit→Act→World→Prop} {k:List It} {F F':Fr} {H H':Hp} {w:World} {id:Nat} {ops:Array Oper} {l':List Oper}
end
def Fr.vals (L:List (Nat×Value)):Fr:=Fr.of (L.map fun p=>(p.1,.val p.2))
def Dc (F:Fr):List (Nat×Value)→Prop
 | []=>True
 | p::r=>F p.1=some (.val p.2)∧Dc F r
theorem Dc.mem {F:Fr}:∀ {L:List (Nat×Value)} {p:Nat×Value},Dc F L→p∈L→F p.1=some (.val p.2)
 | q::r,p,h,hm=>by
   rcases List.mem_cons.1 hm with rfl | hm
   ·exact h.1
   ·exact Dc.mem h.2 hm
theorem xt {L:List (Nat×Value)} {d:Nat} {v:AV} (h:Fr.vals L d=some v):∃ u,v=.val u∧(d,u)∈L:=by
 have:=Fr.fH h
 obtain ⟨p,hp,e⟩:=List.mem_map.1 this
 cases e
 exact ⟨p.2,rfl,hp⟩
structure Knows (N:Nat) (L:List (Nat×Value)) (a:Act):Prop where
 defers:a.defers=[]
 size:a.tmps.size=N
 tmp:∀ p∈L,p.1 < N∧a.tmps.getD p.1 undef=p.2
theorem Knows.rel {C:Cx} {L:List (Nat×Value)} {a:Act} {w:World} (h:Knows C.N L a) (ho:C.Old w):Rel C (fun _=>0) (Fr.vals L) (fun _=>none) a w:=
 ⟨h.defers,h.size,fun d v hd=>by obtain ⟨u,rfl,hm⟩:=xt hd;exact (h.tmp _ hm).2,fun i t cs hi=>(by cases hi),fun i j hi=>absurd rfl hi,fun d v hd i hi=>(by obtain ⟨u,rfl,hm⟩:=xt hd;cases hi),fun d v hd=>(by obtain ⟨u,rfl,hm⟩:=xt hd;exact (h.tmp _ hm).1),⟨fun i t cs hi=>(by cases hi),fun i t cs hi=>(by cases hi),fun i hi=>rfl⟩,ho⟩
theorem Rel.knows {C:Cx} {β:Nat→Nat} {F:Fr} {H:Hp} {a:Act} {w:World} {L:List (Nat×Value)} (hr:Rel C β F H a w) (hL:Dc F L):Knows C.N L a:=
 ⟨hr.defers,hr.size,fun p hp=>⟨hr.fits _ _ (hL.mem hp),hr.tmp _ _ (hL.mem hp)⟩⟩
def LX (N:Nat) (J:Nat→List (Nat×Value)→World→Prop) (n:Nat) (a:Act) (w:World):Prop:=∃ L,J n L w∧Knows N L a
section
variable {C:Cx} {Q:Exit→Act→World→Prop} {k:List It} {F:Fr} {H:Hp} {w:World} {J:Nat→List (Nat×Value)→World→Prop}
theorem VS.loopR (D:World→Cx) (hP:∀ w,(D w).P=C.P) (hN:∀ w,(D w).N=C.N) (hO:∀ w,(D w).Old w) (n0:Nat) {body:Code} (h0:∀ w',aE C.K w w'→C.Old w'→∃ L,Dc F L∧J n0 L w')
  (round:∀ n L W,J n L W→VS (D W) Q (.code body::.back (fun a w=>∃ m,m < n∧LX C.N J m a w)::k) (Fr.vals L) (fun _=>none) W):VS C Q (.code (.loop body)::k) F H w:=fun β a w' hr hk=>by
 obtain ⟨L,h1,h2⟩:=h0 w' hk hr.old
 refine wp_loop_ghost (LX C.N J) n0 ⟨L,h2,hr.knows h1⟩ ?_
 rintro n a1 w1 ⟨L1,hJ,rh⟩
 have hkn':Knows (D w1).N L1 a1:=by rw [hN];exact rh
 have:=round n L1 w1 hJ _ a1 w1 (hkn'.rel (hO w1)) (aE.refl _ _)
 rw [hP] at this
 exact this
theorem VS.backR {n N:Nat} (hN:C.N=N) (m:Nat) (hm:m < n) (L:List (Nat×Value)) (hL:Dc F L) (h:∀ w',aE C.K w w'→C.Old w'→J m L w'):VS C Q (.back (fun a w=>∃ m,m < n∧LX N J m a w)::k) F H w:=fun β a w' hr hk=>by
 subst hN
 exact ⟨m,hm,L,h w' hk hr.old,hr.knows hL⟩
theorem VS.ky (hC:C.Ok) {fn:Func} {R:Ending→World→Prop} {vs:List AV} (h:ox C F H fn.results.toList=some vs) (hR:∀ w' β,aE C.K w w'→C.Old w'→Ends C β H w'→R (.returned (iC (vs.map (AV.aY β)))) w'):VS C (bodyPost C.P fn R) [] F H w:=
 fun β a w' hr hk=>⟨hr.defers,_,ui hC hr h,hR w' β hk hr.old ⟨hr.own,hr.apart⟩⟩
end
section
variable {C:Cx} {F:Fr} {H:Hp} {w:World} {Q:Exit→Act→World→Prop} {k:List It}
end
theorem qA.bj {w w1 W:World} {ad:List Nat} (h:aj w w1) (k:qA ad w1 W) (hg:∀ g∈ad,w.heap.size≤g):aj w W:=
 Below.trans h ⟨k.os,k.tape,k.output,k.size,fun g Ht=>k.nh g (Nat.lt_of_lt_of_le Ht h.size) fun hm=>by have:=hg g hm;omega⟩
end Go.Proofs.YtabalinjfgcfeaaGreat
namespace Go.Proofs.YtabalinjfgcfeaaGreat
open Go.RowKit
abbrev Vq:=Nat×Rat
abbrev Uq:=Nat×Nat×Rat
def ai (a b:Rat):Rat:=if b < a then b else a
theorem gR (a b:Rat):jA uz a [b]=ai a b:=by
 show (if uz b a=true then b else a)=_
 unfold ai
 by_cases h:b < a
 ·rw [if_pos (zm.2 h),if_pos h]
 ·rw [if_neg (fun e=>h (zm.1 e)),if_neg h]
theorem di (a b:Rat):ai a b≤a:=by unfold ai;split <;> grind
theorem cd (a b:Rat):ai a b≤b:=by unfold ai;split <;> grind
theorem cR (a b:Rat):(ai a b=a∧a≤b)∨(ai a b=b∧b < a):=by unfold ai;split <;> grind
structure aN where
 eJ:Rat
 allowed:Rat
 bl:Rat
 used:Rat
 bU:Rat
 aZ:Rat
 closing:Rat
deriving DecidableEq
def nH (y:Nat):List Vq→Rat→List Uq
 | [],_=>[]
 | p::q,m=>if 0 < m then (p.1,y,ai p.2 m)::(if p.2 - ai p.2 m=0 then nH y q (m - ai p.2 m) else []) else []
def kW:List Vq→Rat→List Vq
 | [],_=>[]
 | p::q,m=>if 0 < m then (if p.2 - ai p.2 m=0 then kW q (m - ai p.2 m) else (p.1,p.2 - ai p.2 m)::q) else p::q
def qW:List Vq→Rat→Rat
 | [],_=>0
 | p::q,m=>if 0 < m then ai p.2 m + (if p.2 - ai p.2 m=0 then qW q (m - ai p.2 m) else 0) else 0
theorem gw (y:Nat) (q:List Vq) {m:Rat} (h:¬ 0 < m):nH y q m=[]:=by cases q with | nil=>rfl | cons p q=>unfold nH;rw [if_neg h]
theorem fK (q:List Vq) {m:Rat} (h:¬ 0 < m):kW q m=q:=by cases q with | nil=>rfl | cons p q=>unfold kW;rw [if_neg h]
theorem gz (q:List Vq) {m:Rat} (h:¬ 0 < m):qW q m=0:=by cases q with | nil=>rfl | cons p q=>unfold qW;rw [if_neg h]
theorem fM {y:Nat} {p:Vq} {q:List Vq} {m:Rat} (hm:0 < m) (h:p.2 - ai p.2 m≠0):¬ 0 < m - ai p.2 m∧nH y (p::q) m=[(p.1,y,ai p.2 m)]∧kW (p::q) m=(p.1,p.2 - ai p.2 m)::q∧qW (p::q) m=ai p.2 m:=by
 refine ⟨?_,?_,?_,?_⟩
 ·rcases cR p.2 m with ⟨e,_⟩ | ⟨e,_⟩
  ·rw [e] at h;exact absurd (by grind) h
  ·rw [e];grind
 ·unfold nH;rw [if_pos hm,if_neg h]
 ·unfold kW;rw [if_pos hm,if_neg h]
 ·unfold qW;rw [if_pos hm,if_neg h];grind
theorem fN {y:Nat} {p:Vq} {q:List Vq} {m:Rat} (hm:0 < m) (h:p.2 - ai p.2 m=0):nH y (p::q) m=(p.1,y,ai p.2 m)::nH y q (m - ai p.2 m)∧kW (p::q) m=kW q (m - ai p.2 m)∧qW (p::q) m=ai p.2 m + qW q (m - ai p.2 m):=by
 refine ⟨?_,?_,?_⟩
 ·conv=>lhs;unfold nH
  rw [if_pos hm,if_pos h]
 ·conv=>lhs;unfold kW
  rw [if_pos hm,if_pos h]
 ·conv=>lhs;unfold qW
  rw [if_pos hm,if_pos h]
structure Dd where
 q:List Vq
 rows:List aN
 uses:List Uq
def aD (S F e:Rat):Rat:=jA jz F [S * e,0]
def dD (S F:Rat) (q:List Vq) (y:Rat×Rat):aN:=
 ⟨aD S F y.2,ai y.1 (aD S F y.2),y.1 - ai y.1 (aD S F y.2),qW q (aD S F y.2 - ai y.1 (aD S F y.2)),ai y.1 (aD S F y.2) + qW q (aD S F y.2 - ai y.1 (aD S F y.2)),0,0⟩
def kA (jo:Nat) (d:Rat) (q:List Vq):List Vq:=if 0 < d then q++[(jo,d)] else q
def rZ (keep jo:Nat) (s:Dd):Dd:=match s.q with
 | p::q=>if p.1 + keep=jo then ⟨q,s.rows.modify p.1 (fun r=>{ r with aZ:=p.2 }),s.uses⟩ else s
 | []=>s
def dk (S F:Rat) (keep jo:Nat) (s:Dd) (y:Rat×Rat):Dd:=
 rZ keep jo ⟨kA jo (dD S F s.q y).bl (kW s.q (aD S F y.2 - ai y.1 (aD S F y.2))),s.rows++[dD S F s.q y],s.uses++nH jo s.q (aD S F y.2 - ai y.1 (aD S F y.2))⟩
def gl (S F:Rat) (keep:Nat) (l:List (Rat×Rat)):Dd:=l.foldl (fun s y=>dk S F keep s.rows.length s y) ⟨[],[],[]⟩
def eF:List Vq→List aN→List aN
 | [],r=>r
 | p::q,r=>eF q (r.modify p.1 (fun x=>{ x with closing:=p.2 }))
def pL (S F:Rat) (keep:Nat) (l:List (Rat×Rat)):List aN×List Uq:=(eF (gl S F keep l).q (gl S F keep l).rows,(gl S F keep l).uses)
def tC (y:Nat):List Vq→Rat→List Uq
 | [],_=>[]
 | p::t,m=>(if 0 < ai p.2 m then [(p.1,y,ai p.2 m)] else [])++tC y t (m - ai p.2 m)
def sR:List Vq→Rat→List Vq
 | [],_=>[]
 | p::t,m=>(p.1,p.2 - ai p.2 m)::sR t (m - ai p.2 m)
def Ap:List Vq→Rat→Rat
 | [],_=>0
 | p::t,m=>ai p.2 m + Ap t (m - ai p.2 m)
theorem sa (y:Nat) (p:Vq) (t:List Vq) (m:Rat):tC y (p::t) m=(if 0 < ai p.2 m then [(p.1,y,ai p.2 m)] else [])++tC y t (m - ai p.2 m):=rfl
theorem sb (p:Vq) (t:List Vq) (m:Rat):sR (p::t) m=(p.1,p.2 - ai p.2 m)::sR t (m - ai p.2 m):=rfl
theorem oH (p:Vq) (t:List Vq) (m:Rat):Ap (p::t) m=ai p.2 m + Ap t (m - ai p.2 m):=rfl
def pos (p:Vq):Bool:=decide (0 < p.2)
theorem vI (y:Nat):∀ {t:List Vq},(∀ p∈t,0≤p.2)→tC y t 0=[]∧sR t 0=t∧Ap t 0=0
 | [],_=>⟨rfl,rfl,rfl⟩
 | p::t,h=>by
   have hp:=h p (by simp)
   have e:ai p.2 0=0:=by unfold ai;split <;> grind
   obtain ⟨h1,h2,h3⟩:=vI y (t:=t) fun x hx=>h x (by simp [hx])
   rw [sa,sb,oH,e,show (0:Rat) - 0=0 by grind,h1,h2,h3,show p.2 - 0=p.2 by grind]
   refine ⟨by simp,rfl,by grind⟩
theorem xu (y:Nat):∀ {t:List Vq} {m:Rat},(∀ p∈t,0≤p.2)→0≤m→nH y (t.filter pos) m=tC y t m∧kW (t.filter pos) m=(sR t m).filter pos∧qW (t.filter pos) m=Ap t m
 | [],_,_,_=>⟨rfl,rfl,rfl⟩
 | p::t,m,h,hm=>by
   have hp:=h p (by simp)
   have ht:∀ x∈t,0≤x.2:=fun x hx=>h x (by simp [hx])
   by_cases h0:0 < p.2
   ·rw [List.filter_cons_of_pos (by simpa [pos] using h0)]
    by_cases yp:0 < m
    ·have hn:0 < ai p.2 m:=by rcases cR p.2 m with ⟨e,_⟩ | ⟨e,_⟩ <;> rw [e] <;> assumption
     by_cases hd:p.2 - ai p.2 m=0
     ·obtain ⟨i1,i2,i3⟩:=xu y (t:=t) (m:=m - ai p.2 m) ht (by have:=cd p.2 m;grind)
      obtain ⟨r1,r2,r3⟩:=fN (y:=y) (p:=p) (q:=t.filter pos) yp hd
      rw [r1,r2,r3,i1,i2,i3]
      rw [sa,sb,oH,if_pos hn,List.filter_cons_of_neg (by show ¬ decide (0 < p.2 - ai p.2 m)=true;rw [hd];simp)]
      exact ⟨rfl,rfl,rfl⟩
     ·obtain ⟨r0,r1,r2,r3⟩:=fM (y:=y) (p:=p) (q:=t.filter pos) yp hd
      have hz:m - ai p.2 m=0:=by
       rcases cR p.2 m with ⟨e,_⟩ | ⟨e,_⟩
       ·rw [e] at hd;exact absurd (by grind) hd
       ·rw [e];grind
      have KY:0 < p.2 - ai p.2 m:=by have:=di p.2 m;grind
      obtain ⟨z1,z2,z3⟩:=vI y ht
      rw [r1,r2,r3]
      rw [sa,sb,oH,hz,z1,z2,z3,if_pos hn,List.filter_cons_of_pos (by simpa [pos] using KY)]
      exact ⟨rfl,rfl,by grind⟩
    ·have hz:m=0:=by grind
     subst hz
     rw [gw y _ yp,fK _ yp,gz _ yp]
     obtain ⟨z1,z2,z3⟩:=vI y h
     rw [z1,z2,z3,List.filter_cons_of_pos (by simpa [pos] using h0)]
     exact ⟨rfl,rfl,rfl⟩
   ·have hz:p.2=0:=by grind
    have e:ai p.2 m=0:=by rw [hz];unfold ai;split <;> grind
    obtain ⟨i1,i2,i3⟩:=xu y (t:=t) ht hm
    rw [List.filter_cons_of_neg (by simpa [pos] using h0),i1,i2,i3]
    rw [sa,sb,oH,e,show m - 0=m by grind,show p.2 - 0=p.2 by grind,if_neg (by grind),List.filter_cons_of_neg (by simpa [pos] using h0)]
    exact ⟨rfl,rfl,by grind⟩
theorem Aq:∀ (t:List Vq) (m:Rat),(sR t m).length=t.length
 | [],_=>rfl
 | p::t,m=>by unfold sR;rw [List.length_cons,List.length_cons,Aq t]
theorem Fv:∀ {t:List Vq} {m:Rat},∀ p∈sR t m,0≤p.2
 | [],_,p,h=>by cases h
 | x::t,m,p,h=>by
   unfold sR at h
   rcases List.mem_cons.1 h with rfl | h
   ·have:=di x.2 m
    show 0≤x.2 - ai x.2 m
    grind
   ·exact Fv p h
def ck:Nat→List Rat→List Vq
 | _,[]=>[]
 | k,x::l=>(k,x)::ck (k + 1) l
theorem xw:∀ (k:Nat) (l:List Rat),(ck k l).length=l.length
 | _,[]=>rfl
 | k,x::l=>by show (ck (k + 1) l).length + 1=_;rw [xw];rfl
theorem gS:∀ (k:Nat) (l l':List Rat),ck k (l++l')=ck k l++ck (k + l.length) l'
 | k,[],l'=>rfl
 | k,x::l,l'=>by show (k,x)::ck (k + 1) (l++l')=_;rw [gS,show k + 1 + l.length=k + (x::l).length by rw [List.length_cons];omega];rfl
theorem pk:∀ (k:Nat) (l:List Rat) (i:Nat),(ck k l)[i]? =(l[i]?).map fun x=>(k + i,x)
 | _,[],_=>rfl
 | k,x::l,0=>rfl
 | k,x::l,i + 1=>by show (ck (k + 1) l)[i]? =(l[i]?).map _;rw [pk,show k + 1 + i=k + (i + 1) by omega]
theorem jj {k:Nat} {l:List Rat} {p:Vq} (h:p∈ck k l):k≤p.1∧p.1 < k + l.length∧p.2∈l:=by
 obtain ⟨i,hi⟩:=List.mem_iff_getElem?.1 h
 rw [pk] at hi
 cases hx:l[i]? with
 | none=>rw [hx] at hi;cases hi
 | some x=>
   rw [hx] at hi
   cases hi
   have:=(List.getElem?_eq_some_iff.1 hx).1
   exact ⟨Nat.le_add_right _ _,by show k + i < _;omega,List.mem_of_getElem? hx⟩
theorem GL:∀ (k:Nat) (l:List Rat) (m:Rat),sR (ck k l) m=ck k ((sR (ck k l) m).map (·.2))
 | _,[],_=>rfl
 | k,x::l,m=>by
   exact congrArg (List.cons (k,x - ai x m)) (GL (k + 1) l (m - ai x m))
theorem kX {k:Nat} {l:List Rat} (h:∀ x∈l,x=0):(ck k l).filter pos=[]:=by
 rw [List.filter_eq_nil_iff]
 intro p hp
 have:=h _ (jj hp).2.2
 unfold pos
 rw [this];simp
structure De where
 left:List Rat
 rows:List aN
 uses:List Uq
def LY (keep jo:Nat) (s:De):De:=if keep≤jo then ⟨s.left.set (jo - keep) 0,s.rows.modify (jo - keep) (fun r=>{ r with aZ:=s.left.getD (jo - keep) 0 }),s.uses⟩ else s
def Ar (S F:Rat) (t:List Vq) (y:Rat×Rat):aN:=
 ⟨aD S F y.2,ai y.1 (aD S F y.2),y.1 - ai y.1 (aD S F y.2),Ap t (aD S F y.2 - ai y.1 (aD S F y.2)),ai y.1 (aD S F y.2) + Ap t (aD S F y.2 - ai y.1 (aD S F y.2)),0,0⟩
def se (S F:Rat) (keep jo:Nat) (s:De) (y:Rat×Rat):De:=
 LY keep jo ⟨(s.left.take (jo - keep)++(sR (ck (jo - keep) (s.left.drop (jo - keep))) (aD S F y.2 - ai y.1 (aD S F y.2))).map (·.2))++[y.1 - ai y.1 (aD S F y.2)],
  s.rows++[Ar S F (ck (jo - keep) (s.left.drop (jo - keep))) y],s.uses++tC jo (ck (jo - keep) (s.left.drop (jo - keep))) (aD S F y.2 - ai y.1 (aD S F y.2))⟩
def runT (S F:Rat) (keep:Nat) (l:List (Rat×Rat)):De:=l.foldl (fun s y=>se S F keep s.rows.length s y) ⟨[],[],[]⟩
def ledT (S F:Rat) (keep:Nat) (l:List (Rat×Rat)):List aN×List Uq:=(eF (ck 0 (runT S F keep l).left) (runT S F keep l).rows,(runT S F keep l).uses)
structure Both (keep:Nat) (a:Dd) (b:De):Prop where
 len:b.left.length=b.rows.length
 rows:a.rows=b.rows
 uses:a.uses=b.uses
 queue:a.q=(ck 0 b.left).filter pos
 nn:∀ x∈b.left,0≤x
 old:∀ (v:Nat) (x:Rat),v + keep < b.rows.length→b.left[v]? =some x→x=0
 exp:∀ (i:Nat) (r:aN),b.rows.length≤i + keep→b.rows[i]? =some r→r.aZ=0
 clo:∀ r∈b.rows,r.closing=0
theorem mK (S F e:Rat):0≤aD S F e:=by
 show 0≤(if jz 0 (if jz (S * e) F=true then S * e else F)=true then 0 else (if jz (S * e) F=true then S * e else F))
 generalize (if jz (S * e) F=true then S * e else F)=o
 by_cases h:jz 0 o=true
 ·rw [if_pos h];exact Rat.le_refl
 ·rw [if_neg h]
  rw [IX] at h
  exact Rat.not_lt.1 h
theorem xx {l:List aN} {i j:Nat} {f:aN→aN} (h:i=j):(l.modify i f)[j]? =(l[j]?).map f:=by
 subst h;rw [List.getElem?_modify];simp
theorem sf {l:List aN} {i j:Nat} {f:aN→aN} (h:i≠j):(l.modify i f)[j]? =l[j]? :=by
 rw [List.getElem?_modify];simp [h]
theorem Df {l:List aN} {i:Nat} {f:aN→aN} (h:∀ r,l[i]? =some r→f r=r):l.modify i f=l:=by
 apply List.ext_getElem?
 intro j
 rw [List.getElem?_modify]
 by_cases e:i=j
 ·subst e
  cases hr:l[i]? with
  | none=>rfl
  | some r=>simp [h r hr]
 ·simp [e]
theorem Jc {S F:Rat} {keep:Nat} {a:Dd} {b:De} (h:Both keep a b) (y:Rat×Rat):Both keep (dk S F keep a.rows.length a y) (se S F keep b.rows.length b y):=by
 obtain ⟨h1,h2,h3,h4,h5,h6,h7,h8⟩:=h
 obtain ⟨n,hn⟩:∃ n,n=b.rows.length:=⟨_,rfl⟩
 rw [h2,←hn]
 unfold dk se
 obtain ⟨lo,Bj⟩:∃ lo,lo=n - keep:=⟨_,rfl⟩
 obtain ⟨L,hL⟩:∃ L,L=aD S F y.2:=⟨_,rfl⟩
 obtain ⟨m,hm⟩:∃ m,m=L - ai y.1 L:=⟨_,rfl⟩
 have yp:0≤m:=by have:=cd y.1 L;grind
 obtain ⟨t,ht⟩:∃ t,t=ck lo (b.left.drop lo):=⟨_,rfl⟩
 have htn:∀ p∈t,0≤p.2:=fun p hp=>by rw [ht] at hp;exact h5 _ (List.mem_of_mem_drop (jj hp).2.2)
 have hz:∀ x∈b.left.take lo,x=0:=fun x hx=>by
  obtain ⟨v,hv⟩:=List.mem_iff_getElem?.1 hx
  rw [List.getElem?_take] at hv
  split at hv
  ·exact h6 v x (by omega) hv
  ·cases hv
 have hq:a.q=t.filter pos:=by
  rw [h4,←List.take_append_drop lo b.left,gS,List.filter_append,kX hz,List.nil_append,List.length_take,ht]
  rcases Nat.le_total lo b.left.length with e | e
  ·rw [Nat.min_eq_left e,Nat.zero_add]
  ·rw [List.drop_of_length_le e];rfl
 obtain ⟨i1,i2,i3⟩:=xu n htn yp
 obtain ⟨d,hd⟩:∃ d,d=y.1 - ai y.1 L:=⟨_,rfl⟩
 have DI:0≤d:=by have:=di y.1 L;grind
 have e1:dD S F a.q y=Ar S F t y:=by unfold dD Ar;rw [←hL,←hm,hq,i3]
 have e2:(Ar S F t y).bl=d:=by show y.1 - ai y.1 (aD S F y.2)=d;rw [←hL,hd]
 rw [e1,e2,←Bj,←hL,←hm,←ht,←hd,hq,i1,i2,h3,h2]
 obtain ⟨lf,hlf⟩:∃ lf,lf=(b.left.take lo++(sR t m).map (·.2))++[d]:=⟨_,rfl⟩
 have LZ:(b.left.take lo).length=lo:=by rw [List.length_take];omega
 have hlen:lf.length=n + 1:=by
  rw [hlf,List.length_append,List.length_append,LZ,List.length_map,Aq,ht,xw,List.length_drop,List.length_singleton];omega
 have hlq:kA n d ((sR t m).filter pos)=(ck 0 lf).filter pos:=by
  have:(ck 0 lf).filter pos=(sR t m).filter pos++(if 0 < d then [(n,d)] else []):=by
   rw [hlf,gS,List.filter_append,gS,List.filter_append,kX hz,List.nil_append,LZ,Nat.zero_add]
   rw [show ck lo ((sR t m).map (·.2))=sR t m by rw [ht];exact (GL lo _ m).symm]
   congr 1
   have xU:0 + (b.left.take lo++(sR t m).map (·.2)).length=n:=by
    have:=hlen;rw [hlf,List.length_append,List.length_singleton] at this;omega
   rw [xU]
   show List.filter pos [(n,d)]=_
   by_cases e:0 < d
   ·rw [if_pos e];simp [pos,e]
   ·rw [if_neg e];simp [pos,e]
  rw [this]
  unfold kA
  split
  ·rfl
  ·rw [List.append_nil]
 have ER:∀ x∈lf,0≤x:=fun x hx=>by
  rw [hlf] at hx
  rcases List.mem_append.1 hx with hx | hx
  ·rcases List.mem_append.1 hx with hx | hx
   ·rw [hz x hx];exact Rat.le_refl
   ·obtain ⟨p,hp,rfl⟩:=List.mem_map.1 hx
    exact Fv p hp
  ·rw [List.mem_singleton.1 hx];exact DI
 have hold:∀ (v:Nat) (x:Rat),v + keep < n→lf[v]? =some x→x=0:=fun v x hv hx=>by
  rw [hlf,List.append_assoc,List.getElem?_append_left (by rw [LZ];omega)] at hx
  exact hz x (List.mem_of_getElem? hx)
 obtain ⟨Ma,hrw⟩:∃ Ma,Ma=b.rows++[Ar S F t y]:=⟨_,rfl⟩
 have rn:Ma.length=n + 1:=by rw [hrw,List.length_append,←hn];rfl
 have hre:∀ (i:Nat) (r:aN),n≤i + keep→Ma[i]? =some r→r.aZ=0:=fun i r hi hr=>by
  rw [hrw] at hr
  by_cases e:i < b.rows.length
  ·rw [List.getElem?_append_left e] at hr
   exact h7 i r (by omega) hr
  ·rw [List.getElem?_append_right (by omega)] at hr
   have:=List.mem_of_getElem? hr
   rw [List.mem_singleton.1 this];rfl
 have hrc:∀ r∈Ma,r.closing=0:=fun r hr=>by
  rw [hrw] at hr
  rcases List.mem_append.1 hr with hr | hr
  ·exact h8 r hr
  ·rw [List.mem_singleton.1 hr];rfl
 rw [hlq,←hrw,←hlf]
 unfold LY
 by_cases hk:keep≤n
 ·rw [if_pos hk,←Bj]
  have hlt:lo < lf.length:=by omega
  obtain ⟨x,hx⟩:∃ x,lf[lo]? =some x:=⟨_,List.getElem?_eq_getElem hlt⟩
  have JW:lf.getD lo 0=x:=by rw [List.getD_eq_getElem?_getD,hx];rfl
  have gL:=ER x (List.mem_of_getElem? hx)
  have yo:lf=lf.take lo++x::lf.drop (lo + 1):=by
   have e:=(List.getElem?_eq_some_iff.1 hx).2
   rw [←e,←List.drop_eq_getElem_cons hlt,List.take_append_drop]
  have hzt:∀ z∈lf.take lo,z=0:=fun z DN=>by
   obtain ⟨v,hv⟩:=List.mem_iff_getElem?.1 DN
   rw [List.getElem?_take] at hv
   split at hv
   ·exact hold v z (by omega) hv
   ·cases hv
  have JM:(lf.take lo).length=lo:=by rw [List.length_take];omega
  have hset:lf.set lo 0=lf.take lo++0::lf.drop (lo + 1):=by rw [List.set_eq_take_append_cons_drop,if_pos hlt]
  have hf:(ck 0 lf).filter pos=(if 0 < x then [(lo,x)] else [])++(ck (lo + 1) (lf.drop (lo + 1))).filter pos:=by
   conv=>lhs;rw [yo]
   rw [gS,List.filter_append,kX hzt,List.nil_append,JM,Nat.zero_add]
   show List.filter pos ((lo,x)::ck (lo + 1) _)=_
   by_cases e:0 < x
   ·rw [if_pos e,List.filter_cons_of_pos (by simpa [pos] using e)];rfl
   ·rw [if_neg e,List.filter_cons_of_neg (by simpa [pos] using e)];rfl
  have hfs:(ck 0 (lf.set lo 0)).filter pos=(ck (lo + 1) (lf.drop (lo + 1))).filter pos:=by
   rw [hset,gS,List.filter_append,kX hzt,List.nil_append,JM,Nat.zero_add]
   show List.filter pos ((lo,(0:Rat))::ck (lo + 1) _)=_
   rw [List.filter_cons_of_neg (by simp [pos])]
  have pU:(Ma.modify lo (fun r=>{ r with aZ:=x })).length=n + 1:=by rw [List.length_modify,rn]
  have hres:rZ keep n ⟨(ck 0 lf).filter pos,Ma,b.uses++tC n t m⟩=⟨(ck (lo + 1) (lf.drop (lo + 1))).filter pos,Ma.modify lo (fun r=>{ r with aZ:=x }),b.uses++tC n t m⟩:=by
   rw [hf]
   by_cases e:0 < x
   ·rw [if_pos e]
    show (if lo + keep=n then _ else _)=_
    rw [if_pos (by omega)];rfl
   ·have hx00:x=0:=by grind
    rw [if_neg e,List.nil_append,Df (fun r hr=>by
     have:=hre lo r (by omega) hr
     rw [hx00]
     cases r
     simp only at this
     subst this;rfl)]
    unfold rZ
    dsimp only
    cases hc:(ck (lo + 1) (lf.drop (lo + 1))).filter pos with
    | nil=>rfl
    | cons p q=>
      have hp:p∈ck (lo + 1) (lf.drop (lo + 1)):=(List.mem_filter.1 (hc▸List.mem_cons_self)).1
      have:=(jj hp).1
      dsimp only
      rw [if_neg (by omega)]
  rw [hres,JW]
  refine ⟨by rw [List.length_set,hlen,pU],rfl,rfl,hfs.symm,fun z DN=> ?_,fun v z hv DN=> ?_,fun i r hi hr=> ?_,fun r hr=> ?_⟩
  ·rcases List.mem_or_eq_of_mem_set DN with e | e
   ·exact ER z e
   ·rw [e];exact Rat.le_refl
  ·rw [pU] at hv
   rw [List.getElem?_set] at DN
   by_cases e:lo=v
   ·rw [if_pos e,if_pos hlt] at DN;cases DN;rfl
   ·rw [if_neg e] at DN
    exact hold v z (by omega) DN
  ·rw [pU] at hi
   rw [sf (by omega)] at hr
   exact hre i r (by omega) hr
  ·obtain ⟨i,hi⟩:=List.mem_iff_getElem?.1 hr
   by_cases e:lo=i
   ·rw [xx e] at hi
    cases hq':Ma[i]? with
    | none=>rw [hq'] at hi;cases hi
    | some r'=>
      rw [hq'] at hi
      cases hi
      exact hrc r' (List.mem_of_getElem? hq')
   ·rw [sf e] at hi
    exact hrc r (List.mem_of_getElem? hi)
 ·rw [if_neg hk]
  have hres:rZ keep n ⟨(ck 0 lf).filter pos,Ma,b.uses++tC n t m⟩=⟨(ck 0 lf).filter pos,Ma,b.uses++tC n t m⟩:=by
   unfold rZ
   dsimp only
   cases (ck 0 lf).filter pos with
   | nil=>rfl
   | cons p q=>dsimp only;rw [if_neg (by omega)]
  rw [hres]
  refine ⟨by rw [hlen,rn],rfl,rfl,rfl,ER,fun v x hv hx=> ?_,fun i r hi hr=>hre i r (by omega) hr,hrc⟩
  rw [rn] at hv;omega
theorem Mb (S F:Rat) (keep:Nat) (l:List (Rat×Rat)):Both keep (gl S F keep l) (runT S F keep l):=by
 unfold gl runT
 have h0:Both keep (⟨[],[],[]⟩:Dd) (⟨[],[],[]⟩:De):=⟨rfl,rfl,rfl,rfl,fun x hx=>(by cases hx),fun v x _ hx=>(by cases hx),fun i r _ hr=>(by cases hr),fun r hr=>(by cases hr)⟩
 generalize (⟨[],[],[]⟩:Dd)=a at h0 ⊢
 generalize (⟨[],[],[]⟩:De)=b at h0 ⊢
 induction l generalizing a b with
 | nil=>exact h0
 | cons y l ih=>exact ih _ _ (Jc h0 y)
theorem pt:∀ (q:List Vq) (r:List aN),(q.map (·.1)).Nodup→∀ i,(eF q r)[i]? =match q.find? (fun p=>p.1 == i) with
  | some p=>(r[i]?).map (fun x=>{ x with closing:=p.2 })
  | none=>r[i]?
 | [],r,_,i=>rfl
 | p::q,r,hn,i=>by
   rw [List.map_cons,List.nodup_cons] at hn
   show (eF q (r.modify p.1 _))[i]? =_
   rw [pt q _ hn.2 i,List.find?_cons]
   by_cases e:p.1=i
   ·have Co:q.find? (fun p=>p.1 == i)=none:=by
     rw [List.find?_eq_none]
     intro x hx e'
     exact hn.1 (List.mem_map.2 ⟨x,hx,by rw [e];simpa using e'⟩)
    rw [Co,beq_iff_eq.2 e]
    dsimp only
    rw [xx e]
   ·rw [show (p.1 == i)=false by simpa using e]
    dsimp only
    rw [sf e]
theorem xy (k:Nat) (l:List Rat):((ck k l).map (·.1)).Nodup:=by
 induction l generalizing k with
 | nil=>exact List.nodup_nil
 | cons x l ih=>
   show (k::(ck (k + 1) l).map (·.1)).Nodup
   rw [List.nodup_cons]
   refine ⟨fun h=> ?_,ih _⟩
   obtain ⟨p,hp,e⟩:=List.mem_map.1 h
   have:=(jj hp).1
   omega
theorem Fw (S F:Rat) (keep:Nat) (l:List (Rat×Rat)):pL S F keep l=ledT S F keep l:=by
 obtain ⟨h1,h2,h3,h4,h5,h6,h7,h8⟩:=Mb S F keep l
 unfold pL ledT
 rw [h3,h2,h4]
 congr 1
 apply List.ext_getElem?
 intro i
 have hn:=xy 0 (runT S F keep l).left
 rw [pt _ _ hn,pt _ _ (hn.sublist (List.filter_sublist.map _))]
 cases hf:((ck 0 (runT S F keep l).left).filter pos).find? (fun p=>p.1 == i) with
 | some p=>
   have hm:=List.mem_of_find?_eq_some hf
   have hp:=List.find?_some hf
   have:(ck 0 (runT S F keep l).left).find? (fun p=>p.1 == i)=some p:=by
    cases hg:(ck 0 (runT S F keep l).left).find? (fun p=>p.1 == i) with
    | none=>exact absurd hp (List.find?_eq_none.1 hg p (List.mem_filter.1 hm).1)
    | some p'=>
      have Kc:=List.mem_of_find?_eq_some hg
      have hp':=List.find?_some hg
      obtain ⟨j,hj⟩:=List.mem_iff_getElem?.1 Kc
      obtain ⟨j',hj'⟩:=List.mem_iff_getElem?.1 (List.mem_filter.1 hm).1
      rw [pk] at hj hj'
      have a1:p'.1=j:=by cases hq:(runT S F keep l).left[j]? <;> rw [hq] at hj <;> cases hj;simp
      have a2:p.1=j':=by cases hq:(runT S F keep l).left[j']? <;> rw [hq] at hj' <;> cases hj';simp
      have a3:j=j':=by have b1:=beq_iff_eq.1 hp;have b2:=beq_iff_eq.1 hp';omega
      rw [a3,hj'] at hj
      exact hj.symm
   rw [this]
 | none=>
   dsimp only
   cases hg:(ck 0 (runT S F keep l).left).find? (fun p=>p.1 == i) with
   | none=>rfl
   | some p=>
     dsimp only
     have hm:=List.mem_of_find?_eq_some hg
     have hp:=List.find?_some hg
     have hz:p.2=0:=by
      have h0:=h5 _ (jj hm).2.2
      by_cases e:0 < p.2
      ·exact absurd hp (List.find?_eq_none.1 hf p (List.mem_filter.2 ⟨hm,by simpa [pos] using e⟩))
      ·grind
     cases hr:(runT S F keep l).rows[i]? with
     | none=>rfl
     | some r=>
       have:=h8 r (List.mem_of_getElem? hr)
       cases r
       simp only at this
       subst this
       simp [hz]
end Go.Proofs.YtabalinjfgcfeaaGreat
set_option maxRecDepth 4000
namespace Go.Proofs.YtabalinjfgcfeaaGreat
open Go.RowKit
attribute [local irreducible] aB VS
def R4 (B:Nat) (w:World) (cs:List Value) (q:Rat):Prop:=∃ s p n c t r m d,cs=[.bool s,.slice p n c,.bool t,.slice r m d]∧aK w B (.agg #[.bool s,.slice p n c,.bool t,.slice r m d]) q
theorem R4.kp {B:Nat} {T:TypeId→Bool} {w w':World} {cs:List Value} {q:Rat} (h:R4 B w cs q) (k:aE ⟨UU,fun _=>True,T⟩ w w'):R4 B w' cs q:=by
 obtain ⟨s,p,n,c,t,r,m,d,h1,h2⟩:=h
 exact ⟨s,p,n,c,t,r,m,d,h1,h2.kp k⟩
def cH (B:Nat) (w:World) (cs:List Value) (e:Vq):Prop:=∃ s p n c t r m d,cs=[.int .i64 (e.1:Int),.bool s,.slice p n c,.bool t,.slice r m d]∧aK w B (.agg #[.bool s,.slice p n c,.bool t,.slice r m d]) e.2
theorem aM (B:Nat):lB (cH B) 5 where
 kp:=fun h k=>by
  obtain ⟨s,p,n,c,t,r,m,d,h1,h2⟩:=h
  exact ⟨s,p,n,c,t,r,m,d,h1,h2.kp k⟩
 len:=fun h=>by obtain ⟨s,p,n,c,t,r,m,d,rfl,_⟩:=h;rfl
 ok:=fun h=>by obtain ⟨s,p,n,c,t,r,m,d,rfl,_⟩:=h;rfl
def np (B:Nat) (w:World) (cs:List Value) (e:Uq):Prop:=∃ s p n c t r m d,cs=[.int .i64 (e.1:Int),.int .i64 (e.2.1:Int),.bool s,.slice p n c,.bool t,.slice r m d]∧aK w B (.agg #[.bool s,.slice p n c,.bool t,.slice r m d]) e.2.2
theorem dm (B:Nat):lB (np B) 6 where
 kp:=fun h k=>by
  obtain ⟨s,p,n,c,t,r,m,d,h1,h2⟩:=h
  exact ⟨s,p,n,c,t,r,m,d,h1,h2.kp k⟩
 len:=fun h=>by obtain ⟨s,p,n,c,t,r,m,d,rfl,_⟩:=h;rfl
 ok:=fun h=>by obtain ⟨s,p,n,c,t,r,m,d,rfl,_⟩:=h;rfl
structure cY {α:Type} (E:World→List Value→α→Prop) (sz:Nat) (w:World) (n off c:Nat) (pre:List Value) (vs:List (List Value)) (spare:List Value) (es:List α):Prop where
 len:n=es.length
 pl:pre.length=off∨c=0
 po:pre.all aU=true
 el:cM E w es vs
 so:spare.all aU=true
 le:n≤c
 cm:c≤9223372036854775807
 fl:(vs.flatten++spare).length=c * sz
abbrev Runner:TypeId:=89
abbrev cO:TypeId:=92
abbrev dT:TypeId:=41
abbrev et:TypeId:=44
theorem Au {a:AV} {r u:Value} (h:aH a=true) (hr:aU r=true) (hu:aU u=true):[a,.val r,.val u].all aH=true:=by
 rw [List.all_cons,List.all_cons,List.all_cons,h]
 show (true && (aU r && (aU u && true)))=true
 rw [hr,hu];rfl
theorem bo {w:World} {b:Nat} {t t':TypeId} {cs ig:Array Value} (h:aW w b t cs) (h':aW w b t' ig):t=t':=by
 have:=h.symm.trans h'
 simp only [Option.some.injEq,Obj.cells.injEq] at this
 exact this.2.1
theorem uC (g c:Nat) (p:Option Addr) (r u:Value) (w:World) (hg:aW w g Runner #[.slice p 0 c,r,u]):
  Calls Tryz.prog 75 #[.pointer (some ⟨g,0,none⟩)] w fun o w'=>o=.returned (.pointer none)∧aj w w':=by
 refine aw (C:=cj Tryz.prog w _) (args:=[_]) Tryz.func75 rfl Tryz.ntmps75 (Nat.le_of_ble_eq_true rfl) ?_
 (repeat first|refine wN ?_|refine wP rfl ?_|refine aa rfl ?_|refine ab rfl ?_|refine wO rfl rfl ?_)
 refine VO.read rfl [.slice p 0 c] rfl (fun j v hj=> ?_) (wV rfl ?_)
 ·match j,hj with
  | 0,hj=>cases hj;exact hg.cell rfl
  | j + 1,hj=>cases hj
 (repeat first|refine wN ?_|refine wP rfl ?_|refine aa rfl ?_|refine ab rfl ?_|refine wO rfl rfl ?_)
 refine VS.ret (aL _ _) rfl rfl (fun wz kz bz=> ?_)
 exact ⟨rfl,bz⟩
theorem Dg (g b off n c:Nat) (r u:Value) (w:World) (hn:n≠0) (hg:aW w g Runner #[.slice (some ⟨b,off,none⟩) n c,r,u]):
  Calls Tryz.prog 75 #[.pointer (some ⟨g,0,none⟩)] w fun o w'=>o=.returned (.pointer (some ⟨b,off,none⟩))∧aj w w':=by
 have hcell:∀ (j:Nat) (v:Value),([.slice (some ⟨b,off,none⟩) n c]:List Value)[j]? =some v→w.cell? ((⟨g,0 + 0,none⟩:Addr).add j)=some v:=fun j v hj=>by
  match j,hj with
  | 0,hj=>cases hj;exact hg.cell rfl
  | j + 1,hj=>cases hj
 refine aw (C:=cj Tryz.prog w _) (args:=[_]) Tryz.func75 rfl Tryz.ntmps75 (Nat.le_of_ble_eq_true rfl) ?_
 (repeat first|refine wN ?_|refine wP rfl ?_|refine aa rfl ?_|refine ab rfl ?_|refine wO rfl rfl ?_)
 refine VO.read rfl [.slice (some ⟨b,off,none⟩) n c] rfl hcell (wV rfl ?_)
 (repeat first|refine wN ?_|refine wP rfl ?_|refine aa rfl ?_|refine ab rfl ?_|refine wO rfl rfl ?_)
 refine VS.bu rfl (by rw [beq_eq_false_iff_ne];omega) ?_
 (repeat first|refine wN ?_|refine wP rfl ?_|refine aa rfl ?_|refine ab rfl ?_|refine wO rfl rfl ?_)
 refine VO.read rfl [.slice (some ⟨b,off,none⟩) n c] rfl hcell (wV rfl ?_)
 (repeat first|refine wN ?_|refine wP rfl ?_|refine aa rfl ?_|refine ab rfl ?_|refine wO rfl rfl ?_)
 refine VO.cond rfl ⟨by omega,by omega⟩ ?_
 refine wV rfl ?_
 (repeat first|refine wN ?_|refine wP rfl ?_|refine aa rfl ?_|refine ab rfl ?_|refine wO rfl rfl ?_)
 refine VS.ret (aL _ _) rfl rfl (fun wz kz bz=> ?_)
 exact ⟨rfl,bz⟩
theorem sl_one {b off n c:Nat}:Value.slice (if c=((some (1:Int)).getD 0).toNat then some (⟨b,off,none⟩:Addr) else (some (⟨b,off,none⟩:Addr)).map (·.add (((some (1:Int)).getD 0).toNat * 5))) (((none:Option Int).getD (n:Int)).toNat - ((some (1:Int)).getD 0).toNat) (c - ((some (1:Int)).getD 0).toNat)=.slice (some ⟨b,if c=1 then off else off + 5,none⟩) (n - 1) (c - 1):=by
 by_cases h:c=1
 ·simp [h]
 ·simp [h,Addr.add_mid]
theorem Jd (g b off n c:Nat) (r u:Value) (w:World) (hg:aW w g Runner #[.slice (some ⟨b,off,none⟩) n c,r,u]) (hr:aU r=true) (hu:aU u=true) (hn:1≤n) (eT:n≤c) (eV:c≤9223372036854775807):
  Calls Tryz.prog 76 #[.pointer (some ⟨g,0,none⟩)] w fun o w'=>o=.returned (iC [])∧qA [g] w w'∧aW w' g Runner #[.slice (some ⟨b,if c=1 then off else off + 5,none⟩) (n - 1) (c - 1),r,u]:=by
 have pM:iG (KU UU) 10 [g] [(Runner,[.val (.slice (some ⟨b,off,none⟩) n c),.val r,.val u])] w:=by
  refine ⟨rfl,by simp,fun j g' c' hj hc=> ?_,fun c' hc=> ?_,fun c' hc k hk=> ?_⟩
  ·match j,hj,hc with
   | 0,hj,hc=>cases hj;cases hc;exact hg
   | j + 1,hj,_=>simp at hj
  ·cases List.mem_singleton.1 hc
   exact ⟨rfl,Au rfl hr hu⟩
  ·cases List.mem_singleton.1 hc;cases hk
 refine ea Tryz.prog w _ (KU UU) (fun t=>Nat.beq t 22) table (fun _ _=>trivial) (ad:=[g]) (us:=[]) Tryz.func76 rfl Tryz.ntmps76 (Nat.le_of_ble_eq_true rfl) pM (Nat.le_of_ble_eq_true rfl) ?_
 (repeat first|refine wN ?_|refine wP rfl ?_|refine af rfl ?_|refine ag rfl ?_|refine wO rfl rfl ?_)
 refine VO.cond rfl ⟨show (0:Int)≤1 by decide,show (1:Int)≤(n:Int) by omega,show (n:Int)≤(c:Int) by omega,show (c:Int)≤9223372036854775807 by omega⟩ ?_
 refine VO.fix 7 rfl (congrArg AV.val (sl_one (b:=b) (off:=off) (n:=n) (c:=c))) ?_
 refine wV rfl ?_
 (repeat first|refine wN ?_|refine wP rfl ?_|refine af rfl ?_|refine ag rfl ?_|refine wO rfl rfl ?_)
 refine VS.ky (bk _ _) rfl (fun wz β kz oz en=> ?_)
 obtain ⟨o1,o2⟩:=eb (en.own 20 _ _ rfl) 0 g rfl rfl
 exact ⟨rfl,oz.1,o2⟩
def LeftA (w:World) (b:Nat):Prop:=∃ (t:TypeId) (cs:List Value),aW w b t cs.toArray∧(KU UU).fz t=false∧cs.all aU=true
theorem cY.all {α:Type} {E:World→List Value→α→Prop} {sz:Nat} {w:World} {n off c:Nat} {pre:List Value} {vs:List (List Value)} {spare:List Value} {es:List α} (hE:lB E sz) (h:cY E sz w n off c pre vs spare es):(pre++(vs.flatten++spare)).all aU=true:=by
 rw [List.all_append,List.all_append,h.po,(h.el.ok hE).1,h.so];rfl
theorem cY.kp {α:Type} {E:World→List Value→α→Prop} {sz:Nat} {w w':World} {n off c:Nat} {pre:List Value} {vs:List (List Value)} {spare:List Value} {es:List α} (hE:lB E sz) (h:cY E sz w n off c pre vs spare es) (k:Kp UU w w'):cY E sz w' n off c pre vs spare es:=
 ⟨h.len,h.pl,h.po,h.el.kp hE k,h.so,h.le,h.cm,h.fl⟩
theorem ff {d:Rat}:dK d 0 > 0↔0 < d:=by
 constructor
 ·intro h
  refine Rat.not_le.1 fun e=> ?_
  have:=jG.2 e;omega
 ·intro h
  have:¬ dK d 0≤0:=fun e=>absurd (jG.1 e) (Rat.not_le.2 h)
  omega
set_option maxRecDepth 4000 in
set_option maxHeartbeats 4000000 in
theorem Mc (B g b off n c jo:Nat) (pre:List Value) (vs:List (List Value)) (spare:List Value) (q:List Vq) (r u v:Value) (d:Rat) (kk:Nat) (w:World)
  (hg:aW w g Runner #[.slice (some ⟨b,off,none⟩) n c,r,u]) (hb:aW w b cO (pre++(vs.flatten++spare)).toArray) (hO:cY (cH B) 5 w n off c pre vs spare q) (hr:aU r=true) (hu:aU u=true) (hv:cQ w v d) (hs:dV d kk) (hk:kk≤100000) (hn:n≤1000) (hB:B≤w.heap.size):
  Calls Tryz.prog 74 #[.pointer (some ⟨g,0,none⟩),.int .i64 (jo:Int),v] w fun o w'=>o=.returned (iC [])∧qA [g,b] w w'∧LeftA w' b∧
   ∃ b' aR n' c' bL gE ak,(w.heap.size≤b'∨b'=b)∧aW w' g Runner #[.slice (some ⟨b',aR,none⟩) n' c',r,u]∧aW w' b' cO (bL++(gE.flatten++ak)).toArray∧cY (cH B) 5 w' n' aR c' bL gE ak (kA jo d q):=by
 have hgb:g≠b:=fun e=>by
  subst e
  exact absurd (bo hg hb) (by decide)
 obtain ⟨Ef,iP,Je,fb,yW,eT,eV,sO⟩:=id hO
 obtain ⟨Av,Aw⟩:=fb.ok (aM B)
 obtain ⟨s0,p0,n0,c0,t0,y0,m0,d0,rfl⟩:=hv.form
 have pM:iG (KU UU) 23 [g,b] [(Runner,[.row 47 off n c,.val r,.val u]),(cO,pre.map .val++(vs.flatten.map .val++spare.map .val))] w:=by
  refine ⟨rfl,by simp [hgb],fun j g' c' hj hc=> ?_,fun c' hc=> ?_,fun c' hc k hk=> ?_⟩
  ·match j,hj,hc with
   | 0,hj,hc=>cases hj;cases hc;exact hg
   | 1,hj,hc=>cases hj;cases hc;rw [←List.map_append,←List.map_append,ah];exact hb
   | j + 2,hj,_=>simp at hj
  ·rcases List.mem_cons.1 hc with rfl | hc
   ·exact ⟨rfl,Au rfl hr hu⟩
   ·cases List.mem_singleton.1 hc
    exact ⟨rfl,by rw [←List.map_append,←List.map_append];exact bb (hO.all (aM B))⟩
  ·rcases List.mem_cons.1 hc with rfl | hc
   ·have:k=47:=by simpa [ax,AV.cL] using hk
    subst this;exact ⟨by omega,by show 47 < 2 * 23 + 2;omega⟩
   ·cases List.mem_singleton.1 hc
    rw [←List.map_append,←List.map_append,ao] at hk;cases hk
 refine ea Tryz.prog w _ (KU UU) (fun t=>Nat.beq t 22) table (fun _ _=>trivial) (ad:=[g,b]) (us:=[_,_]) Tryz.func74 rfl Tryz.ntmps74 (Nat.le_of_ble_eq_true rfl) pM (Nat.le_of_ble_eq_true rfl) ?_
 (repeat first|refine wN ?_|refine wP rfl ?_|refine af rfl ?_|refine ag rfl ?_|refine wO rfl rfl ?_)
 obtain ⟨sg,jn⟩:∃ sg,dK d 0=sg:=⟨_,rfl⟩
 refine VO.call rfl rfl (fk Tryz.func13) (fun cC er dv=>(bS _ d kk cC (hv.ki hs) (by omega) sg jn).mono ?_)
 rintro e w1 ⟨rfl,aV⟩
 skip
 refine ⟨_,rfl,aV,fun fe _ bb1=>wV rfl ?_⟩
 (repeat first|refine wN ?_|refine wP rfl ?_|refine af rfl ?_|refine ag rfl ?_|refine wO rfl rfl ?_)
 by_cases hd:0 < d
 ·have hp:kA jo d q=q++[(jo,d)]:=if_pos hd
  have jk:sg > 0:=by rw [←jn];exact ff.2 hd
  refine VS.bE rfl (decide_eq_true jk) ?_
  (repeat first|refine wN ?_|refine wP rfl ?_|refine af rfl ?_|refine ag rfl ?_|refine wO rfl rfl ?_)
  refine VO.fI rfl (fk Tryz.func14) (fun gv β gY gV ho=>(qK _ [d] kk gv (dW (ho.own 16 (.base (List.mem_singleton.2 rfl)) _ _ rfl) [] (vs:=[[.bool s0,.slice p0 n0 c0,.bool t0,.slice y0 m0 d0]]) (by rfl) rfl (bZ.cons (hv.ki hs (by (with_reducible (repeat (first | assumption | exact kU _ | exact kR _ | exact Kp.of (U:=UU) (by assumption) | exact aE.of (by assumption) | refine kT ?_ (by assumption)))))) bZ.nil) (Nat.le_of_ble_eq_true rfl) (by decide)) (by unfold cX jQ;simp;omega)).mono ?_)
  rintro o w3 ⟨r3,rfl,q3,hs3,cD⟩
  have q3':aK w3 gv.heap.size r3 d:=by
   have e:gW [d]=d:=by show 0 + d=d;grind
   rw [e] at q3;exact q3
  obtain ⟨s3,p3,n3,c3,t3,y3,m3,d3,rfl⟩:=q3'.form
  refine ⟨_,rfl,cD,fun kt _ bb3=>wV rfl ?_⟩
  (repeat first|refine wN ?_|refine wP rfl ?_|refine af rfl ?_|refine ag rfl ?_|refine wO rfl rfl ?_)
  refine VO.appO (bk _ _) (t:=85) (e:=cO) (sz:=5) (n:=n) (c:=c) (off:=off) (i:=47) (mm:=1) (pre:=pre.map .val) (known:=vs.flatten.map .val) (spare:=spare.map .val) (news:=([.int .i64 (jo:Int),.bool s3,.slice p3 n3 c3,.bool t3,.slice y3 m3 d3]:List Value).map .val) (dst:=20) rfl rfl rfl rfl rfl rfl rfl rfl (Nat.le_of_ble_eq_true rfl) rfl rfl (by rw [List.length_map];exact iP.imp id fun h=>⟨h,by decide⟩) (.inl rfl) (by rw [List.length_map,Aw,Ef]) (by rw [←List.map_append,List.length_map];exact sO) eT eV ⟨ao _,ao _,rfl⟩ (ao _) ⟨bb Av,bb yW,rfl⟩ (bb Je) rfl (by omega)
   (fun w1 β k1 b1 ho=>⟨_,_,rfl,.inr ⟨β 19,0,rfl,cK (rest:=[]) (ho.own 19 (.base (List.mem_append_right _ (List.mem_singleton.2 rfl))) _ _ rfl) rfl⟩⟩)
   (fun nD aR bL cap' ak ρ GM GN fC hp1 hp2 hp3 jc gm ed mL dy=>wV rfl ?_)
  (repeat first|refine wN ?_|refine wP rfl ?_|refine af rfl ?_|refine ag rfl ?_|refine wO rfl rfl ?_)
  refine VS.ky (bk _ _) rfl (fun wz β kz oz en=> ?_)
  rw [hp]
  obtain ⟨o1,o2⟩:=eb (en.own 46 _ _ rfl) 0 g rfl rfl
  have o3:=en.own 20 _ _ rfl
  have o5:β 20≠g:=fun e=>absurd (en.apart 46 20 (by intro h;cases h) (by intro h;cases h) (o1.trans e.symm)) (by decide)
  have o6:w.heap.size≤β 20∨β 20=b:=by
   have:=eO (show cB 23 [g,b] w 20 (β 20) from o3.new)
   simpa [o5] using this
  have o7:=o3.cls
  rw [List.map_append,List.map_append,List.map_append,ah,ah] at o7
  have hE:cH B wz [.int .i64 (jo:Int),.bool s3,.slice p3 n3 c3,.bool t3,.slice y3 m3 d3] (jo,d):=⟨s3,p3,n3,c3,t3,y3,m3,d3,rfl,(q3'.mono (Nat.le_trans hB gV.1.size)).kp (by (with_reducible (repeat (first | assumption | exact kU _ | exact kR _ | exact Kp.of (U:=UU) (by assumption) | exact aE.of (by assumption) | refine kT ?_ (by assumption)))))⟩
  refine ⟨rfl,oz.1,oz.2 b (by simp),β 20,aR,n + 1,cap',bL.map (AV.leaf β),vs++[[.int .i64 (jo:Int),.bool s3,.slice p3 n3 c3,.bool t3,.slice y3 m3 d3]],ak.map (AV.leaf β),o6,o2,?_,⟨by simp [Ef],.inl (by rw [List.length_map];exact hp1),cJ hp2,?_,cJ mL,jc,gm,?_⟩⟩
  ·rw [List.flatten_append];exact o7
  ·exact (fb.kp (aM B) (by (with_reducible (repeat (first | assumption | exact kU _ | exact kR _ | exact Kp.of (U:=UU) (by assumption) | exact aE.of (by assumption) | refine kT ?_ (by assumption)))))).snoc hE
  ·have:=ed
   simp only [List.length_append,List.length_map,List.length_cons,List.length_nil,List.flatten_append,List.flatten_cons,List.flatten_nil,List.append_nil] at this ⊢
   omega
 ·have hp:kA jo d q=q:=if_neg hd
  have jk:¬ sg > 0:=by rw [←jn];exact fun h=>hd (ff.1 h)
  refine VS.bu rfl (decide_eq_false jk) ?_
  (repeat first|refine wN ?_|refine wP rfl ?_|refine af rfl ?_|refine ag rfl ?_|refine wO rfl rfl ?_)
  refine VS.ky (bk _ _) rfl (fun wz β kz oz en=> ?_)
  rw [hp]
  obtain ⟨o1,o2⟩:=eb (en.own 46 _ _ rfl) 0 g rfl rfl
  obtain ⟨o3,o4⟩:=eb (en.own 47 _ _ rfl) 1 b rfl rfl
  rw [←List.map_append,←List.map_append,ah] at o4
  refine ⟨rfl,oz.1,oz.2 b (by simp),b,off,n,c,pre,vs,spare,.inr rfl,?_,o4,hO.kp (aM B) (by (with_reducible (repeat (first | assumption | exact kU _ | exact kR _ | exact Kp.of (U:=UU) (by assumption) | exact aE.of (by assumption) | refine kT ?_ (by assumption)))))⟩
  have:β 47=b:=o3
  rw [←this];exact o2
set_option maxRecDepth 4000 in
set_option maxHeartbeats 4000000 in
theorem Md (B g jo:Nat) (r u v:Value) (d:Rat) (kk:Nat) (w:World)
  (hg:aW w g Runner #[.slice none 0 0,r,u]) (hr:aU r=true) (hu:aU u=true) (hv:cQ w v d) (hs:dV d kk) (hk:kk≤100000) (hB:B≤w.heap.size):
  Calls Tryz.prog 74 #[.pointer (some ⟨g,0,none⟩),.int .i64 (jo:Int),v] w fun o w'=>o=.returned (iC [])∧qA [g] w w'∧
   ((¬ 0 < d∧aW w' g Runner #[.slice none 0 0,r,u])∨(0 < d∧∃ b' c' gE ak,w.heap.size≤b'∧aW w' g Runner #[.slice (some ⟨b',0,none⟩) 1 c',r,u]∧aW w' b' cO ([]++(gE.flatten++ak)).toArray∧cY (cH B) 5 w' 1 0 c' [] gE ak [(jo,d)])):=by
 obtain ⟨s0,p0,n0,c0,t0,y0,m0,d0,rfl⟩:=hv.form
 have pM:iG (KU UU) 23 [g] [(Runner,[.val (.slice none 0 0),.val r,.val u])] w:=by
  refine ⟨rfl,by simp,fun j g' c' hj hc=> ?_,fun c' hc=> ?_,fun c' hc k hk=> ?_⟩
  ·match j,hj,hc with
   | 0,hj,hc=>cases hj;cases hc;exact hg
   | j + 1,hj,_=>simp at hj
  ·cases List.mem_singleton.1 hc
   exact ⟨rfl,Au rfl hr hu⟩
  ·cases List.mem_singleton.1 hc;cases hk
 refine ea Tryz.prog w _ (KU UU) (fun t=>Nat.beq t 22) table (fun _ _=>trivial) (ad:=[g]) (us:=[_,_]) Tryz.func74 rfl Tryz.ntmps74 (Nat.le_of_ble_eq_true rfl) pM (Nat.le_of_ble_eq_true rfl) ?_
 (repeat first|refine wN ?_|refine wP rfl ?_|refine af rfl ?_|refine ag rfl ?_|refine wO rfl rfl ?_)
 obtain ⟨sg,jn⟩:∃ sg,dK d 0=sg:=⟨_,rfl⟩
 refine VO.call rfl rfl (fk Tryz.func13) (fun cC er dv=>(bS _ d kk cC (hv.ki hs) (by omega) sg jn).mono ?_)
 rintro e w1 ⟨rfl,aV⟩
 skip
 refine ⟨_,rfl,aV,fun fe _ bb1=>wV rfl ?_⟩
 (repeat first|refine wN ?_|refine wP rfl ?_|refine af rfl ?_|refine ag rfl ?_|refine wO rfl rfl ?_)
 by_cases hd:0 < d
 ·have jk:sg > 0:=by rw [←jn];exact ff.2 hd
  refine VS.bE rfl (decide_eq_true jk) ?_
  (repeat first|refine wN ?_|refine wP rfl ?_|refine af rfl ?_|refine ag rfl ?_|refine wO rfl rfl ?_)
  refine VO.fI rfl (fk Tryz.func14) (fun gv β gY gV ho=>(qK _ [d] kk gv (dW (ho.own 16 (.base (List.mem_singleton.2 rfl)) _ _ rfl) [] (vs:=[[.bool s0,.slice p0 n0 c0,.bool t0,.slice y0 m0 d0]]) (by rfl) rfl (bZ.cons (hv.ki hs (by (with_reducible (repeat (first | assumption | exact kU _ | exact kR _ | exact Kp.of (U:=UU) (by assumption) | exact aE.of (by assumption) | refine kT ?_ (by assumption)))))) bZ.nil) (Nat.le_of_ble_eq_true rfl) (by decide)) (by unfold cX jQ;simp;omega)).mono ?_)
  rintro o w3 ⟨r3,rfl,q3,hs3,cD⟩
  have q3':aK w3 gv.heap.size r3 d:=by
   have e:gW [d]=d:=by show 0 + d=d;grind
   rw [e] at q3;exact q3
  obtain ⟨s3,p3,n3,c3,t3,y3,m3,d3,rfl⟩:=q3'.form
  refine ⟨_,rfl,cD,fun kt _ bb3=>wV rfl ?_⟩
  (repeat first|refine wN ?_|refine wP rfl ?_|refine af rfl ?_|refine ag rfl ?_|refine wO rfl rfl ?_)
  refine VO.app (bk _ _) (t:=85) (e:=cO) (sz:=5) (n:=0) (c:=0) (mm:=1) (known:=[]) (spare:=[]) (del:=none) (news:=([.int .i64 (jo:Int),.bool s3,.slice p3 n3 c3,.bool t3,.slice y3 m3 d3]:List Value).map .val) (dst:=20) rfl rfl rfl rfl rfl rfl rfl rfl (Nat.le_of_ble_eq_true rfl) rfl (.inl ⟨rfl,rfl,rfl,rfl,rfl,rfl,by omega⟩) (.inl rfl) rfl rfl (Nat.le_refl _) (by omega) ⟨rfl,rfl,rfl⟩ ⟨rfl,rfl,rfl⟩ rfl (by omega)
   (fun w1 β k1 b1 ho=>⟨_,_,rfl,.inr ⟨β 19,0,rfl,cK (rest:=[]) (ho.own 19 (.base (List.mem_append_right _ (List.mem_singleton.2 rfl))) _ _ rfl) rfl⟩⟩)
   (fun nD cap' ak ρ GM GN fC jc gm ed mL dy=>wV rfl ?_)
  (repeat first|refine wN ?_|refine wP rfl ?_|refine af rfl ?_|refine ag rfl ?_|refine wO rfl rfl ?_)
  refine VS.ky (bk _ _) rfl (fun wz β kz oz en=> ?_)
  obtain ⟨o1,o2⟩:=eb (en.own 46 _ _ rfl) 0 g rfl rfl
  have o3:=en.own 20 _ _ rfl
  have o5:β 20≠g:=fun e=>absurd (en.apart 46 20 (by intro h;cases h) (by intro h;cases h) (o1.trans e.symm)) (by decide)
  have o6:w.heap.size≤β 20:=by
   have:=eO (show cB 23 [g] w 20 (β 20) from o3.new)
   simpa [o5] using this
  have o7:=o3.cls
  rw [List.map_append,List.map_append,ah] at o7
  have hE:cH B wz [.int .i64 (jo:Int),.bool s3,.slice p3 n3 c3,.bool t3,.slice y3 m3 d3] (jo,d):=⟨s3,p3,n3,c3,t3,y3,m3,d3,rfl,(q3'.mono (Nat.le_trans hB gV.1.size)).kp (by (with_reducible (repeat (first | assumption | exact kU _ | exact kR _ | exact Kp.of (U:=UU) (by assumption) | exact aE.of (by assumption) | refine kT ?_ (by assumption)))))⟩
  refine ⟨rfl,oz.1,.inr ⟨hd,β 20,cap',[[.int .i64 (jo:Int),.bool s3,.slice p3 n3 c3,.bool t3,.slice y3 m3 d3]],ak.map (AV.leaf β),o6,o2,?_,⟨rfl,.inl rfl,rfl,.cons hE .nil,cJ mL,by omega,gm,?_⟩⟩⟩
  ·exact o7
  ·have:=ed
   simp only [List.length_append,List.length_map,List.length_cons,List.length_nil,List.flatten_cons,List.flatten_nil,List.append_nil] at this ⊢
   omega
 ·have jk:¬ sg > 0:=by rw [←jn];exact fun h=>hd (ff.1 h)
  refine VS.bu rfl (decide_eq_false jk) ?_
  (repeat first|refine wN ?_|refine wP rfl ?_|refine af rfl ?_|refine ag rfl ?_|refine wO rfl rfl ?_)
  refine VS.ky (bk _ _) rfl (fun wz β kz oz en=> ?_)
  obtain ⟨o1,o2⟩:=eb (en.own 46 _ _ rfl) 0 g rfl rfl
  exact ⟨rfl,oz.1,.inl ⟨hd,o2⟩⟩
end Go.Proofs.YtabalinjfgcfeaaGreat
namespace Go.Proofs.YtabalinjfgcfeaaGreat
open Go.RowKit
section
variable {C:Cx} {F:Fr} {H:Hp} {w:World} {m:Option (List FuncId)} {full:Array Oper} {K:Fr→Hp→World→Prop} {o:Oper} {r:List Oper}
theorem VO.cZ {i c:Nat} {x a y:AV} {p:Nat→Option Addr} (hP:C.P=Tryz.prog) (hx:∀ β:Nat→Nat,x.leaf β=.slice (p (β 0)) 0 c∨∃ q,x.leaf β=.slice q 0 c) (e:stepOf C full F H o=.call (.fn 75 [.box i 0])) (hf:od C.P 75) (h1:H i=some (Runner,[x,a,y]))
  (k:∀ w2,aE C.K w w2→C.Old w2→aB C m full r K (F.bD o.dst (.val (.pointer none))) H w2):aB C m full (o::r) K F H w:=by
 refine VO.fI e hf fun w1 β a1 a2 a3=> ?_
 have o1:=a3.own i (.base (by simp [fy,AV.ids])) _ _ h1
 obtain ⟨q,hq⟩:∃ q,x.leaf β=.slice q 0 c:=by
  rcases hx β with e | e
  ·exact ⟨_,e⟩
  ·exact e
 have hc:aW w1 (β i) Runner #[.slice q 0 c,a.leaf β,y.leaf β]:=by have:=o1.cls;rw [List.map_cons,hq] at this;exact this
 refine Calls.mono (show Calls C.P _ #[.pointer (some ⟨β i,0,none⟩)] w1 _ from hP▸uC (β i) c q _ _ w1 hc) ?_
 rintro e w2 ⟨rfl,hb⟩
 exact ⟨_,rfl,hb,fun b1 b2 b3=>k w2 b1 b3⟩
theorem VO.cI {i v off n c:Nat} {a y:AV} (hP:C.P=Tryz.prog) (e:stepOf C full F H o=.call (.fn 75 [.box i 0])) (hf:od C.P 75) (h1:H i=some (Runner,[.row v off n c,a,y])) (hn:n≠0) (hv:H v≠none)
  (k:∀ w2,aE C.K w w2→C.Old w2→aB C m full r K (F.bD o.dst (.kx v off)) H w2):aB C m full (o::r) K F H w:=by
 show one C m full o (aB C m full r K) F H w
 unfold one
 rw [e]
 intro w1 β a1 a2 a3
 have iD:Reach H (eg.fn 75 [.box i 0]).ids i:=.base (by simp [eg.ids,fy,AV.ids])
 have o1:=a3.own i iD _ _ h1
 refine ⟨hf,Calls.mono (show Calls C.P _ #[.pointer (some ⟨β i,0,none⟩)] w1 _ from hP▸Dg (β i) (β v) off n c _ _ w1 hn o1.cls) ?_⟩
 rintro e w2 ⟨rfl,hb⟩
 exact ⟨β,.kx v off,none,[],rfl,fun j hj=>.inr ⟨.step iD h1 (by have:j=v:=by simpa [AV.ids] using hj
                                                                rw [this];simp [ax,AV.cL]),by have:j=v:=by simpa [AV.ids] using hj
                                                                                              rw [this];exact hv,by simp⟩,.inr rfl,.inr rfl,wE.none hb,fun a b c _ _=>k w2 a c⟩
theorem VO.iA {i v off n c:Nat} {a y:AV} (hP:C.P=Tryz.prog) (e:stepOf C full F H o=.call (.fn 76 [.box i 0])) (hf:od C.P 76) (h1:H i=some (Runner,[.row v off n c,a,y])) (hn:1≤n) (eT:n≤c) (eV:c≤9223372036854775807) (hv:∀ j∈ax [.row v off n c,a,y],H j≠none) (hl:1≤lvl C.SU m o)
  (k:∀ w2,aE C.K w w2→C.Old w2→aB C m full r K (F.bD o.dst (.val (iC []))) (H.put i (Runner,[.row v (if c=1 then off else off + 5) (n - 1) (c - 1),a,y])) w2):aB C m full (o::r) K F H w:=by
 show one C m full o (aB C m full r K) F H w
 unfold one
 rw [e]
 intro w1 β a1 a2 a3
 have iD:Reach H (eg.fn 76 [.box i 0]).ids i:=.base (by simp [eg.ids,fy,AV.ids])
 have o1:=a3.own i iD _ _ h1
 have fR:=List.all_eq_true.1 o1.ok
 have ly:=cJ (β:=β) o1.ok
 refine ⟨hf,Calls.mono (show Calls C.P _ #[.pointer (some ⟨β i,0,none⟩)] w1 _ from hP▸Jd (β i) (β v) off n c (a.leaf β) (y.leaf β) w1 o1.cls (List.all_eq_true.1 ly _ (by simp)) (List.all_eq_true.1 ly _ (by simp)) hn eT eV) ?_⟩
 rintro e w2 ⟨rfl,hb,hc⟩
 refine ⟨β,.val (iC []),none,[(i,(Runner,[.row v (if c=1 then off else off + 5) (n - 1) (c - 1),a,y]))],rfl,fun i hi=>(by cases hi),.inl hl,.inr rfl,?_,fun a b c _ _=>k w2 a c⟩
 refine ⟨hb.os,hb.tape,hb.output,hb.size,fun k hk hx _ _=>hb.nh k hk (by simpa using hx),fun _ _=>rfl,fun i hi=>(by cases hi),fun i hi=>(by cases hi),fun x hx=> ?_,fun x hx=> ?_,by simp,fun x hx y hy _=> ?_,fun x hx j hj=> ?_⟩
 ·cases List.mem_singleton.1 hx
  refine ⟨o1.new,o1.ty,hc,?_⟩
  rw [List.all_cons,List.all_cons,fR a (by simp),List.all_cons,fR y (by simp)];rfl
 ·cases List.mem_singleton.1 hx
  exact .inl ⟨by rw [h1];simp,by simp,iD,rfl⟩
 ·cases List.mem_singleton.1 hx;cases List.mem_singleton.1 hy;rfl
 ·cases List.mem_singleton.1 hx
  exact .inr ⟨hv j (by simpa [ax,AV.cL] using hj),by simp⟩
theorem kY {β bG:Nat→Nat} {cs:List AV} {a:AV} (ha:a∈cs) (h:∀ i∈ax cs,bG i=β i):a.leaf bG=a.leaf β:=
 AV.mA fun i hi=>h i (aQ.2 ⟨a,ha,hi⟩)
theorem VO.xz {B i v d2 off n c jo:Nat} {a y:AV} {pre spare:List Value} {vs:List (List Value)} {q:List Vq} {val:Value} {d:Rat} (kk:Nat) (hP:C.P=Tryz.prog) (hK:C.K=KU UU)
  (e:stepOf C full F H o=.call (.fn 74 [.box i 0,.val (.int .i64 (jo:Int)),.val val])) (hf:od C.P 74) (h1:H i=some (Runner,[.row v off n c,a,y])) (h2:H v=some (cO,(pre++(vs.flatten++spare)).map .val)) (h3:H d2=none) (hd2:d2 < 2 * C.N) (hiv:i≠v)
  (gr:∀ j∈ax [a,y],H j≠none∧j≠v) (hl:lvl C.SU m o=2) (hO:∀ w1,aE C.K w w1→C.Old w1→cY (cH B) 5 w1 n off c pre vs spare q) (hv:∀ w1,aE C.K w w1→C.Old w1→cQ w1 val d) (hs:dV d kk) (hk:kk≤100000) (hn:n≤1000) (hB:B≤C.w0.heap.size)
  (k:∀ w2 aR n' c' bL gE ak ρ,aE C.K w w2→C.Old w2→cY (cH B) 5 w2 n' aR c' bL gE ak (kA jo d q)→
   aB C m full r K ((F.forget (some v) ρ).bD o.dst (.val (iC []))) (((H.forget (some v) ρ).put i (Runner,[.row d2 aR n' c',a,y])).put d2 (cO,(bL++(gE.flatten++ak)).map .val)) w2):aB C m full (o::r) K F H w:=by
 show one C m full o (aB C m full r K) F H w
 unfold one
 rw [e]
 intro w1 β a1 a2 a3
 have iD:Reach H (eg.fn 74 [.box i 0,.val (.int .i64 (jo:Int)),.val val]).ids i:=.base (by simp [eg.ids,fy,AV.ids])
 have jw:Reach H (eg.fn 74 [.box i 0,.val (.int .i64 (jo:Int)),.val val]).ids v:=.step iD h1 (by simp [ax,AV.cL])
 have o1:=a3.own i iD _ _ h1
 have o2:=a3.own v jw _ _ h2
 have fR:=List.all_eq_true.1 o1.ok
 have ly:=cJ (β:=β) o1.ok
 have gm:aW w1 (β v) cO (pre++(vs.flatten++spare)).toArray:=by have:=o2.cls;rw [ah] at this;exact this
 refine ⟨hf,Calls.mono (show Calls C.P _ #[.pointer (some ⟨β i,0,none⟩),.int .i64 (jo:Int),val] w1 _ from hP▸Mc B (β i) (β v) off n c jo pre vs spare q (a.leaf β) (y.leaf β) val d kk w1 o1.cls gm (hO w1 a1 a2) (List.all_eq_true.1 ly _ (by simp)) (List.all_eq_true.1 ly _ (by simp)) (hv w1 a1 a2) hs hk hn (Nat.le_trans hB (C.ey _ a2))) ?_⟩
 rintro e w2 ⟨rfl,hb,⟨tl,cl,l1,l2,l3⟩,b',aR,n',c',bL,gE,ak,xR,JN,hc',gI⟩
 have hne:∀ j,H j≠none→j≠d2:=fun j hj e=>hj (e▸h3)
 have hid:i≠d2:=hne i (by rw [h1];simp)
 have GO:v≠d2:=hne v (by rw [h2];simp)
 let bG:Nat→Nat:=fun j=>if j=d2 then b' else β j
 have e2:bG d2=b':=if_pos rfl
 have e1:∀ j,j≠d2→bG j=β j:=fun j hj=>if_neg hj
 have hag:∀ j∈ax [a,y],bG j=β j:=fun j hj=>e1 j (hne j (gr j hj).1)
 have hokv:((bL++(gE.flatten++ak)).map AV.val).all aH=true:=bb (gI.all (aM B))
 refine ⟨bG,.val (iC []),some v,[(i,(Runner,[.row d2 aR n' c',a,y])),(d2,(cO,(bL++(gE.flatten++ak)).map .val))],rfl,fun i hi=>(by cases hi),.inl (by omega),.inl (by omega),?_,fun p1 _ p3 ρ _=>k w2 aR n' c' bL gE ak ρ p1 p3 gI⟩
 refine ⟨hb.os,hb.tape,hb.output,hb.size,fun k hk hx iV _=>hb.nh k hk ?_,fun j hj=>e1 j (fun h=>hj (by simp [h])),fun j hj=> ?_,fun j hj=> ?_,fun x hx=> ?_,fun x hx=> ?_,by simpa using hid,fun x hx z hz he=> ?_,fun x hx j hj=> ?_⟩
 ·have g1:=hx (i,(Runner,[.row d2 aR n' c',a,y])) (by simp)
  have g2:=iV v rfl
  rw [e1 i hid] at g1
  simpa using ⟨g1,g2⟩
 ·cases hj
  exact ⟨jw,by rw [h2];simp⟩
 ·cases hj
  exact .inl (.inr ⟨tl,cl,l1,by rw [hK];exact l2,l3⟩)
 ·rcases List.mem_cons.1 hx with rfl | hx
  ·refine ⟨by rw [e1 i hid];exact o1.new,o1.ty,?_,?_⟩
   ·rw [e1 i hid]
    show aW w2 (β i) Runner #[.slice (some ⟨bG d2,aR,none⟩) n' c',a.leaf bG,y.leaf bG]
    rw [e2,kY (cs:=[a,y]) (by simp) hag,kY (cs:=[a,y]) (by simp) hag]
    exact JN
   ·rw [List.all_cons,List.all_cons,fR a (by simp),List.all_cons,fR y (by simp)];rfl
  ·cases List.mem_singleton.1 hx
   refine ⟨?_,o2.ty,?_,hokv⟩
   ·rw [e2]
    rcases xR with h | h
    ·exact C.rE _ _ (by omega) (by have:=C.ey _ a2;omega)
    ·rw [h];exact C.BK v d2 _ o2.new (by omega)
   ·rw [e2,ah];exact hc'
 ·rcases List.mem_cons.1 hx with rfl | hx
  ·exact .inl ⟨by rw [h1];simp,by simpa using fun h=>hiv h.symm,iD,e1 i hid⟩
  ·cases List.mem_singleton.1 hx
   refine .inr ⟨.inl h3,hd2,?_⟩
   rw [e2]
   exact xR.imp id fun h=>⟨v,rfl,h⟩
 ·have js:∀ (x:Nat×(TypeId×List AV)),x∈[(i,(Runner,[.row d2 aR n' c',a,y])),(d2,(cO,(bL++(gE.flatten++ak)).map AV.val))]→(x.1=i∧bG x.1=β i)∨(x.1=d2∧bG x.1=b'):=fun x hx=>by
   rcases List.mem_cons.1 hx with rfl | hx
   ·exact .inl ⟨rfl,e1 i hid⟩
   ·cases List.mem_singleton.1 hx;exact .inr ⟨rfl,e2⟩
  have hno:β i≠b':=fun h=>absurd (bo JN (h▸hc')) (by decide)
  rcases js x hx with ⟨g1,g2⟩ | ⟨g1,g2⟩ <;> rcases js z hz with ⟨g3,g4⟩ | ⟨g3,g4⟩
  ·rw [g1,g3]
  ·exact absurd (g2.symm.trans (he.trans g4)) hno
  ·exact absurd (g4.symm.trans (he.symm.trans g2)) hno
  ·rw [g1,g3]
 ·rcases List.mem_cons.1 hx with rfl | hx
  ·have hj':j=d2∨j∈ax [a,y]:=by
    obtain ⟨z,hz,hj2⟩:=aQ.1 hj
    rcases List.mem_cons.1 hz with rfl | hz
    ·exact .inl (by simpa [AV.cL] using hj2)
    ·exact .inr (aQ.2 ⟨z,hz,hj2⟩)
   rcases hj' with h | h
   ·exact .inl (by simp [h])
   ·exact .inr ⟨(gr j h).1,by simpa using fun h'=>(gr j h).2 h'.symm⟩
  ·cases List.mem_singleton.1 hx
   rw [ao] at hj;cases hj
theorem VO.Dh {B i d2 jo:Nat} {a y:AV} {val:Value} {d:Rat} (kk:Nat) (hP:C.P=Tryz.prog) (hK:C.K=KU UU)
  (e:stepOf C full F H o=.call (.fn 74 [.box i 0,.val (.int .i64 (jo:Int)),.val val])) (hf:od C.P 74) (h1:H i=some (Runner,[.val (.slice none 0 0),a,y])) (h3:H d2=none) (hd2:d2 < 2 * C.N)
  (gr:∀ j∈ax [a,y],H j≠none) (hl:1≤lvl C.SU m o) (hv:∀ w1,aE C.K w w1→C.Old w1→cQ w1 val d) (hs:dV d kk) (hk:kk≤100000) (hB:B≤C.w0.heap.size)
  (k1:∀ w2,aE C.K w w2→C.Old w2→¬ 0 < d→aB C m full r K (F.bD o.dst (.val (iC []))) (H.put i (Runner,[.val (.slice none 0 0),a,y])) w2)
  (k2:∀ w2 c' gE ak,aE C.K w w2→C.Old w2→0 < d→cY (cH B) 5 w2 1 0 c' [] gE ak [(jo,d)]→
   aB C m full r K (F.bD o.dst (.val (iC []))) ((H.put i (Runner,[.row d2 0 1 c',a,y])).put d2 (cO,(([]++(gE.flatten++ak):List Value)).map AV.val)) w2):aB C m full (o::r) K F H w:=by
 show one C m full o (aB C m full r K) F H w
 unfold one
 rw [e]
 intro w1 β a1 a2 a3
 have iD:Reach H (eg.fn 74 [.box i 0,.val (.int .i64 (jo:Int)),.val val]).ids i:=.base (by simp [eg.ids,fy,AV.ids])
 have o1:=a3.own i iD _ _ h1
 have fR:=List.all_eq_true.1 o1.ok
 have ly:=cJ (β:=β) o1.ok
 refine ⟨hf,Calls.mono (show Calls C.P _ #[.pointer (some ⟨β i,0,none⟩),.int .i64 (jo:Int),val] w1 _ from hP▸Md B (β i) jo (a.leaf β) (y.leaf β) val d kk w1 o1.cls (List.all_eq_true.1 ly _ (by simp)) (List.all_eq_true.1 ly _ (by simp)) (hv w1 a1 a2) hs hk (Nat.le_trans hB (C.ey _ a2))) ?_⟩
 rintro e w2 ⟨rfl,hb,⟨hd,JN⟩ | ⟨hd,b',c',gE,ak,xR,JN,hc',gI⟩⟩
 ·refine ⟨β,.val (iC []),none,[(i,(Runner,[.val (.slice none 0 0),a,y]))],rfl,fun i hi=>(by cases hi),.inl hl,.inr rfl,?_,fun p1 _ p3 _ _=>k1 w2 p1 p3 hd⟩
  refine ⟨hb.os,hb.tape,hb.output,hb.size,fun k hk hx _ _=>hb.nh k hk (by simpa using hx),fun _ _=>rfl,fun i hi=>(by cases hi),fun i hi=>(by cases hi),fun x hx=> ?_,fun x hx=> ?_,by simp,fun x hx y hy _=> ?_,fun x hx j hj=> ?_⟩
  ·cases List.mem_singleton.1 hx
   exact ⟨o1.new,o1.ty,JN,o1.ok⟩
  ·cases List.mem_singleton.1 hx
   exact .inl ⟨by rw [h1];simp,by simp,iD,rfl⟩
  ·cases List.mem_singleton.1 hx;cases List.mem_singleton.1 hy;rfl
  ·cases List.mem_singleton.1 hx
   exact .inr ⟨gr j (by simpa [ax,AV.cL] using hj),by simp⟩
 ·have hne:∀ j,H j≠none→j≠d2:=fun j hj e=>hj (e▸h3)
  have hid:i≠d2:=hne i (by rw [h1];simp)
  let bG:Nat→Nat:=fun j=>if j=d2 then b' else β j
  have e2:bG d2=b':=if_pos rfl
  have e1:∀ j,j≠d2→bG j=β j:=fun j hj=>if_neg hj
  have hag:∀ j∈ax [a,y],bG j=β j:=fun j hj=>e1 j (hne j (gr j hj))
  have hokv:(([]++(gE.flatten++ak)).map AV.val).all aH=true:=bb (gI.all (aM B))
  refine ⟨bG,.val (iC []),none,[(i,(Runner,[.row d2 0 1 c',a,y])),(d2,(cO,(([]++(gE.flatten++ak):List Value)).map AV.val))],rfl,fun i hi=>(by cases hi),.inl hl,.inr rfl,?_,fun p1 _ p3 _ _=>k2 w2 c' gE ak p1 p3 hd gI⟩
  refine ⟨hb.os,hb.tape,hb.output,hb.size,fun k hk hx _ _=>hb.nh k hk ?_,fun j hj=>e1 j (fun h=>hj (by simp [h])),fun i hi=>(by cases hi),fun i hi=>(by cases hi),fun x hx=> ?_,fun x hx=> ?_,by simpa using hid,fun x hx z hz he=> ?_,fun x hx j hj=> ?_⟩
  ·have g1:=hx (i,(Runner,[.row d2 0 1 c',a,y])) (by simp)
   rw [e1 i hid] at g1
   simpa using g1
  ·rcases List.mem_cons.1 hx with rfl | hx
   ·refine ⟨by rw [e1 i hid];exact o1.new,o1.ty,?_,?_⟩
    ·rw [e1 i hid]
     show aW w2 (β i) Runner #[.slice (some ⟨bG d2,0,none⟩) 1 c',a.leaf bG,y.leaf bG]
     rw [e2,kY (cs:=[a,y]) (by simp) hag,kY (cs:=[a,y]) (by simp) hag]
     exact JN
    ·rw [List.all_cons,List.all_cons,fR a (by simp),List.all_cons,fR y (by simp)];rfl
   ·cases List.mem_singleton.1 hx
    refine ⟨by rw [e2];exact C.rE _ _ (by omega) (by have:=C.ey _ a2;omega),by rw [hK];rfl,?_,hokv⟩
    rw [e2,ah];exact hc'
  ·rcases List.mem_cons.1 hx with rfl | hx
   ·exact .inl ⟨by rw [h1];simp,by simp,iD,e1 i hid⟩
   ·cases List.mem_singleton.1 hx
    refine .inr ⟨.inl h3,hd2,.inl ?_⟩
    rw [e2];exact xR
  ·have js:∀ (x:Nat×(TypeId×List AV)),x∈[(i,(Runner,[.row d2 0 1 c',a,y])),(d2,(cO,([]++(gE.flatten++ak)).map AV.val))]→(x.1=i∧bG x.1=β i)∨(x.1=d2∧bG x.1=b'):=fun x hx=>by
    rcases List.mem_cons.1 hx with rfl | hx
    ·exact .inl ⟨rfl,e1 i hid⟩
    ·cases List.mem_singleton.1 hx;exact .inr ⟨rfl,e2⟩
   have hno:β i≠b':=fun h=>absurd (bo JN (h▸hc')) (by decide)
   rcases js x hx with ⟨g1,g2⟩ | ⟨g1,g2⟩ <;> rcases js z hz with ⟨g3,g4⟩ | ⟨g3,g4⟩
   ·rw [g1,g3]
   ·exact absurd (g2.symm.trans (he.trans g4)) hno
   ·exact absurd (g4.symm.trans (he.symm.trans g2)) hno
   ·rw [g1,g3]
  ·rcases List.mem_cons.1 hx with rfl | hx
   ·have hj':j=d2∨j∈ax [a,y]:=by
     obtain ⟨z,hz,hj2⟩:=aQ.1 hj
     rcases List.mem_cons.1 hz with rfl | hz
     ·exact .inl (by simpa [AV.cL] using hj2)
     ·exact .inr (aQ.2 ⟨z,hz,hj2⟩)
    rcases hj' with h | h
    ·exact .inl (by simp [h])
    ·exact .inr ⟨gr j h,by simp⟩
   ·cases List.mem_singleton.1 hx
    rw [ao] at hj;cases hj
end
end Go.Proofs.YtabalinjfgcfeaaGreat
set_option maxRecDepth 4000
namespace Go.Proofs.YtabalinjfgcfeaaGreat
open Go.RowKit
attribute [local irreducible] aB VS
def Iz (D:Nat) (x:Rat):Prop:=∃ n:Int,x * ((D:Int):Rat)=((n:Int):Rat)
theorem Iz.zero {D:Nat}:Iz D 0:=⟨0,by rw [Rat.zero_mul];rfl⟩
theorem Iz.add {D:Nat} {x y:Rat} (h:Iz D x) (k:Iz D y):Iz D (x + y):=by
 obtain ⟨a,ha⟩:=h;obtain ⟨b,hb⟩:=k
 exact ⟨a + b,by rw [Rat.intCast_add,←ha,←hb];grind⟩
theorem Iz.sub {D:Nat} {x y:Rat} (h:Iz D x) (k:Iz D y):Iz D (x - y):=by
 obtain ⟨a,ha⟩:=h;obtain ⟨b,hb⟩:=k
 exact ⟨a - b,by rw [Rat.intCast_sub,←ha,←hb];grind⟩
theorem VO.via {C:Cx} {m:Option (List FuncId)} {full:Array Oper} {l:List Oper} {Q:Exit→Act→World→Prop} {F:Fr} {H:Hp} {w:World} {P:Fr→Hp→World→Prop} {stk0 stk1:List It} (h1:(∀ F' H' w',P F' H' w'→VS C Q stk1 F' H' w')→aB C m full l (VS C Q stk0) F H w) (h2:∀ F' H' w',P F' H' w'→VS C Q stk1 F' H' w'):aB C m full l (VS C Q stk0) F H w:=h1 h2
theorem vJ {d:Rat} (h:d≠0):dK d 0≠0:=fun e=>h (by
 have h1:=jG.1 (show dK d 0≤0 by omega)
 have h2:=rX.1 (show dK d 0≥0 by omega)
 grind)
theorem rnr_ok' {a y:AV} {r:Value} (h:aH a=true) (hr:aU r=true) (hu:aH y=true):[a,.val r,y].all aH=true:=by
 rw [List.all_cons,List.all_cons,List.all_cons,h,hu]
 show (true && (aU r && true))=true
 rw [hr];rfl
structure uR (B:Nat) (w:World) (n c:Nat) (vs:List (List Value)) (sp:List AV) (es:List Uq):Prop where
 len:n=es.length
 el:cM (np B) w es vs
 so:sp.all aH=true
 sl:ax sp=[]
 le:n≤c
 cm:c≤9223372036854775807
 fl:(vs.flatten.map AV.val++sp).length=c * 6
theorem uR.kp {B n c:Nat} {w w':World} {vs:List (List Value)} {sp:List AV} {es:List Uq} (h:uR B w n c vs sp es) (k:Kp UU w w'):uR B w' n c vs sp es:=⟨h.len,h.el.kp (dm B) k,h.so,h.sl,h.le,h.cm,h.fl⟩
theorem uR.o {B n c:Nat} {w:World} {vs:List (List Value)} {sp:List AV} {es:List Uq} (h:uR B w n c vs sp es) (β:Nat→Nat):cY (np B) 6 w n 0 c [] vs (sp.map (AV.leaf β)) es:=
 ⟨h.len,.inl rfl,rfl,h.el,cJ h.so,h.le,h.cm,by have:=h.fl;rw [List.length_append,List.length_map] at this;rw [List.length_append,List.length_map];exact this⟩
theorem bh {pre:List Value} {off:Nat} {cs:List Value} {vs:List (List Value)} {spare:List Value} (iP:pre.length=off) (k:Nat) (ds:List Value) (hd:ds <+:cs.drop k):∀ (j:Nat) (u:AV),(ds.map AV.val)[j]? =some u→((pre++((cs::vs).flatten++spare)).map AV.val)[off + k + j]? =some u:=by
 intro j u hj
 obtain ⟨t,ht⟩:=hd
 rw [List.getElem?_map] at hj ⊢
 have hlt:j < ds.length:=by
  by_cases h:j < ds.length
  ·exact h
  ·rw [List.getElem?_eq_none (by omega)] at hj;cases hj
 have hk:k + j < cs.length:=by
  have:=congrArg List.length ht
  rw [List.length_append,List.length_drop] at this;omega
 rw [List.getElem?_append_right (by omega),iP,List.flatten_cons,List.append_assoc,show off + k + j - off=k + j by omega,List.getElem?_append_left hk,←List.getElem?_drop,←ht,List.getElem?_append_left hlt]
 exact hj
theorem si {pre:List Value} {off:Nat} {a x1 x2 x3 x4 y1 y2 y3 y4:Value} {vs:List (List Value)} {spare:List Value} (iP:pre.length=off):
  ((pre++(([a,x1,x2,x3,x4]::vs).flatten++spare)).map AV.val).take (off + 1)++([.val y1,.val y2,.val y3,.val y4]++((pre++(([a,x1,x2,x3,x4]::vs).flatten++spare)).map AV.val).drop (off + 1 + 4))=(pre++(([a,y1,y2,y3,y4]::vs).flatten++spare)).map AV.val:=by
 have e:off=(pre.map AV.val).length:=by rw [List.length_map];exact iP.symm
 rw [List.map_append,e,Nat.add_assoc,List.take_length_add_append,List.drop_length_add_append,List.append_assoc,List.map_append]
 simp
theorem mM {pre:List Value} {off c':Nat} {a y1 y2 y3 y4:Value} (iP:pre.length=off):(pre++[a,y1,y2,y3,y4]).length=(if c'=1 then off else off + 5)∨c' - 1=0:=by
 by_cases h:c'=1
 ·exact .inr (by omega)
 ·rw [if_neg h,List.length_append,iP];exact .inl rfl
theorem mO {a x1 x2 x3 x4:Value} {vs:List (List Value)} {spare:List Value} {c':Nat} (h:(([a,x1,x2,x3,x4]::vs).flatten++spare).length=c' * 5):(vs.flatten++spare).length=(c' - 1) * 5:=by
 rw [List.flatten_cons,List.append_assoc,List.length_append] at h
 have h':5 + (vs.flatten++spare).length=c' * 5:=h
 omega
theorem dM (pre cs:List Value) (vs:List (List Value)) (spare:List Value):(pre++((cs::vs).flatten++spare)).map AV.val=((pre++cs)++(vs.flatten++spare)).map AV.val:=by
 rw [List.flatten_cons,List.append_assoc,List.append_assoc]
def sj (B:Nat) (D:Nat) (M:Rat) (W0:World) (rv:Value) (y:Nat) (q:List Vq) (m:Rat) (idx:Nat) (L:List (Nat×AV)) (Mm:List (Nat×(TypeId×List AV))) (w':World):Prop:=
 ∃ (q':List Vq) (aR n' c':Nat) (bL:List Value) (gE:List (List Value)) (ak:List Value) (m' s':Rat) (done:List Uq) (v8 Us:AV) (Um:List (Nat×(TypeId×List AV))) (s1 t1 s2 t2:Bool) (p1 y1 p2 y2:Option Addr) (n1 c1 m1 d1 n2 c2 m2 d2:Nat),
   idx=2 * q'.length + (if 0 < m' then 1 else 0)∧L=[(0,.box 154 0),(1,.val (.int .i64 (y:Int))),(5,.box 5 0),(6,.box 6 0),(7,.box 7 0),(8,v8)]∧
   Mm=(154,(Runner,[.row 155 aR n' c',.val rv,Us]))::(155,(cO,(bL++(gE.flatten++ak)).map .val))::(5,(26,([.bool s1,.slice p1 n1 c1,.bool t1,.slice y1 m1 d1]:List Value).map .val))::(6,(26,([.bool false,.slice none 0 0,.bool false,.slice none 0 0]:List Value).map .val))::(7,(26,([.bool s2,.slice p2 n2 c2,.bool t2,.slice y2 m2 d2]:List Value).map .val))::Um∧
   cY (cH B) 5 w' n' aR c' bL gE ak q'∧cQ w' (.agg #[.bool s1,.slice p1 n1 c1,.bool t1,.slice y1 m1 d1]) m'∧aK w' W0.heap.size (.agg #[.bool s2,.slice p2 n2 c2,.bool t2,.slice y2 m2 d2]) s'∧Iz D m'∧Iz D s'∧0≤m'∧0≤s'∧s' + m'=m∧(∀ p∈q',Iz D p.2∧0≤p.2∧p.2≤M)∧
   nH y q m=done++nH y q' m'∧kW q m=kW q' m'∧qW q m=s' + qW q' m'∧((n'=0∧v8=.val (.pointer none))∨(n'≠0∧v8=.kx 155 aR))∧done.length + (if 0 < m' then q'.length else 0)≤q.length∧
   ((Us=.val (.slice none 0 0)∧Um=[]∧done=[])∨∃ un uc oI qL,Us=.row 47 0 un uc∧Um=[(47,(et,oI.flatten.map .val++qL))]∧uR B w' un uc oI qL (done))
def sk (B:Nat) (D:Nat) (M:Rat) (W0:World) (rv:Value) (y:Nat) (q:List Vq) (m:Rat) (yq Ax:Nat) (me:List (List Value)) (nt:List Value) (us0:List Uq) (idx:Nat) (L:List (Nat×AV)) (Mm:List (Nat×(TypeId×List AV))) (w':World):Prop:=
 ∃ (q':List Vq) (aR n' c':Nat) (bL:List Value) (gE:List (List Value)) (ak:List Value) (m' s':Rat) (done:List Uq) (v8 Us:AV) (Um:List (Nat×(TypeId×List AV))) (s1 t1 s2 t2:Bool) (p1 y1 p2 y2:Option Addr) (n1 c1 m1 d1 n2 c2 m2 d2:Nat),
   idx=2 * q'.length + (if 0 < m' then 1 else 0)∧L=[(0,.box 154 0),(1,.val (.int .i64 (y:Int))),(5,.box 5 0),(6,.box 6 0),(7,.box 7 0),(8,v8)]∧
   Mm=(154,(Runner,[.row 155 aR n' c',.val rv,Us]))::(155,(cO,(bL++(gE.flatten++ak)).map .val))::(5,(26,([.bool s1,.slice p1 n1 c1,.bool t1,.slice y1 m1 d1]:List Value).map .val))::(6,(26,([.bool false,.slice none 0 0,.bool false,.slice none 0 0]:List Value).map .val))::(7,(26,([.bool s2,.slice p2 n2 c2,.bool t2,.slice y2 m2 d2]:List Value).map .val))::Um∧
   cY (cH B) 5 w' n' aR c' bL gE ak q'∧cQ w' (.agg #[.bool s1,.slice p1 n1 c1,.bool t1,.slice y1 m1 d1]) m'∧aK w' W0.heap.size (.agg #[.bool s2,.slice p2 n2 c2,.bool t2,.slice y2 m2 d2]) s'∧Iz D m'∧Iz D s'∧0≤m'∧0≤s'∧s' + m'=m∧(∀ p∈q',Iz D p.2∧0≤p.2∧p.2≤M)∧
   nH y q m=done++nH y q' m'∧kW q m=kW q' m'∧qW q m=s' + qW q' m'∧((n'=0∧v8=.val (.pointer none))∨(n'≠0∧v8=.kx 155 aR))∧done.length + (if 0 < m' then q'.length else 0)≤q.length∧
   ((Us=.row 156 0 yq Ax∧Um=[(156,(et,me.flatten.map .val++nt.map .val))]∧done=[]∧aE (KU UU) W0 w')∨∃ un uc oI qL,Us=.row 47 0 un uc∧Um=[(47,(et,oI.flatten.map .val++qL))]∧uR B w' un uc oI qL (us0++done))
set_option maxRecDepth 4000 in
set_option maxHeartbeats 8000000 in
theorem Me (B g b off n c y D kk:Nat) (M m:Rat) (pre:List Value) (vs:List (List Value)) (spare:List Value) (q:List Vq) (rv v:Value) (w:World)
  (hg:aW w g Runner #[.slice (some ⟨b,off,none⟩) n c,rv,.slice none 0 0]) (hb:aW w b cO (pre++(vs.flatten++spare)).toArray) (hO:cY (cH B) 5 w n off c pre vs spare q) (hr:aU rv=true) (hv:cQ w v m) (hmI:Iz D m) (yp:0≤m) (hmM:m≤M) (hq:∀ p∈q,Iz D p.2∧0≤p.2∧p.2≤M)
  (hK:∀ x,Iz D x→0≤x→x≤M→dV x kk) (hk:kk≤100000) (jv:q.length≤1000) (hB:B≤w.heap.size):
  Calls Tryz.prog 73 #[.pointer (some ⟨g,0,none⟩),.int .i64 (y:Int),v] w fun o w'=>∃ x,o=.returned x∧aK w' w.heap.size x (qW q m)∧qA [g,b] w w'∧∃ aR n' c' bL gE ak uv,aW w' g Runner #[.slice (some ⟨b,aR,none⟩) n' c',rv,uv]∧aW w' b cO (bL++(gE.flatten++ak)).toArray∧cY (cH B) 5 w' n' aR c' bL gE ak (kW q m)∧((uv=.slice none 0 0∧nH y q m=[])∨∃ b' un uc oI qL,w.heap.size≤b'∧uv=.slice (some ⟨b',0,none⟩) un uc∧aW w' b' et (oI.flatten++qL).toArray∧cY (np B) 6 w' un 0 uc [] oI qL (nH y q m)):=by
 have hgb:g≠b:=fun e=>by subst e;exact absurd (bo hg hb) (by decide)
 obtain ⟨s0,p0,n0,c0,t0,y0,m0,d0,rfl⟩:=hv.form
 have pM:iG (KU UU) 77 [g,b] [(Runner,[.row 155 off n c,.val rv,.val (.slice none 0 0)]),(cO,(pre++(vs.flatten++spare)).map .val)] w:=by
  refine ⟨rfl,by simp [hgb],fun j g' c' hj hc=> ?_,fun c' hc=> ?_,fun c' hc k hk=> ?_⟩
  ·match j,hj,hc with
   | 0,hj,hc=>cases hj;cases hc;exact hg
   | 1,hj,hc=>cases hj;cases hc;rw [ah];exact hb
   | j + 2,hj,_=>simp at hj
  ·rcases List.mem_cons.1 hc with rfl | hc
   ·exact ⟨rfl,Au rfl hr rfl⟩
   ·cases List.mem_singleton.1 hc
    exact ⟨rfl,bb (hO.all (aM B))⟩
  ·rcases List.mem_cons.1 hc with rfl | hc
   ·have:k=155:=by simpa [ax,AV.cL] using hk
    subst this;exact ⟨by omega,by show 155 < 2 * 77 + 2;omega⟩
   ·cases List.mem_singleton.1 hc
    rw [ao] at hk;cases hk
 refine ea Tryz.prog w _ (KU UU) (fun t=>Nat.beq t 22) table (fun _ _=>trivial) (ad:=[g,b]) (us:=[_,_]) Tryz.func73 rfl Tryz.ntmps73 (Nat.le_of_ble_eq_true rfl) pM (Nat.le_of_ble_eq_true rfl) ?_
 (repeat first|refine wN ?_|refine wP rfl ?_|refine af rfl ?_|refine ag rfl ?_|refine wO rfl rfl ?_)
 refine VO.call rfl rfl (fk Tryz.func44) (fun cC er dv=>((bF 0 cC (by omega) (by omega)).mono (fun o w2 h=>And.intro h dv.1.size)).mono ?_)
 rintro o w1 ⟨⟨r9,rfl,q9,Gf⟩,Fx⟩
 obtain ⟨s9,p9,n9,c9,t9,y9,m9,d9,rfl⟩:=q9.form
 refine ⟨_,rfl,Gf,fun Ba _ bb9=>wV rfl ?_⟩
 (repeat first|refine wN ?_|refine wP rfl ?_|refine af rfl ?_|refine ag rfl ?_|refine wO rfl rfl ?_)
 have LV:((0:Int):Rat)=0:=rfl
 rw [LV] at q9
 apply VO.via (P:=fun F' H' w'=>Entry (sj B D M w rv y q m ) (2 * q.length + (if 0 < m then 1 else 0)) F' H' w')
 ·intro cont
  by_cases lH:n=0
  ·refine VO.cZ (x:=.row 155 off n c) (p:=fun _=>none) (c:=c) rfl (fun β=>.inr ⟨_,congrArg (fun n=>Value.slice (some ⟨β 155,off,none⟩) n c) lH⟩) rfl (fk Tryz.func75) rfl (fun w3 k3 b3=>wV rfl ?_)
   (repeat first|refine wN ?_|refine wP rfl ?_|refine af rfl ?_|refine ag rfl ?_|refine wO rfl rfl ?_)
   refine cont _ _ _ ⟨_,_,?_,?_,?_,?_,⟨q,off,n,c,pre,vs,spare,m,0,[],.val (.pointer none),_,_,_,_,_,_,_,_,_,_,_,_,_,_,_,_,_,_,rfl,rfl,rfl,hO.kp (aM B) (by (with_reducible (repeat (first | assumption | exact kU _ | exact kR _ | exact Kp.of (U:=UU) (by assumption) | exact aE.of (by assumption) | refine kT ?_ (by assumption))))),hv.k,(q9.mono Fx).kp (by (with_reducible (repeat (first | assumption | exact kU _ | exact kR _ | exact Kp.of (U:=UU) (by assumption) | exact aE.of (by assumption) | refine kT ?_ (by assumption))))),hmI,Iz.zero,yp,Rat.le_refl,by grind,hq,rfl,rfl,by grind,.inl ⟨lH,rfl⟩,by split <;> simp,.inl ⟨rfl,rfl,rfl⟩⟩⟩
   ·(repeat first|exact trivial|refine ⟨rfl,?_⟩)
   ·(repeat first|exact trivial|refine ⟨rfl,?_⟩)
   ·rfl
   ·exact ⟨.lit rfl,.vals _,.vals _,.vals _,.vals _,trivial⟩
  ·refine VO.cI rfl rfl (fk Tryz.func75) rfl lH (by intro h;cases h) (fun w3 k3 b3=>wV rfl ?_)
   (repeat first|refine wN ?_|refine wP rfl ?_|refine af rfl ?_|refine ag rfl ?_|refine wO rfl rfl ?_)
   refine cont _ _ _ ⟨_,_,?_,?_,?_,?_,⟨q,off,n,c,pre,vs,spare,m,0,[],.kx 155 off,_,_,_,_,_,_,_,_,_,_,_,_,_,_,_,_,_,_,rfl,rfl,rfl,hO.kp (aM B) (by (with_reducible (repeat (first | assumption | exact kU _ | exact kR _ | exact Kp.of (U:=UU) (by assumption) | exact aE.of (by assumption) | refine kT ?_ (by assumption))))),hv.k,(q9.mono Fx).kp (by (with_reducible (repeat (first | assumption | exact kU _ | exact kR _ | exact Kp.of (U:=UU) (by assumption) | exact aE.of (by assumption) | refine kT ?_ (by assumption))))),hmI,Iz.zero,yp,Rat.le_refl,by grind,hq,rfl,rfl,by grind,.inr ⟨lH,rfl⟩,by split <;> simp,.inl ⟨rfl,rfl,rfl⟩⟩⟩
   ·(repeat first|exact trivial|refine ⟨rfl,?_⟩)
   ·(repeat first|exact trivial|refine ⟨rfl,?_⟩)
   ·rfl
   ·exact ⟨.lit rfl,.vals _,.vals _,.vals _,.vals _,trivial⟩
 ·intro F0 H0 w0' hent
  refine VS.loop (J:=sj B D M w rv y q m ) _ hent ?_
  rintro idx L Mm w' ⟨q',aR,n',c',bL,gE,ak,m',s',done,v8,Us,Um,s1,t1,s2,t2,p1,y1,p2,y2,n1,c1,m1,d1,n2,c2,m2,d2,rfl,rfl,rfl,gI,DY,uD,lC,Jf,tD,hs0,hsm,zL,eU,eL,eS,Jg,iV,hUs⟩
  have oJ:m'≤M:=by grind
  have hsM:s'≤M:=by grind
  rcases hUs with ⟨rfl,rfl,rfl⟩ | ⟨un,uc,oI,qL,rfl,rfl,tG⟩
  ·rcases Jg with ⟨lH,rfl⟩ | ⟨lH,rfl⟩
   ·have DJ:q'=[]:=List.eq_nil_of_length_eq_zero (by rw [←gI.len];exact lH)
    subst DJ
    have fU:nH y [] m'=[]:=rfl
    have fL:kW [] m'=[]:=rfl
    have fS:qW [] m'=0:=rfl
    (repeat first|refine wN ?_|refine wP rfl ?_|refine af rfl ?_|refine ag rfl ?_|refine wO rfl rfl ?_)
    refine VS.oy (bk _ _) rfl (fun wz β kz oz en=> ?_)
    obtain ⟨o1,o2⟩:=eb (en.own 154 _ _ rfl) 0 g rfl rfl
    obtain ⟨o3,o4⟩:=eb (en.own 155 _ _ rfl) 1 b rfl rfl
    rw [ah] at o4
    replace o3:β 155=b:=o3
    rw [fU] at eU
    rw [fL] at eL
    rw [fS,show s' + 0=s' by grind] at eS
    refine ⟨_,rfl,?_,oz.1,aR,n',c',bL,gE,ak,.slice none 0 0,?_,o4,?_,.inl ⟨rfl,?_⟩⟩
    ·rw [eS];exact uD.k
    ·rw [←o3];exact o2
    ·rw [eL];exact gI.kp (aM B) (by (with_reducible (repeat (first | assumption | exact kU _ | exact kR _ | exact Kp.of (U:=UU) (by assumption) | exact aE.of (by assumption) | refine kT ?_ (by assumption)))))
    ·rw [eU];rfl
   ·obtain ⟨e,fv,rfl⟩:∃ e fv,q'=e::fv:=by
     cases q' with
     | nil=>exact absurd gI.len lH
     | cons e fv=>exact ⟨e,fv,rfl⟩
    obtain ⟨cs,fO,rfl,hE,qM⟩:∃ cs fO,gE=cs::fO∧cH B w' cs e∧cM (cH B) w' fv fO:=by
     have:=gI.el
     cases this with
     | cons h1 h2=>exact ⟨_,_,rfl,h1,h2⟩
    obtain ⟨s3,p3,n3,c3,t3,y3,m3,d3,rfl,Mf⟩:=hE
    have uP:=gI.le
    have qG:=gI.len
    have uL:=gI.cm
    have iP:bL.length=aR:=gI.pl.resolve_right (by omega)
    obtain ⟨ni,zU,Gr⟩:=zL e (by simp)
    (repeat first|refine wN ?_|refine wP rfl ?_|refine af rfl ?_|refine ag rfl ?_|refine wO rfl rfl ?_)
    obtain ⟨sg,jn⟩:∃ sg,dK m' 0=sg:=⟨_,rfl⟩
    refine VO.call rfl rfl (fk Tryz.func13) (fun cC er dv=>(bS _ m' kk cC (DY.ki (hK m' lC tD oJ)) (by omega) sg jn).mono ?_)
    rintro e w1 ⟨rfl,aV⟩
    skip
    refine ⟨_,rfl,aV,fun fe _ bb1=>wV rfl ?_⟩
    (repeat first|refine wN ?_|refine wP rfl ?_|refine af rfl ?_|refine ag rfl ?_|refine wO rfl rfl ?_)
    by_cases hm:0 < m'
    ·have jk:sg > 0:=by rw [←jn];exact ff.2 hm
     rw [if_pos hm] at iV
     refine VS.bE rfl (decide_eq_true jk) ?_
     (repeat first|refine wN ?_|refine wP rfl ?_|refine af rfl ?_|refine ag rfl ?_|refine wO rfl rfl ?_)
     refine VO.dh rfl (([.bool s3,.slice p3 n3 c3,.bool t3,.slice y3 m3 d3]:List Value).map .val) rfl (bh iP 1 _ ⟨[],rfl⟩) (wV rfl ?_)
     (repeat first|refine wN ?_|refine wP rfl ?_|refine af rfl ?_|refine ag rfl ?_|refine wO rfl rfl ?_)
     have pZ:=cR e.2 m'
     have Fy:0≤ai e.2 m':=by rcases pZ with ⟨h,_⟩ | ⟨h,_⟩ <;> rw [h] <;> assumption
     have pw:Iz D (ai e.2 m'):=by rcases pZ with ⟨h,_⟩ | ⟨h,_⟩ <;> rw [h] <;> assumption
     have za:=di e.2 m'
     have vC:=cd e.2 m'
     have lI:=hK _ pw Fy (Rat.le_trans vC oJ)
     refine VO.fI rfl (fk Tryz.func71) (fun dC β gu eu ho=>((fJ _ _ e.2 [m'] kk dC (Mf.rd.ki (hK e.2 ni zU Gr)) (dW (ho.own 31 (.base (List.mem_singleton.2 rfl)) _ _ rfl) [] (vs:=[[.bool s1,.slice p1 n1 c1,.bool t1,.slice y1 m1 d1]]) (by rfl) rfl (bZ.cons (DY.ki (hK m' lC tD oJ)) bZ.nil) (Nat.le_of_ble_eq_true rfl) (by decide)) (by omega) (Nat.le_of_ble_eq_true rfl)).mono (fun o w2 h=>And.intro h eu.1.size)).mono ?_)
     rintro o w2 ⟨⟨r4,rfl,q4,z4,bm⟩,qN⟩
     rw [gR] at q4
     have xA:aK w2 w.heap.size r4 (ai e.2 m'):=q4.mono qN
     obtain ⟨s4,p4,n4,c4,t4,y4,m4,d4,rfl⟩:=xA.form
     refine ⟨_,rfl,bm,fun fZ _ bb2=>wV rfl ?_⟩
     (repeat first|refine wN ?_|refine wP rfl ?_|refine af rfl ?_|refine ag rfl ?_|refine wO rfl rfl ?_)
     refine VO.dh rfl (([.int .i64 (e.1:Int)]:List Value).map .val) rfl (bh iP 0 _ ⟨_,rfl⟩) (wV rfl ?_)
     (repeat first|refine wN ?_|refine wP rfl ?_|refine af rfl ?_|refine ag rfl ?_|refine wO rfl rfl ?_)
     refine VO.app (bk _ _) (t:=34) (e:=et) (sz:=6) (n:=0) (c:=0) (mm:=1) (known:=[]) (spare:=[]) (del:=none) (news:=([.int .i64 (e.1:Int),.int .i64 (y:Int),.bool s4,.slice p4 n4 c4,.bool t4,.slice y4 m4 d4]:List Value).map .val) (dst:=47) rfl rfl rfl rfl rfl rfl rfl rfl (Nat.le_of_ble_eq_true rfl) rfl (.inl ⟨rfl,rfl,rfl,rfl,rfl,rfl,by omega⟩) (.inl rfl) rfl rfl (Nat.le_refl _) (by omega) ⟨rfl,rfl,rfl⟩ ⟨rfl,rfl,rfl⟩ rfl (by omega)
      (fun w1 β k1 b1 ho=>⟨_,_,rfl,.inr ⟨β 46,0,rfl,cK (rest:=[]) (ho.own 46 (.base (List.mem_append_right _ (List.mem_singleton.2 rfl))) _ _ rfl) rfl⟩⟩)
      (fun nD cap' eG ρ GM GN fC jc gm ed mL dy=>wV rfl ?_)
     (repeat first|refine wN ?_|refine wP rfl ?_|refine af rfl ?_|refine ag rfl ?_|refine wO rfl rfl ?_)
     have xS:uR B nD (0 + 1) cap' ([[.int .i64 (e.1:Int),.int .i64 (y:Int),.bool s4,.slice p4 n4 c4,.bool t4,.slice y4 m4 d4]]:List (List Value)) eG (([]++[(e.1,y,ai e.2 m')])):=⟨by simp <;> omega,by exact cM.cons (show np B nD [.int .i64 (e.1:Int),.int .i64 (y:Int),.bool s4,.slice p4 n4 c4,.bool t4,.slice y4 m4 d4] (e.1,y,ai e.2 m') from ⟨s4,p4,n4,c4,t4,y4,m4,d4,rfl,(xA.mono hB).kp (by (with_reducible (repeat (first | assumption | exact kU _ | exact kR _ | exact Kp.of (U:=UU) (by assumption) | exact aE.of (by assumption) | refine kT ?_ (by assumption)))))⟩) cM.nil,mL,dy,jc,gm,by simpa using ed⟩
     refine VO.call rfl rfl (fk Tryz.func16) (fun kg mG ku=>((dx _ _ s' (ai e.2 m') kk kk kg (uD.rd.ki (hK s' Jf hs0 hsM)) (xA.rd.ki lI) (by omega) (by omega)).mono (fun o w2 h=>And.intro h ku.1.size)).mono ?_)
     rintro o w5 ⟨⟨r5,rfl,q5,gi⟩,qO⟩
     obtain ⟨s5,p5,n5,c5,t5,y5,m5,d5,rfl⟩:=q5.form
     refine ⟨_,rfl,gi,fun nk _ xf=>wV rfl ?_⟩
     (repeat first|refine wN ?_|refine wP rfl ?_|refine af rfl ?_|refine ag rfl ?_|refine wO rfl rfl ?_)
     refine VO.call rfl rfl (fk Tryz.func72) (fun pK ux tw=>(bW _ _ m' (ai e.2 m') kk kk pK (DY.ki (hK m' lC tD oJ)) (xA.rd.ki lI) (by omega) (by omega)).mono ?_)
     rintro e w6 ⟨r6,rfl,q6,mX⟩
     obtain ⟨s6,p6,n6,c6,t6,y6,m6,d6,rfl⟩:=q6.form
     refine ⟨_,rfl,mX,fun tx _ CR=>wV rfl ?_⟩
     (repeat first|refine wN ?_|refine wP rfl ?_|refine af rfl ?_|refine ag rfl ?_|refine wO rfl rfl ?_)
     refine VO.dh rfl (([.bool s3,.slice p3 n3 c3,.bool t3,.slice y3 m3 d3]:List Value).map .val) rfl (bh iP 1 _ ⟨[],rfl⟩) (wV rfl ?_)
     (repeat first|refine wN ?_|refine wP rfl ?_|refine af rfl ?_|refine ag rfl ?_|refine wO rfl rfl ?_)
     refine VO.call rfl rfl (fk Tryz.func72) (fun yn DX xX=>((bW _ _ e.2 (ai e.2 m') kk kk yn (Mf.rd.ki (hK e.2 ni zU Gr)) (xA.rd.ki lI) (by omega) (by omega)).mono (fun o w2 h=>And.intro h xX.1.size)).mono ?_)
     rintro o w7 ⟨⟨r7,rfl,q7,uO⟩,Fz⟩
     obtain ⟨s7,p7,n7,c7,t7,y7,m7,d7,rfl⟩:=q7.form
     refine ⟨_,rfl,uO,fun zj _ bb7=>wV rfl ?_⟩
     (repeat first|refine wN ?_|refine wP rfl ?_|refine af rfl ?_|refine ag rfl ?_|refine wO rfl rfl ?_)
     refine VO.cond rfl (by show aR + 1 + 4≤_;rw [List.length_map,List.length_append,List.length_append,List.flatten_cons,List.length_append,iP];show aR + 1 + 4≤aR + (6 - 1 + _ + _);omega) (VO.ft 155 rfl (si iP) (wV rfl ?_))
     (repeat first|refine wN ?_|refine wP rfl ?_|refine af rfl ?_|refine ag rfl ?_|refine wO rfl rfl ?_)
     refine VO.dh rfl (([.bool s7,.slice p7 n7 c7,.bool t7,.slice y7 m7 d7]:List Value).map .val) rfl (bh iP 1 _ ⟨[],rfl⟩) (wV rfl ?_)
     (repeat first|refine wN ?_|refine wP rfl ?_|refine af rfl ?_|refine ag rfl ?_|refine wO rfl rfl ?_)
     have xV:0≤e.2 - ai e.2 m':=by grind
     have Mg:e.2 - ai e.2 m'≤M:=by grind
     have Mh:Iz D (e.2 - ai e.2 m'):=ni.sub pw
     obtain ⟨jD,jE⟩:∃ jD,dK (e.2 - ai e.2 m') 0=jD:=⟨_,rfl⟩
     refine VO.call rfl rfl (fk Tryz.func13) (fun uQ Fg zl=>(bS _ (e.2 - ai e.2 m') kk uQ (q7.ki (hK _ Mh xV Mg)) (by omega) jD jE).mono ?_)
     rintro e w8 ⟨rfl,qU⟩
     skip
     refine ⟨_,rfl,qU,fun vH _ JL=>wV rfl ?_⟩
     (repeat first|refine wN ?_|refine wP rfl ?_|refine af rfl ?_|refine ag rfl ?_|refine wO rfl rfl ?_)
     have hE7:cH B w8 [.int .i64 (e.1:Int),.bool s7,.slice p7 n7 c7,.bool t7,.slice y7 m7 d7] (e.1,e.2 - ai e.2 m'):=⟨s7,p7,n7,c7,t7,y7,m7,d7,rfl,(q7.mono (Nat.le_trans hB Fz)).kp (by (with_reducible (repeat (first | assumption | exact kU _ | exact kR _ | exact Kp.of (U:=UU) (by assumption) | exact aE.of (by assumption) | refine kT ?_ (by assumption)))))⟩
     have yW:=gI.so
     have Je:=gI.po
     have sO:=gI.fl
     have CC:0≤m' - ai e.2 m':=by grind
     have EO:0≤s' + ai e.2 m':=by grind
     have xB:s' + ai e.2 m' + (m' - ai e.2 m')=m:=by grind
     have xC:=(q6.kr (w':=w8) (by (with_reducible (repeat (first | assumption | exact kU _ | exact kR _ | exact Kp.of (U:=UU) (by assumption) | exact aE.of (by assumption) | refine kT ?_ (by assumption))))))
     have xD:aK w8 w.heap.size _ (s' + ai e.2 m'):=(q5.mono qO).kp (by (with_reducible (repeat (first | assumption | exact kU _ | exact kR _ | exact Kp.of (U:=UU) (by assumption) | exact aE.of (by assumption) | refine kT ?_ (by assumption)))))
     have Mi:cM (cH B) w8 fv fO:=qM.kp (aM B) (by (with_reducible (repeat (first | assumption | exact kU _ | exact kR _ | exact Kp.of (U:=UU) (by assumption) | exact aE.of (by assumption) | refine kT ?_ (by assumption)))))
     by_cases hz:e.2 - ai e.2 m'=0
     ·have qP:(jD == 0)=true:=by rw [←jE,hz];rfl
      refine VS.bE rfl qP ?_
      (repeat first|refine wN ?_|refine wP rfl ?_|refine af rfl ?_|refine ag rfl ?_|refine wO rfl rfl ?_)
      obtain ⟨e1,e2,e3⟩:=fN (y:=y) (p:=e) (q:=fv) hm hz
      rw [e1,←List.singleton_append,←List.append_assoc] at eU
      rw [e2] at eL
      rw [e3] at eS
      refine VO.iA rfl rfl (fk Tryz.func76) rfl (by omega) uP uL (fun j hj=> ?_) (Nat.le_of_ble_eq_true rfl) (fun w9 k9 b9=>wV rfl ?_)
      ·rcases List.mem_cons.1 hj with rfl | hj
       ·intro h;cases h
       ·cases List.mem_singleton.1 hj
        intro h;cases h
      (repeat first|refine wN ?_|refine wP rfl ?_|refine af rfl ?_|refine ag rfl ?_|refine wO rfl rfl ?_)
      have hO9:cY (cH B) 5 w9 (n' - 1) (if c'=1 then aR else aR + 5) (c' - 1) (bL++[.int .i64 (e.1:Int),.bool s7,.slice p7 n7 c7,.bool t7,.slice y7 m7 d7]) fO ak fv:=⟨by rw [qG];rfl,mM iP,by rw [List.all_append,Je];rfl,Mi.kp (aM B) (by (with_reducible (repeat (first | assumption | exact kU _ | exact kR _ | exact Kp.of (U:=UU) (by assumption) | exact aE.of (by assumption) | refine kT ?_ (by assumption))))),yW,by omega,by omega,mO sO⟩
      have jh:∀ (v8:AV) (wb:World),aE (KU UU) w9 wb→((n' - 1=0∧v8=.val (.pointer none))∨(n' - 1≠0∧v8=.kx 155 (if c'=1 then aR else aR + 5)))→sj B D M w rv y q m (2 * fv.length + (if 0 < m' - ai e.2 m' then 1 else 0)) [(0,.box 154 0),(1,.val (.int .i64 (y:Int))),(5,.box 5 0),(6,.box 6 0),(7,.box 7 0),(8,v8)]
        ((154,(Runner,[.row 155 (if c'=1 then aR else aR + 5) (n' - 1) (c' - 1),.val rv,.row 47 0 (0 + 1) cap']))::(155,(cO,((bL++([.int .i64 (e.1:Int),.bool s7,.slice p7 n7 c7,.bool t7,.slice y7 m7 d7]:List Value))++(fO.flatten++ak)).map AV.val))::(5,(26,([.bool s6,.slice p6 n6 c6,.bool t6,.slice y6 m6 d6]:List Value).map .val))::(6,(26,([.bool false,.slice none 0 0,.bool false,.slice none 0 0]:List Value).map .val))::(7,(26,([.bool s5,.slice p5 n5 c5,.bool t5,.slice y5 m5 d5]:List Value).map .val))::[(47,(et,([[.int .i64 (e.1:Int),.int .i64 (y:Int),.bool s4,.slice p4 n4 c4,.bool t4,.slice y4 m4 d4]]:List (List Value)).flatten.map AV.val++eG))]) wb:=fun v8 wb kb Jg=>
       ⟨fv,_,_,_,_,fO,ak,m' - ai e.2 m',s' + ai e.2 m',[]++[(e.1,y,ai e.2 m')],v8,_,_,_,_,_,_,_,_,_,_,_,_,_,_,_,_,_,_,rfl,rfl,rfl,hO9.kp (aM B) (by (with_reducible (repeat (first | assumption | exact kU _ | exact kR _ | exact Kp.of (U:=UU) (by assumption) | exact aE.of (by assumption) | refine kT ?_ (by assumption))))),xC.k,xD.k,lC.sub pw,Jf.add pw,CC,EO,xB,fun p hp=>zL p (by simp [hp]),eU,eL,by rw [eS];grind,Jg,by simp at iV ⊢;split <;> omega,.inr ⟨_,_,_,_,rfl,rfl,xS.kp (by (with_reducible (repeat (first | assumption | exact kU _ | exact kR _ | exact Kp.of (U:=UU) (by assumption) | exact aE.of (by assumption) | refine kT ?_ (by assumption)))))⟩⟩
      have hlt:2 * fv.length + (if 0 < m' - ai e.2 m' then 1 else 0) < 2 * (e::fv).length + (if 0 < m' then 1 else 0):=by
       rw [if_pos hm,List.length_cons];split <;> omega
      by_cases sP:n' - 1=0
      ·refine VO.cZ (x:=.row 155 (if c'=1 then aR else aR + 5) (n' - 1) (c' - 1)) (p:=fun _=>none) (c:=c' - 1) rfl (fun β=>.inr ⟨_,congrArg (fun n=>Value.slice (some ⟨β 155,(if c'=1 then aR else aR + 5),none⟩) n (c' - 1)) sP⟩) rfl (fk Tryz.func75) rfl (fun wb Jh Mj=>wV rfl ?_)
       (repeat first|refine wN ?_|refine wP rfl ?_|refine af rfl ?_|refine ag rfl ?_|refine wO rfl rfl ?_)
       refine VS.back _ hlt ⟨_,_,?_,?_,?_,?_,jh _ wb (by (with_reducible (repeat (first | assumption | exact kU _ | exact kR _ | exact Kp.of (U:=UU) (by assumption) | exact aE.of (by assumption) | refine kT ?_ (by assumption))))) (.inl ⟨sP,rfl⟩)⟩
       ·(repeat first|exact trivial|refine ⟨rfl,?_⟩)
       ·exact ⟨rfl,congrArg (fun l=>some (cO,l)) (dM _ _ _ _),rfl,rfl,rfl,rfl,trivial⟩
       ·rfl
       ·exact ⟨.lit rfl,.vals _,.vals _,.vals _,.vals _,.append (.vals _) (.none dy),trivial⟩
      ·refine VO.cI rfl rfl (fk Tryz.func75) rfl sP (by intro h;cases h) (fun wb Jh Mj=>wV rfl ?_)
       (repeat first|refine wN ?_|refine wP rfl ?_|refine af rfl ?_|refine ag rfl ?_|refine wO rfl rfl ?_)
       refine VS.back _ hlt ⟨_,_,?_,?_,?_,?_,jh _ wb (by (with_reducible (repeat (first | assumption | exact kU _ | exact kR _ | exact Kp.of (U:=UU) (by assumption) | exact aE.of (by assumption) | refine kT ?_ (by assumption))))) (.inr ⟨sP,rfl⟩)⟩
       ·(repeat first|exact trivial|refine ⟨rfl,?_⟩)
       ·exact ⟨rfl,congrArg (fun l=>some (cO,l)) (dM _ _ _ _),rfl,rfl,rfl,rfl,trivial⟩
       ·rfl
       ·exact ⟨.lit rfl,.vals _,.vals _,.vals _,.vals _,.append (.vals _) (.none dy),trivial⟩
     ·have qP:(jD == 0)=false:=by rw [←jE,beq_eq_false_iff_ne];exact vJ hz
      refine VS.bu rfl qP ?_
      (repeat first|refine wN ?_|refine wP rfl ?_|refine af rfl ?_|refine ag rfl ?_|refine wO rfl rfl ?_)
      obtain ⟨e0,e1,e2,e3⟩:=fM (y:=y) (p:=e) (q:=fv) hm hz
      refine VO.cI rfl rfl (fk Tryz.func75) rfl lH (by intro h;cases h) (fun wb Jh Mj=>wV rfl ?_)
      (repeat first|refine wN ?_|refine wP rfl ?_|refine af rfl ?_|refine ag rfl ?_|refine wO rfl rfl ?_)
      refine VS.back (2 * (e::fv).length + 0) (by rw [if_pos hm];omega) ⟨_,_,?_,?_,?_,?_,⟨(e.1,e.2 - ai e.2 m')::fv,aR,n',c',bL,[.int .i64 (e.1:Int),.bool s7,.slice p7 n7 c7,.bool t7,.slice y7 m7 d7]::fO,ak,m' - ai e.2 m',s' + ai e.2 m',[]++[(e.1,y,ai e.2 m')],.kx 155 aR,_,_,_,_,_,_,_,_,_,_,_,_,_,_,_,_,_,_,by rw [if_neg e0];rfl,rfl,rfl,⟨qG,.inl iP,Je,.cons ((aM B).kp hE7 (by (with_reducible (repeat (first | assumption | exact kU _ | exact kR _ | exact Kp.of (U:=UU) (by assumption) | exact aE.of (by assumption) | refine kT ?_ (by assumption)))))) (Mi.kp (aM B) (by (with_reducible (repeat (first | assumption | exact kU _ | exact kR _ | exact Kp.of (U:=UU) (by assumption) | exact aE.of (by assumption) | refine kT ?_ (by assumption)))))),yW,uP,uL,by simpa using sO⟩,xC.k,xD.k,lC.sub pw,Jf.add pw,CC,EO,xB,fun p hp=> ?_,?_,?_,?_,.inr ⟨lH,rfl⟩,?_,.inr ⟨_,_,_,_,rfl,rfl,xS.kp (by (with_reducible (repeat (first | assumption | exact kU _ | exact kR _ | exact Kp.of (U:=UU) (by assumption) | exact aE.of (by assumption) | refine kT ?_ (by assumption)))))⟩⟩⟩
      ·(repeat first|exact trivial|refine ⟨rfl,?_⟩)
      ·exact ⟨rfl,rfl,rfl,rfl,rfl,rfl,trivial⟩
      ·rfl
      ·exact ⟨.lit rfl,.vals _,.vals _,.vals _,.vals _,.append (.vals _) (.none dy),trivial⟩
      ·rcases List.mem_cons.1 hp with rfl | hp
       ·exact ⟨Mh,xV,Mg⟩
       ·exact zL p (by simp [hp])
      ·rw [eU,e1,gw y _ e0,List.append_nil]
      ·rw [eL,e2,fK _ e0]
      ·rw [eS,e3,gz _ e0];grind
      ·rw [if_neg e0];simp at iV ⊢;omega
    ·have jk:¬ sg > 0:=by rw [←jn];exact fun h=>hm (ff.1 h)
     refine VS.bu rfl (decide_eq_false jk) ?_
     have fU:=gw y (e::fv) hm
     have fL:=fK (e::fv) hm
     have fS:=gz (e::fv) hm
     (repeat first|refine wN ?_|refine wP rfl ?_|refine af rfl ?_|refine ag rfl ?_|refine wO rfl rfl ?_)
     refine VS.oy (bk _ _) rfl (fun wz β kz oz en=> ?_)
     obtain ⟨o1,o2⟩:=eb (en.own 154 _ _ rfl) 0 g rfl rfl
     obtain ⟨o3,o4⟩:=eb (en.own 155 _ _ rfl) 1 b rfl rfl
     rw [ah] at o4
     replace o3:β 155=b:=o3
     rw [fU] at eU
     rw [fL] at eL
     rw [fS,show s' + 0=s' by grind] at eS
     refine ⟨_,rfl,?_,oz.1,aR,n',c',bL,_,ak,.slice none 0 0,?_,o4,?_,.inl ⟨rfl,?_⟩⟩
     ·rw [eS];exact uD.k
     ·rw [←o3];exact o2
     ·rw [eL];exact gI.kp (aM B) (by (with_reducible (repeat (first | assumption | exact kU _ | exact kR _ | exact Kp.of (U:=UU) (by assumption) | exact aE.of (by assumption) | refine kT ?_ (by assumption)))))
     ·rw [eU];rfl
  ·rcases Jg with ⟨lH,rfl⟩ | ⟨lH,rfl⟩
   ·have DJ:q'=[]:=List.eq_nil_of_length_eq_zero (by rw [←gI.len];exact lH)
    subst DJ
    have fU:nH y [] m'=[]:=rfl
    have fL:kW [] m'=[]:=rfl
    have fS:qW [] m'=0:=rfl
    (repeat first|refine wN ?_|refine wP rfl ?_|refine af rfl ?_|refine ag rfl ?_|refine wO rfl rfl ?_)
    refine VS.oy (bk _ _) rfl (fun wz β kz oz en=> ?_)
    obtain ⟨o1,o2⟩:=eb (en.own 154 _ _ rfl) 0 g rfl rfl
    obtain ⟨o3,o4⟩:=eb (en.own 155 _ _ rfl) 1 b rfl rfl
    rw [ah] at o4
    replace o3:β 155=b:=o3
    rw [fU] at eU
    rw [fL] at eL
    rw [fS,show s' + 0=s' by grind] at eS
    have o5:=(en.own 47 _ _ rfl).new
    have o6:=(en.own 47 _ _ rfl).cls
    rw [List.map_append,ah] at o6
    have n1':β 47≠g:=fun e=>absurd (en.apart 154 47 (by intro h;cases h) (by intro h;cases h) (o1.trans e.symm)) (by decide)
    have n2':β 47≠b:=fun e=>absurd (en.apart 155 47 (by intro h;cases h) (by intro h;cases h) (o3.trans e.symm)) (by decide)
    have o7:w.heap.size≤β 47:=by
     have:=eO (show cB 77 [g,b] w 47 (β 47) from o5)
     simpa [n1',n2'] using this
    refine ⟨_,rfl,?_,oz.1,aR,n',c',bL,gE,ak,.slice (some ⟨β 47,0,none⟩) un uc,?_,o4,?_,.inr ⟨β 47,un,uc,oI,qL.map (AV.leaf β),o7,rfl,o6,?_⟩⟩
    ·rw [eS];exact uD.k
    ·rw [←o3];exact o2
    ·rw [eL];exact gI.kp (aM B) (by (with_reducible (repeat (first | assumption | exact kU _ | exact kR _ | exact Kp.of (U:=UU) (by assumption) | exact aE.of (by assumption) | refine kT ?_ (by assumption)))))
    ·rw [eU,List.append_nil];exact (tG.kp (by (with_reducible (repeat (first | assumption | exact kU _ | exact kR _ | exact Kp.of (U:=UU) (by assumption) | exact aE.of (by assumption) | refine kT ?_ (by assumption)))))).o β
   ·obtain ⟨e,fv,rfl⟩:∃ e fv,q'=e::fv:=by
     cases q' with
     | nil=>exact absurd gI.len lH
     | cons e fv=>exact ⟨e,fv,rfl⟩
    obtain ⟨cs,fO,rfl,hE,qM⟩:∃ cs fO,gE=cs::fO∧cH B w' cs e∧cM (cH B) w' fv fO:=by
     have:=gI.el
     cases this with
     | cons h1 h2=>exact ⟨_,_,rfl,h1,h2⟩
    obtain ⟨s3,p3,n3,c3,t3,y3,m3,d3,rfl,Mf⟩:=hE
    have uP:=gI.le
    have qG:=gI.len
    have uL:=gI.cm
    have iP:bL.length=aR:=gI.pl.resolve_right (by omega)
    obtain ⟨ni,zU,Gr⟩:=zL e (by simp)
    (repeat first|refine wN ?_|refine wP rfl ?_|refine af rfl ?_|refine ag rfl ?_|refine wO rfl rfl ?_)
    obtain ⟨sg,jn⟩:∃ sg,dK m' 0=sg:=⟨_,rfl⟩
    refine VO.call rfl rfl (fk Tryz.func13) (fun cC er dv=>(bS _ m' kk cC (DY.ki (hK m' lC tD oJ)) (by omega) sg jn).mono ?_)
    rintro e w1 ⟨rfl,aV⟩
    skip
    refine ⟨_,rfl,aV,fun fe _ bb1=>wV rfl ?_⟩
    (repeat first|refine wN ?_|refine wP rfl ?_|refine af rfl ?_|refine ag rfl ?_|refine wO rfl rfl ?_)
    by_cases hm:0 < m'
    ·have jk:sg > 0:=by rw [←jn];exact ff.2 hm
     rw [if_pos hm] at iV
     refine VS.bE rfl (decide_eq_true jk) ?_
     (repeat first|refine wN ?_|refine wP rfl ?_|refine af rfl ?_|refine ag rfl ?_|refine wO rfl rfl ?_)
     refine VO.dh rfl (([.bool s3,.slice p3 n3 c3,.bool t3,.slice y3 m3 d3]:List Value).map .val) rfl (bh iP 1 _ ⟨[],rfl⟩) (wV rfl ?_)
     (repeat first|refine wN ?_|refine wP rfl ?_|refine af rfl ?_|refine ag rfl ?_|refine wO rfl rfl ?_)
     have pZ:=cR e.2 m'
     have Fy:0≤ai e.2 m':=by rcases pZ with ⟨h,_⟩ | ⟨h,_⟩ <;> rw [h] <;> assumption
     have pw:Iz D (ai e.2 m'):=by rcases pZ with ⟨h,_⟩ | ⟨h,_⟩ <;> rw [h] <;> assumption
     have za:=di e.2 m'
     have vC:=cd e.2 m'
     have lI:=hK _ pw Fy (Rat.le_trans vC oJ)
     refine VO.fI rfl (fk Tryz.func71) (fun dC β gu eu ho=>((fJ _ _ e.2 [m'] kk dC (Mf.rd.ki (hK e.2 ni zU Gr)) (dW (ho.own 31 (.base (List.mem_singleton.2 rfl)) _ _ rfl) [] (vs:=[[.bool s1,.slice p1 n1 c1,.bool t1,.slice y1 m1 d1]]) (by rfl) rfl (bZ.cons (DY.ki (hK m' lC tD oJ)) bZ.nil) (Nat.le_of_ble_eq_true rfl) (by decide)) (by omega) (Nat.le_of_ble_eq_true rfl)).mono (fun o w2 h=>And.intro h eu.1.size)).mono ?_)
     rintro o w2 ⟨⟨r4,rfl,q4,z4,bm⟩,qN⟩
     rw [gR] at q4
     have xA:aK w2 w.heap.size r4 (ai e.2 m'):=q4.mono qN
     obtain ⟨s4,p4,n4,c4,t4,y4,m4,d4,rfl⟩:=xA.form
     refine ⟨_,rfl,bm,fun fZ _ bb2=>wV rfl ?_⟩
     (repeat first|refine wN ?_|refine wP rfl ?_|refine af rfl ?_|refine ag rfl ?_|refine wO rfl rfl ?_)
     refine VO.dh rfl (([.int .i64 (e.1:Int)]:List Value).map .val) rfl (bh iP 0 _ ⟨_,rfl⟩) (wV rfl ?_)
     (repeat first|refine wN ?_|refine wP rfl ?_|refine af rfl ?_|refine ag rfl ?_|refine wO rfl rfl ?_)
     obtain ⟨vA,vB⟩:=tG.el.ok (dm B)
     have DT:=tG.len
     refine VO.app (bk _ _) (t:=34) (e:=et) (sz:=6) (n:=un) (c:=uc) (mm:=1) (known:=oI.flatten.map .val) (spare:=qL) (del:=some 47) (news:=([.int .i64 (e.1:Int),.int .i64 (y:Int),.bool s4,.slice p4 n4 c4,.bool t4,.slice y4 m4 d4]:List Value).map .val) (dst:=47) rfl rfl rfl rfl rfl rfl rfl rfl (Nat.le_of_ble_eq_true rfl) rfl (.inr ⟨47,rfl,rfl,rfl⟩) (.inr rfl) (by rw [List.length_map,vB,DT]) tG.fl tG.le tG.cm ⟨ao _,tG.sl,rfl⟩ ⟨bb vA,tG.so,rfl⟩ rfl (by simp only [List.length_append,List.length_cons] at DT iV jv ⊢;omega)
      (fun w1 β k1 b1 ho=>⟨_,_,rfl,.inr ⟨β 46,0,rfl,cK (rest:=[]) (ho.own 46 (.base (List.mem_append_right _ (List.mem_singleton.2 rfl))) _ _ rfl) rfl⟩⟩)
      (fun nD cap' eG ρ GM GN fC jc gm ed mL dy=>VO.ft 155 rfl (dR (ao _) _ _) (wV rfl ?_))
     (repeat first|refine wN ?_|refine wP rfl ?_|refine af rfl ?_|refine ag rfl ?_|refine wO rfl rfl ?_)
     have xS:uR B nD (un + 1) cap' (oI++[[.int .i64 (e.1:Int),.int .i64 (y:Int),.bool s4,.slice p4 n4 c4,.bool t4,.slice y4 m4 d4]]:List (List Value)) eG ((done++[(e.1,y,ai e.2 m')])):=⟨by simp [DT] <;> omega,by simpa [List.append_assoc] using ((tG.el.kp (dm B) (by (with_reducible (repeat (first | assumption | exact kU _ | exact kR _ | exact Kp.of (U:=UU) (by assumption) | exact aE.of (by assumption) | refine kT ?_ (by assumption)))))).snoc (show np B nD [.int .i64 (e.1:Int),.int .i64 (y:Int),.bool s4,.slice p4 n4 c4,.bool t4,.slice y4 m4 d4] (e.1,y,ai e.2 m') from ⟨s4,p4,n4,c4,t4,y4,m4,d4,rfl,(xA.mono hB).kp (by (with_reducible (repeat (first | assumption | exact kU _ | exact kR _ | exact Kp.of (U:=UU) (by assumption) | exact aE.of (by assumption) | refine kT ?_ (by assumption)))))⟩)),mL,dy,jc,gm,by simpa using ed⟩
     refine VO.call rfl rfl (fk Tryz.func16) (fun kg mG ku=>((dx _ _ s' (ai e.2 m') kk kk kg (uD.rd.ki (hK s' Jf hs0 hsM)) (xA.rd.ki lI) (by omega) (by omega)).mono (fun o w2 h=>And.intro h ku.1.size)).mono ?_)
     rintro o w5 ⟨⟨r5,rfl,q5,gi⟩,qO⟩
     obtain ⟨s5,p5,n5,c5,t5,y5,m5,d5,rfl⟩:=q5.form
     refine ⟨_,rfl,gi,fun nk _ xf=>wV rfl ?_⟩
     (repeat first|refine wN ?_|refine wP rfl ?_|refine af rfl ?_|refine ag rfl ?_|refine wO rfl rfl ?_)
     refine VO.call rfl rfl (fk Tryz.func72) (fun pK ux tw=>(bW _ _ m' (ai e.2 m') kk kk pK (DY.ki (hK m' lC tD oJ)) (xA.rd.ki lI) (by omega) (by omega)).mono ?_)
     rintro e w6 ⟨r6,rfl,q6,mX⟩
     obtain ⟨s6,p6,n6,c6,t6,y6,m6,d6,rfl⟩:=q6.form
     refine ⟨_,rfl,mX,fun tx _ CR=>wV rfl ?_⟩
     (repeat first|refine wN ?_|refine wP rfl ?_|refine af rfl ?_|refine ag rfl ?_|refine wO rfl rfl ?_)
     refine VO.dh rfl (([.bool s3,.slice p3 n3 c3,.bool t3,.slice y3 m3 d3]:List Value).map .val) rfl (bh iP 1 _ ⟨[],rfl⟩) (wV rfl ?_)
     (repeat first|refine wN ?_|refine wP rfl ?_|refine af rfl ?_|refine ag rfl ?_|refine wO rfl rfl ?_)
     refine VO.call rfl rfl (fk Tryz.func72) (fun yn DX xX=>((bW _ _ e.2 (ai e.2 m') kk kk yn (Mf.rd.ki (hK e.2 ni zU Gr)) (xA.rd.ki lI) (by omega) (by omega)).mono (fun o w2 h=>And.intro h xX.1.size)).mono ?_)
     rintro o w7 ⟨⟨r7,rfl,q7,uO⟩,Fz⟩
     obtain ⟨s7,p7,n7,c7,t7,y7,m7,d7,rfl⟩:=q7.form
     refine ⟨_,rfl,uO,fun zj _ bb7=>wV rfl ?_⟩
     (repeat first|refine wN ?_|refine wP rfl ?_|refine af rfl ?_|refine ag rfl ?_|refine wO rfl rfl ?_)
     refine VO.cond rfl (by show aR + 1 + 4≤_;rw [List.length_map,List.length_append,List.length_append,List.flatten_cons,List.length_append,iP];show aR + 1 + 4≤aR + (6 - 1 + _ + _);omega) (VO.ft 155 rfl (si iP) (wV rfl ?_))
     (repeat first|refine wN ?_|refine wP rfl ?_|refine af rfl ?_|refine ag rfl ?_|refine wO rfl rfl ?_)
     refine VO.dh rfl (([.bool s7,.slice p7 n7 c7,.bool t7,.slice y7 m7 d7]:List Value).map .val) rfl (bh iP 1 _ ⟨[],rfl⟩) (wV rfl ?_)
     (repeat first|refine wN ?_|refine wP rfl ?_|refine af rfl ?_|refine ag rfl ?_|refine wO rfl rfl ?_)
     have xV:0≤e.2 - ai e.2 m':=by grind
     have Mg:e.2 - ai e.2 m'≤M:=by grind
     have Mh:Iz D (e.2 - ai e.2 m'):=ni.sub pw
     obtain ⟨jD,jE⟩:∃ jD,dK (e.2 - ai e.2 m') 0=jD:=⟨_,rfl⟩
     refine VO.call rfl rfl (fk Tryz.func13) (fun uQ Fg zl=>(bS _ (e.2 - ai e.2 m') kk uQ (q7.ki (hK _ Mh xV Mg)) (by omega) jD jE).mono ?_)
     rintro e w8 ⟨rfl,qU⟩
     skip
     refine ⟨_,rfl,qU,fun vH _ JL=>wV rfl ?_⟩
     (repeat first|refine wN ?_|refine wP rfl ?_|refine af rfl ?_|refine ag rfl ?_|refine wO rfl rfl ?_)
     have hE7:cH B w8 [.int .i64 (e.1:Int),.bool s7,.slice p7 n7 c7,.bool t7,.slice y7 m7 d7] (e.1,e.2 - ai e.2 m'):=⟨s7,p7,n7,c7,t7,y7,m7,d7,rfl,(q7.mono (Nat.le_trans hB Fz)).kp (by (with_reducible (repeat (first | assumption | exact kU _ | exact kR _ | exact Kp.of (U:=UU) (by assumption) | exact aE.of (by assumption) | refine kT ?_ (by assumption)))))⟩
     have yW:=gI.so
     have Je:=gI.po
     have sO:=gI.fl
     have CC:0≤m' - ai e.2 m':=by grind
     have EO:0≤s' + ai e.2 m':=by grind
     have xB:s' + ai e.2 m' + (m' - ai e.2 m')=m:=by grind
     have xC:=(q6.kr (w':=w8) (by (with_reducible (repeat (first | assumption | exact kU _ | exact kR _ | exact Kp.of (U:=UU) (by assumption) | exact aE.of (by assumption) | refine kT ?_ (by assumption))))))
     have xD:aK w8 w.heap.size _ (s' + ai e.2 m'):=(q5.mono qO).kp (by (with_reducible (repeat (first | assumption | exact kU _ | exact kR _ | exact Kp.of (U:=UU) (by assumption) | exact aE.of (by assumption) | refine kT ?_ (by assumption)))))
     have Mi:cM (cH B) w8 fv fO:=qM.kp (aM B) (by (with_reducible (repeat (first | assumption | exact kU _ | exact kR _ | exact Kp.of (U:=UU) (by assumption) | exact aE.of (by assumption) | refine kT ?_ (by assumption)))))
     by_cases hz:e.2 - ai e.2 m'=0
     ·have qP:(jD == 0)=true:=by rw [←jE,hz];rfl
      refine VS.bE rfl qP ?_
      (repeat first|refine wN ?_|refine wP rfl ?_|refine af rfl ?_|refine ag rfl ?_|refine wO rfl rfl ?_)
      obtain ⟨e1,e2,e3⟩:=fN (y:=y) (p:=e) (q:=fv) hm hz
      rw [e1,←List.singleton_append,←List.append_assoc] at eU
      rw [e2] at eL
      rw [e3] at eS
      refine VO.iA rfl rfl (fk Tryz.func76) rfl (by omega) uP uL (fun j hj=> ?_) (Nat.le_of_ble_eq_true rfl) (fun w9 k9 b9=>wV rfl ?_)
      ·rcases List.mem_cons.1 hj with rfl | hj
       ·intro h;cases h
       ·cases List.mem_singleton.1 hj
        intro h;cases h
      (repeat first|refine wN ?_|refine wP rfl ?_|refine af rfl ?_|refine ag rfl ?_|refine wO rfl rfl ?_)
      have hO9:cY (cH B) 5 w9 (n' - 1) (if c'=1 then aR else aR + 5) (c' - 1) (bL++[.int .i64 (e.1:Int),.bool s7,.slice p7 n7 c7,.bool t7,.slice y7 m7 d7]) fO ak fv:=⟨by rw [qG];rfl,mM iP,by rw [List.all_append,Je];rfl,Mi.kp (aM B) (by (with_reducible (repeat (first | assumption | exact kU _ | exact kR _ | exact Kp.of (U:=UU) (by assumption) | exact aE.of (by assumption) | refine kT ?_ (by assumption))))),yW,by omega,by omega,mO sO⟩
      have jh:∀ (v8:AV) (wb:World),aE (KU UU) w9 wb→((n' - 1=0∧v8=.val (.pointer none))∨(n' - 1≠0∧v8=.kx 155 (if c'=1 then aR else aR + 5)))→sj B D M w rv y q m (2 * fv.length + (if 0 < m' - ai e.2 m' then 1 else 0)) [(0,.box 154 0),(1,.val (.int .i64 (y:Int))),(5,.box 5 0),(6,.box 6 0),(7,.box 7 0),(8,v8)]
        ((154,(Runner,[.row 155 (if c'=1 then aR else aR + 5) (n' - 1) (c' - 1),.val rv,.row 47 0 (un + 1) cap']))::(155,(cO,((bL++([.int .i64 (e.1:Int),.bool s7,.slice p7 n7 c7,.bool t7,.slice y7 m7 d7]:List Value))++(fO.flatten++ak)).map AV.val))::(5,(26,([.bool s6,.slice p6 n6 c6,.bool t6,.slice y6 m6 d6]:List Value).map .val))::(6,(26,([.bool false,.slice none 0 0,.bool false,.slice none 0 0]:List Value).map .val))::(7,(26,([.bool s5,.slice p5 n5 c5,.bool t5,.slice y5 m5 d5]:List Value).map .val))::[(47,(et,(oI++[[.int .i64 (e.1:Int),.int .i64 (y:Int),.bool s4,.slice p4 n4 c4,.bool t4,.slice y4 m4 d4]]:List (List Value)).flatten.map AV.val++eG))]) wb:=fun v8 wb kb Jg=>
       ⟨fv,_,_,_,_,fO,ak,m' - ai e.2 m',s' + ai e.2 m',done++[(e.1,y,ai e.2 m')],v8,_,_,_,_,_,_,_,_,_,_,_,_,_,_,_,_,_,_,rfl,rfl,rfl,hO9.kp (aM B) (by (with_reducible (repeat (first | assumption | exact kU _ | exact kR _ | exact Kp.of (U:=UU) (by assumption) | exact aE.of (by assumption) | refine kT ?_ (by assumption))))),xC.k,xD.k,lC.sub pw,Jf.add pw,CC,EO,xB,fun p hp=>zL p (by simp [hp]),eU,eL,by rw [eS];grind,Jg,by simp at iV ⊢;split <;> omega,.inr ⟨_,_,_,_,rfl,rfl,xS.kp (by (with_reducible (repeat (first | assumption | exact kU _ | exact kR _ | exact Kp.of (U:=UU) (by assumption) | exact aE.of (by assumption) | refine kT ?_ (by assumption)))))⟩⟩
      have hlt:2 * fv.length + (if 0 < m' - ai e.2 m' then 1 else 0) < 2 * (e::fv).length + (if 0 < m' then 1 else 0):=by
       rw [if_pos hm,List.length_cons];split <;> omega
      by_cases sP:n' - 1=0
      ·refine VO.cZ (x:=.row 155 (if c'=1 then aR else aR + 5) (n' - 1) (c' - 1)) (p:=fun _=>none) (c:=c' - 1) rfl (fun β=>.inr ⟨_,congrArg (fun n=>Value.slice (some ⟨β 155,(if c'=1 then aR else aR + 5),none⟩) n (c' - 1)) sP⟩) rfl (fk Tryz.func75) rfl (fun wb Jh Mj=>wV rfl ?_)
       (repeat first|refine wN ?_|refine wP rfl ?_|refine af rfl ?_|refine ag rfl ?_|refine wO rfl rfl ?_)
       refine VS.back _ hlt ⟨_,_,?_,?_,?_,?_,jh _ wb (by (with_reducible (repeat (first | assumption | exact kU _ | exact kR _ | exact Kp.of (U:=UU) (by assumption) | exact aE.of (by assumption) | refine kT ?_ (by assumption))))) (.inl ⟨sP,rfl⟩)⟩
       ·(repeat first|exact trivial|refine ⟨rfl,?_⟩)
       ·exact ⟨rfl,congrArg (fun l=>some (cO,l)) (dM _ _ _ _),rfl,rfl,rfl,congrArg (fun l=>some (et,l++eG)) (by simp),trivial⟩
       ·rfl
       ·exact ⟨.lit rfl,.vals _,.vals _,.vals _,.vals _,.append (.vals _) (.none dy),trivial⟩
      ·refine VO.cI rfl rfl (fk Tryz.func75) rfl sP (by intro h;cases h) (fun wb Jh Mj=>wV rfl ?_)
       (repeat first|refine wN ?_|refine wP rfl ?_|refine af rfl ?_|refine ag rfl ?_|refine wO rfl rfl ?_)
       refine VS.back _ hlt ⟨_,_,?_,?_,?_,?_,jh _ wb (by (with_reducible (repeat (first | assumption | exact kU _ | exact kR _ | exact Kp.of (U:=UU) (by assumption) | exact aE.of (by assumption) | refine kT ?_ (by assumption))))) (.inr ⟨sP,rfl⟩)⟩
       ·(repeat first|exact trivial|refine ⟨rfl,?_⟩)
       ·exact ⟨rfl,congrArg (fun l=>some (cO,l)) (dM _ _ _ _),rfl,rfl,rfl,congrArg (fun l=>some (et,l++eG)) (by simp),trivial⟩
       ·rfl
       ·exact ⟨.lit rfl,.vals _,.vals _,.vals _,.vals _,.append (.vals _) (.none dy),trivial⟩
     ·have qP:(jD == 0)=false:=by rw [←jE,beq_eq_false_iff_ne];exact vJ hz
      refine VS.bu rfl qP ?_
      (repeat first|refine wN ?_|refine wP rfl ?_|refine af rfl ?_|refine ag rfl ?_|refine wO rfl rfl ?_)
      obtain ⟨e0,e1,e2,e3⟩:=fM (y:=y) (p:=e) (q:=fv) hm hz
      refine VO.cI rfl rfl (fk Tryz.func75) rfl lH (by intro h;cases h) (fun wb Jh Mj=>wV rfl ?_)
      (repeat first|refine wN ?_|refine wP rfl ?_|refine af rfl ?_|refine ag rfl ?_|refine wO rfl rfl ?_)
      refine VS.back (2 * (e::fv).length + 0) (by rw [if_pos hm];omega) ⟨_,_,?_,?_,?_,?_,⟨(e.1,e.2 - ai e.2 m')::fv,aR,n',c',bL,[.int .i64 (e.1:Int),.bool s7,.slice p7 n7 c7,.bool t7,.slice y7 m7 d7]::fO,ak,m' - ai e.2 m',s' + ai e.2 m',done++[(e.1,y,ai e.2 m')],.kx 155 aR,_,_,_,_,_,_,_,_,_,_,_,_,_,_,_,_,_,_,by rw [if_neg e0];rfl,rfl,rfl,⟨qG,.inl iP,Je,.cons ((aM B).kp hE7 (by (with_reducible (repeat (first | assumption | exact kU _ | exact kR _ | exact Kp.of (U:=UU) (by assumption) | exact aE.of (by assumption) | refine kT ?_ (by assumption)))))) (Mi.kp (aM B) (by (with_reducible (repeat (first | assumption | exact kU _ | exact kR _ | exact Kp.of (U:=UU) (by assumption) | exact aE.of (by assumption) | refine kT ?_ (by assumption)))))),yW,uP,uL,by simpa using sO⟩,xC.k,xD.k,lC.sub pw,Jf.add pw,CC,EO,xB,fun p hp=> ?_,?_,?_,?_,.inr ⟨lH,rfl⟩,?_,.inr ⟨_,_,_,_,rfl,rfl,xS.kp (by (with_reducible (repeat (first | assumption | exact kU _ | exact kR _ | exact Kp.of (U:=UU) (by assumption) | exact aE.of (by assumption) | refine kT ?_ (by assumption)))))⟩⟩⟩
      ·(repeat first|exact trivial|refine ⟨rfl,?_⟩)
      ·exact ⟨rfl,rfl,rfl,rfl,rfl,congrArg (fun l=>some (et,l++eG)) (by simp),trivial⟩
      ·rfl
      ·exact ⟨.lit rfl,.vals _,.vals _,.vals _,.vals _,.append (.vals _) (.none dy),trivial⟩
      ·rcases List.mem_cons.1 hp with rfl | hp
       ·exact ⟨Mh,xV,Mg⟩
       ·exact zL p (by simp [hp])
      ·rw [eU,e1,gw y _ e0,List.append_nil]
      ·rw [eL,e2,fK _ e0]
      ·rw [eS,e3,gz _ e0];grind
      ·rw [if_neg e0];simp at iV ⊢;omega
    ·have jk:¬ sg > 0:=by rw [←jn];exact fun h=>hm (ff.1 h)
     refine VS.bu rfl (decide_eq_false jk) ?_
     have fU:=gw y (e::fv) hm
     have fL:=fK (e::fv) hm
     have fS:=gz (e::fv) hm
     (repeat first|refine wN ?_|refine wP rfl ?_|refine af rfl ?_|refine ag rfl ?_|refine wO rfl rfl ?_)
     refine VS.oy (bk _ _) rfl (fun wz β kz oz en=> ?_)
     obtain ⟨o1,o2⟩:=eb (en.own 154 _ _ rfl) 0 g rfl rfl
     obtain ⟨o3,o4⟩:=eb (en.own 155 _ _ rfl) 1 b rfl rfl
     rw [ah] at o4
     replace o3:β 155=b:=o3
     rw [fU] at eU
     rw [fL] at eL
     rw [fS,show s' + 0=s' by grind] at eS
     have o5:=(en.own 47 _ _ rfl).new
     have o6:=(en.own 47 _ _ rfl).cls
     rw [List.map_append,ah] at o6
     have n1':β 47≠g:=fun e=>absurd (en.apart 154 47 (by intro h;cases h) (by intro h;cases h) (o1.trans e.symm)) (by decide)
     have n2':β 47≠b:=fun e=>absurd (en.apart 155 47 (by intro h;cases h) (by intro h;cases h) (o3.trans e.symm)) (by decide)
     have o7:w.heap.size≤β 47:=by
      have:=eO (show cB 77 [g,b] w 47 (β 47) from o5)
      simpa [n1',n2'] using this
     refine ⟨_,rfl,?_,oz.1,aR,n',c',bL,_,ak,.slice (some ⟨β 47,0,none⟩) un uc,?_,o4,?_,.inr ⟨β 47,un,uc,oI,qL.map (AV.leaf β),o7,rfl,o6,?_⟩⟩
     ·rw [eS];exact uD.k
     ·rw [←o3];exact o2
     ·rw [eL];exact gI.kp (aM B) (by (with_reducible (repeat (first | assumption | exact kU _ | exact kR _ | exact Kp.of (U:=UU) (by assumption) | exact aE.of (by assumption) | refine kT ?_ (by assumption)))))
     ·rw [eU,List.append_nil];exact (tG.kp (by (with_reducible (repeat (first | assumption | exact kU _ | exact kR _ | exact Kp.of (U:=UU) (by assumption) | exact aE.of (by assumption) | refine kT ?_ (by assumption)))))).o β
set_option maxRecDepth 4000 in
set_option maxHeartbeats 8000000 in
theorem Mk (B g b off n c y D kk:Nat) (M m:Rat) (pre:List Value) (vs:List (List Value)) (spare:List Value) (q:List Vq) (rv v:Value) (ub yq Ax:Nat) (me:List (List Value)) (nt:List Value) (us0:List Uq) (w:World)
  (hg:aW w g Runner #[.slice (some ⟨b,off,none⟩) n c,rv,.slice (some ⟨ub,0,none⟩) yq Ax]) (Kl:aW w ub et (me.flatten++nt).toArray) (JO:cY (np B) 6 w yq 0 Ax [] me nt us0) (Ay:us0.length≤1000) (hb:aW w b cO (pre++(vs.flatten++spare)).toArray) (hO:cY (cH B) 5 w n off c pre vs spare q) (hr:aU rv=true) (hv:cQ w v m) (hmI:Iz D m) (yp:0≤m) (hmM:m≤M) (hq:∀ p∈q,Iz D p.2∧0≤p.2∧p.2≤M)
  (hK:∀ x,Iz D x→0≤x→x≤M→dV x kk) (hk:kk≤100000) (jv:q.length≤1000) (hB:B≤w.heap.size):
  Calls Tryz.prog 73 #[.pointer (some ⟨g,0,none⟩),.int .i64 (y:Int),v] w fun o w'=>∃ x,o=.returned x∧aK w' w.heap.size x (qW q m)∧qA [g,b,ub] w w'∧LeftA w' ub∧∃ aR n' c' bL gE ak uv,aW w' g Runner #[.slice (some ⟨b,aR,none⟩) n' c',rv,uv]∧aW w' b cO (bL++(gE.flatten++ak)).toArray∧cY (cH B) 5 w' n' aR c' bL gE ak (kW q m)∧(∃ b' un uc oI qL,(w.heap.size≤b'∨b'=ub)∧uv=.slice (some ⟨b',0,none⟩) un uc∧aW w' b' et (oI.flatten++qL).toArray∧cY (np B) 6 w' un 0 uc [] oI qL (us0++nH y q m)):=by
 have hgb:g≠b:=fun e=>by subst e;exact absurd (bo hg hb) (by decide)
 have hgu:g≠ub:=fun e=>by subst e;exact absurd (bo hg Kl) (by decide)
 have hbu:b≠ub:=fun e=>by subst e;exact absurd (bo hb Kl) (by decide)
 have hUo:uR B w yq Ax me (nt.map .val) us0:=⟨JO.len,JO.el,bb JO.so,ao _,JO.le,JO.cm,by rw [←List.map_append,List.length_map];exact JO.fl⟩
 obtain ⟨huok,hulen⟩:=JO.el.ok (dm B)
 obtain ⟨s0,p0,n0,c0,t0,y0,m0,d0,rfl⟩:=hv.form
 have pM:iG (KU UU) 77 [g,b,ub] [(Runner,[.row 155 off n c,.val rv,.row 156 0 yq Ax]),(cO,(pre++(vs.flatten++spare)).map .val),(et,me.flatten.map .val++nt.map .val)] w:=by
  refine ⟨rfl,by simp [hgb,hgu,hbu],fun j g' c' hj hc=> ?_,fun c' hc=> ?_,fun c' hc k hk=> ?_⟩
  ·match j,hj,hc with
   | 0,hj,hc=>cases hj;cases hc;exact hg
   | 1,hj,hc=>cases hj;cases hc;rw [ah];exact hb
   | 2,hj,hc=>cases hj;cases hc;rw [←List.map_append,ah];exact Kl
   | j + 3,hj,_=>simp at hj
  ·rcases List.mem_cons.1 hc with rfl | hc
   ·exact ⟨rfl,rnr_ok' rfl hr rfl⟩
   ·rcases List.mem_cons.1 hc with rfl | hc
    ·exact ⟨rfl,bb (hO.all (aM B))⟩
    ·cases List.mem_singleton.1 hc
     exact ⟨rfl,by rw [←List.map_append];exact bb (by rw [List.all_append,huok,JO.so];rfl)⟩
  ·rcases List.mem_cons.1 hc with rfl | hc
   ·have:k=155∨k=156:=by simpa [ax,AV.cL] using hk
    rcases this with rfl | rfl
    ·exact ⟨by omega,by show 155 < 2 * 77 + 3;omega⟩
    ·exact ⟨by omega,by show 156 < 2 * 77 + 3;omega⟩
   ·rcases List.mem_cons.1 hc with rfl | hc
    ·rw [ao] at hk;cases hk
    ·cases List.mem_singleton.1 hc
     rw [←List.map_append,ao] at hk;cases hk
 refine ea Tryz.prog w _ (KU UU) (fun t=>Nat.beq t 22) table (fun _ _=>trivial) (ad:=[g,b,ub]) (us:=[_,_]) Tryz.func73 rfl Tryz.ntmps73 (Nat.le_of_ble_eq_true rfl) pM (Nat.le_of_ble_eq_true rfl) ?_
 (repeat first|refine wN ?_|refine wP rfl ?_|refine af rfl ?_|refine ag rfl ?_|refine wO rfl rfl ?_)
 refine VO.call rfl rfl (fk Tryz.func44) (fun cC er dv=>((bF 0 cC (by omega) (by omega)).mono (fun o w2 h=>And.intro h dv.1.size)).mono ?_)
 rintro o w1 ⟨⟨r9,rfl,q9,Gf⟩,Fx⟩
 obtain ⟨s9,p9,n9,c9,t9,y9,m9,d9,rfl⟩:=q9.form
 refine ⟨_,rfl,Gf,fun Ba _ bb9=>wV rfl ?_⟩
 (repeat first|refine wN ?_|refine wP rfl ?_|refine af rfl ?_|refine ag rfl ?_|refine wO rfl rfl ?_)
 have LV:((0:Int):Rat)=0:=rfl
 rw [LV] at q9
 apply VO.via (P:=fun F' H' w'=>Entry (sk B D M w rv y q m yq Ax me nt us0) (2 * q.length + (if 0 < m then 1 else 0)) F' H' w')
 ·intro cont
  by_cases lH:n=0
  ·refine VO.cZ (x:=.row 155 off n c) (p:=fun _=>none) (c:=c) rfl (fun β=>.inr ⟨_,congrArg (fun n=>Value.slice (some ⟨β 155,off,none⟩) n c) lH⟩) rfl (fk Tryz.func75) rfl (fun w3 k3 b3=>wV rfl ?_)
   (repeat first|refine wN ?_|refine wP rfl ?_|refine af rfl ?_|refine ag rfl ?_|refine wO rfl rfl ?_)
   refine cont _ _ _ ⟨_,_,?_,?_,?_,?_,⟨q,off,n,c,pre,vs,spare,m,0,[],.val (.pointer none),_,_,_,_,_,_,_,_,_,_,_,_,_,_,_,_,_,_,rfl,rfl,rfl,hO.kp (aM B) (by (with_reducible (repeat (first | assumption | exact kU _ | exact kR _ | exact Kp.of (U:=UU) (by assumption) | exact aE.of (by assumption) | refine kT ?_ (by assumption))))),hv.k,(q9.mono Fx).kp (by (with_reducible (repeat (first | assumption | exact kU _ | exact kR _ | exact Kp.of (U:=UU) (by assumption) | exact aE.of (by assumption) | refine kT ?_ (by assumption))))),hmI,Iz.zero,yp,Rat.le_refl,by grind,hq,rfl,rfl,by grind,.inl ⟨lH,rfl⟩,by split <;> simp,.inl ⟨rfl,rfl,rfl,by (with_reducible (repeat (first | assumption | exact kU _ | exact kR _ | exact Kp.of (U:=UU) (by assumption) | exact aE.of (by assumption) | refine kT ?_ (by assumption))))⟩⟩⟩
   ·(repeat first|exact trivial|refine ⟨rfl,?_⟩)
   ·(repeat first|exact trivial|refine ⟨rfl,?_⟩)
   ·rfl
   ·exact ⟨.lit rfl,.vals _,.vals _,.vals _,.vals _,.append (.vals _) (.vals _),trivial⟩
  ·refine VO.cI rfl rfl (fk Tryz.func75) rfl lH (by intro h;cases h) (fun w3 k3 b3=>wV rfl ?_)
   (repeat first|refine wN ?_|refine wP rfl ?_|refine af rfl ?_|refine ag rfl ?_|refine wO rfl rfl ?_)
   refine cont _ _ _ ⟨_,_,?_,?_,?_,?_,⟨q,off,n,c,pre,vs,spare,m,0,[],.kx 155 off,_,_,_,_,_,_,_,_,_,_,_,_,_,_,_,_,_,_,rfl,rfl,rfl,hO.kp (aM B) (by (with_reducible (repeat (first | assumption | exact kU _ | exact kR _ | exact Kp.of (U:=UU) (by assumption) | exact aE.of (by assumption) | refine kT ?_ (by assumption))))),hv.k,(q9.mono Fx).kp (by (with_reducible (repeat (first | assumption | exact kU _ | exact kR _ | exact Kp.of (U:=UU) (by assumption) | exact aE.of (by assumption) | refine kT ?_ (by assumption))))),hmI,Iz.zero,yp,Rat.le_refl,by grind,hq,rfl,rfl,by grind,.inr ⟨lH,rfl⟩,by split <;> simp,.inl ⟨rfl,rfl,rfl,by (with_reducible (repeat (first | assumption | exact kU _ | exact kR _ | exact Kp.of (U:=UU) (by assumption) | exact aE.of (by assumption) | refine kT ?_ (by assumption))))⟩⟩⟩
   ·(repeat first|exact trivial|refine ⟨rfl,?_⟩)
   ·(repeat first|exact trivial|refine ⟨rfl,?_⟩)
   ·rfl
   ·exact ⟨.lit rfl,.vals _,.vals _,.vals _,.vals _,.append (.vals _) (.vals _),trivial⟩
 ·intro F0 H0 w0' hent
  refine VS.loop (J:=sk B D M w rv y q m yq Ax me nt us0) _ hent ?_
  rintro idx L Mm w' ⟨q',aR,n',c',bL,gE,ak,m',s',done,v8,Us,Um,s1,t1,s2,t2,p1,y1,p2,y2,n1,c1,m1,d1,n2,c2,m2,d2,rfl,rfl,rfl,gI,DY,uD,lC,Jf,tD,hs0,hsm,zL,eU,eL,eS,Jg,iV,hUs⟩
  have oJ:m'≤M:=by grind
  have hsM:s'≤M:=by grind
  rcases hUs with ⟨rfl,rfl,rfl,kw0⟩ | ⟨un,uc,oI,qL,rfl,rfl,tG⟩
  ·rcases Jg with ⟨lH,rfl⟩ | ⟨lH,rfl⟩
   ·have DJ:q'=[]:=List.eq_nil_of_length_eq_zero (by rw [←gI.len];exact lH)
    subst DJ
    have fU:nH y [] m'=[]:=rfl
    have fL:kW [] m'=[]:=rfl
    have fS:qW [] m'=0:=rfl
    (repeat first|refine wN ?_|refine wP rfl ?_|refine af rfl ?_|refine ag rfl ?_|refine wO rfl rfl ?_)
    refine VS.oy (bk _ _) rfl (fun wz β kz oz en=> ?_)
    obtain ⟨o1,o2⟩:=eb (en.own 154 _ _ rfl) 0 g rfl rfl
    obtain ⟨o3,o4⟩:=eb (en.own 155 _ _ rfl) 1 b rfl rfl
    rw [ah] at o4
    replace o3:β 155=b:=o3
    rw [fU] at eU
    rw [fL] at eL
    rw [fS,show s' + 0=s' by grind] at eS
    obtain ⟨o5,o6⟩:=eb (en.own 156 _ _ rfl) 2 ub rfl rfl
    replace o5:β 156=ub:=o5
    rw [List.map_append,ah,ah] at o6
    refine ⟨_,rfl,?_,oz.1,oz.2 ub (by simp),aR,n',c',bL,gE,ak,.slice (some ⟨ub,0,none⟩) yq Ax,?_,o4,?_,ub,yq,Ax,me,nt,.inr rfl,rfl,o6,?_⟩
    ·rw [eS];exact uD.k
    ·rw [←o3,←o5];exact o2
    ·rw [eL];exact gI.kp (aM B) (by (with_reducible (repeat (first | assumption | exact kU _ | exact kR _ | exact Kp.of (U:=UU) (by assumption) | exact aE.of (by assumption) | refine kT ?_ (by assumption)))))
    ·rw [eU,List.nil_append,List.append_nil];exact JO.kp (dm B) (by (with_reducible (repeat (first | assumption | exact kU _ | exact kR _ | exact Kp.of (U:=UU) (by assumption) | exact aE.of (by assumption) | refine kT ?_ (by assumption)))))
   ·obtain ⟨e,fv,rfl⟩:∃ e fv,q'=e::fv:=by
     cases q' with
     | nil=>exact absurd gI.len lH
     | cons e fv=>exact ⟨e,fv,rfl⟩
    obtain ⟨cs,fO,rfl,hE,qM⟩:∃ cs fO,gE=cs::fO∧cH B w' cs e∧cM (cH B) w' fv fO:=by
     have:=gI.el
     cases this with
     | cons h1 h2=>exact ⟨_,_,rfl,h1,h2⟩
    obtain ⟨s3,p3,n3,c3,t3,y3,m3,d3,rfl,Mf⟩:=hE
    have uP:=gI.le
    have qG:=gI.len
    have uL:=gI.cm
    have iP:bL.length=aR:=gI.pl.resolve_right (by omega)
    obtain ⟨ni,zU,Gr⟩:=zL e (by simp)
    (repeat first|refine wN ?_|refine wP rfl ?_|refine af rfl ?_|refine ag rfl ?_|refine wO rfl rfl ?_)
    obtain ⟨sg,jn⟩:∃ sg,dK m' 0=sg:=⟨_,rfl⟩
    refine VO.call rfl rfl (fk Tryz.func13) (fun cC er dv=>(bS _ m' kk cC (DY.ki (hK m' lC tD oJ)) (by omega) sg jn).mono ?_)
    rintro e w1 ⟨rfl,aV⟩
    skip
    refine ⟨_,rfl,aV,fun fe _ bb1=>wV rfl ?_⟩
    (repeat first|refine wN ?_|refine wP rfl ?_|refine af rfl ?_|refine ag rfl ?_|refine wO rfl rfl ?_)
    by_cases hm:0 < m'
    ·have jk:sg > 0:=by rw [←jn];exact ff.2 hm
     rw [if_pos hm] at iV
     refine VS.bE rfl (decide_eq_true jk) ?_
     (repeat first|refine wN ?_|refine wP rfl ?_|refine af rfl ?_|refine ag rfl ?_|refine wO rfl rfl ?_)
     refine VO.dh rfl (([.bool s3,.slice p3 n3 c3,.bool t3,.slice y3 m3 d3]:List Value).map .val) rfl (bh iP 1 _ ⟨[],rfl⟩) (wV rfl ?_)
     (repeat first|refine wN ?_|refine wP rfl ?_|refine af rfl ?_|refine ag rfl ?_|refine wO rfl rfl ?_)
     have pZ:=cR e.2 m'
     have Fy:0≤ai e.2 m':=by rcases pZ with ⟨h,_⟩ | ⟨h,_⟩ <;> rw [h] <;> assumption
     have pw:Iz D (ai e.2 m'):=by rcases pZ with ⟨h,_⟩ | ⟨h,_⟩ <;> rw [h] <;> assumption
     have za:=di e.2 m'
     have vC:=cd e.2 m'
     have lI:=hK _ pw Fy (Rat.le_trans vC oJ)
     refine VO.fI rfl (fk Tryz.func71) (fun dC β gu eu ho=>((fJ _ _ e.2 [m'] kk dC (Mf.rd.ki (hK e.2 ni zU Gr)) (dW (ho.own 31 (.base (List.mem_singleton.2 rfl)) _ _ rfl) [] (vs:=[[.bool s1,.slice p1 n1 c1,.bool t1,.slice y1 m1 d1]]) (by rfl) rfl (bZ.cons (DY.ki (hK m' lC tD oJ)) bZ.nil) (Nat.le_of_ble_eq_true rfl) (by decide)) (by omega) (Nat.le_of_ble_eq_true rfl)).mono (fun o w2 h=>And.intro h eu.1.size)).mono ?_)
     rintro o w2 ⟨⟨r4,rfl,q4,z4,bm⟩,qN⟩
     rw [gR] at q4
     have xA:aK w2 w.heap.size r4 (ai e.2 m'):=q4.mono qN
     obtain ⟨s4,p4,n4,c4,t4,y4,m4,d4,rfl⟩:=xA.form
     refine ⟨_,rfl,bm,fun fZ _ bb2=>wV rfl ?_⟩
     (repeat first|refine wN ?_|refine wP rfl ?_|refine af rfl ?_|refine ag rfl ?_|refine wO rfl rfl ?_)
     refine VO.dh rfl (([.int .i64 (e.1:Int)]:List Value).map .val) rfl (bh iP 0 _ ⟨_,rfl⟩) (wV rfl ?_)
     (repeat first|refine wN ?_|refine wP rfl ?_|refine af rfl ?_|refine ag rfl ?_|refine wO rfl rfl ?_)
     obtain ⟨vA,vB⟩:=hUo.el.ok (dm B)
     have DT:=hUo.len
     refine VO.app (bk _ _) (t:=34) (e:=et) (sz:=6) (n:=yq) (c:=Ax) (mm:=1) (known:=me.flatten.map .val) (spare:=(nt.map AV.val)) (del:=some 156) (news:=([.int .i64 (e.1:Int),.int .i64 (y:Int),.bool s4,.slice p4 n4 c4,.bool t4,.slice y4 m4 d4]:List Value).map .val) (dst:=47) rfl rfl rfl rfl rfl rfl rfl rfl (Nat.le_of_ble_eq_true rfl) rfl (.inr ⟨156,rfl,rfl,rfl⟩) (.inl rfl) (by rw [List.length_map,vB,DT]) hUo.fl hUo.le hUo.cm ⟨ao _,hUo.sl,rfl⟩ ⟨bb vA,hUo.so,rfl⟩ rfl (by simp only [List.length_append,List.length_cons] at DT iV jv ⊢;omega)
      (fun w1 β k1 b1 ho=>⟨_,_,rfl,.inr ⟨β 46,0,rfl,cK (rest:=[]) (ho.own 46 (.base (List.mem_append_right _ (List.mem_singleton.2 rfl))) _ _ rfl) rfl⟩⟩)
      (fun nD cap' eG ρ GM GN fC jc gm ed mL dy=>VO.ft 155 rfl (dR (ao _) _ _) (wV rfl ?_))
     (repeat first|refine wN ?_|refine wP rfl ?_|refine af rfl ?_|refine ag rfl ?_|refine wO rfl rfl ?_)
     have xS:uR B nD (yq + 1) cap' (me++[[.int .i64 (e.1:Int),.int .i64 (y:Int),.bool s4,.slice p4 n4 c4,.bool t4,.slice y4 m4 d4]]:List (List Value)) eG (us0++([]++[(e.1,y,ai e.2 m')])):=⟨by simp [DT] <;> omega,by simpa [List.append_assoc] using ((hUo.el.kp (dm B) (by (with_reducible (repeat (first | assumption | exact kU _ | exact kR _ | exact Kp.of (U:=UU) (by assumption) | exact aE.of (by assumption) | refine kT ?_ (by assumption)))))).snoc (show np B nD [.int .i64 (e.1:Int),.int .i64 (y:Int),.bool s4,.slice p4 n4 c4,.bool t4,.slice y4 m4 d4] (e.1,y,ai e.2 m') from ⟨s4,p4,n4,c4,t4,y4,m4,d4,rfl,(xA.mono hB).kp (by (with_reducible (repeat (first | assumption | exact kU _ | exact kR _ | exact Kp.of (U:=UU) (by assumption) | exact aE.of (by assumption) | refine kT ?_ (by assumption)))))⟩)),mL,dy,jc,gm,by simpa using ed⟩
     refine VO.call rfl rfl (fk Tryz.func16) (fun kg mG ku=>((dx _ _ s' (ai e.2 m') kk kk kg (uD.rd.ki (hK s' Jf hs0 hsM)) (xA.rd.ki lI) (by omega) (by omega)).mono (fun o w2 h=>And.intro h ku.1.size)).mono ?_)
     rintro o w5 ⟨⟨r5,rfl,q5,gi⟩,qO⟩
     obtain ⟨s5,p5,n5,c5,t5,y5,m5,d5,rfl⟩:=q5.form
     refine ⟨_,rfl,gi,fun nk _ xf=>wV rfl ?_⟩
     (repeat first|refine wN ?_|refine wP rfl ?_|refine af rfl ?_|refine ag rfl ?_|refine wO rfl rfl ?_)
     refine VO.call rfl rfl (fk Tryz.func72) (fun pK ux tw=>(bW _ _ m' (ai e.2 m') kk kk pK (DY.ki (hK m' lC tD oJ)) (xA.rd.ki lI) (by omega) (by omega)).mono ?_)
     rintro e w6 ⟨r6,rfl,q6,mX⟩
     obtain ⟨s6,p6,n6,c6,t6,y6,m6,d6,rfl⟩:=q6.form
     refine ⟨_,rfl,mX,fun tx _ CR=>wV rfl ?_⟩
     (repeat first|refine wN ?_|refine wP rfl ?_|refine af rfl ?_|refine ag rfl ?_|refine wO rfl rfl ?_)
     refine VO.dh rfl (([.bool s3,.slice p3 n3 c3,.bool t3,.slice y3 m3 d3]:List Value).map .val) rfl (bh iP 1 _ ⟨[],rfl⟩) (wV rfl ?_)
     (repeat first|refine wN ?_|refine wP rfl ?_|refine af rfl ?_|refine ag rfl ?_|refine wO rfl rfl ?_)
     refine VO.call rfl rfl (fk Tryz.func72) (fun yn DX xX=>((bW _ _ e.2 (ai e.2 m') kk kk yn (Mf.rd.ki (hK e.2 ni zU Gr)) (xA.rd.ki lI) (by omega) (by omega)).mono (fun o w2 h=>And.intro h xX.1.size)).mono ?_)
     rintro o w7 ⟨⟨r7,rfl,q7,uO⟩,Fz⟩
     obtain ⟨s7,p7,n7,c7,t7,y7,m7,d7,rfl⟩:=q7.form
     refine ⟨_,rfl,uO,fun zj _ bb7=>wV rfl ?_⟩
     (repeat first|refine wN ?_|refine wP rfl ?_|refine af rfl ?_|refine ag rfl ?_|refine wO rfl rfl ?_)
     refine VO.cond rfl (by show aR + 1 + 4≤_;rw [List.length_map,List.length_append,List.length_append,List.flatten_cons,List.length_append,iP];show aR + 1 + 4≤aR + (6 - 1 + _ + _);omega) (VO.ft 155 rfl (si iP) (wV rfl ?_))
     (repeat first|refine wN ?_|refine wP rfl ?_|refine af rfl ?_|refine ag rfl ?_|refine wO rfl rfl ?_)
     refine VO.dh rfl (([.bool s7,.slice p7 n7 c7,.bool t7,.slice y7 m7 d7]:List Value).map .val) rfl (bh iP 1 _ ⟨[],rfl⟩) (wV rfl ?_)
     (repeat first|refine wN ?_|refine wP rfl ?_|refine af rfl ?_|refine ag rfl ?_|refine wO rfl rfl ?_)
     have xV:0≤e.2 - ai e.2 m':=by grind
     have Mg:e.2 - ai e.2 m'≤M:=by grind
     have Mh:Iz D (e.2 - ai e.2 m'):=ni.sub pw
     obtain ⟨jD,jE⟩:∃ jD,dK (e.2 - ai e.2 m') 0=jD:=⟨_,rfl⟩
     refine VO.call rfl rfl (fk Tryz.func13) (fun uQ Fg zl=>(bS _ (e.2 - ai e.2 m') kk uQ (q7.ki (hK _ Mh xV Mg)) (by omega) jD jE).mono ?_)
     rintro e w8 ⟨rfl,qU⟩
     skip
     refine ⟨_,rfl,qU,fun vH _ JL=>wV rfl ?_⟩
     (repeat first|refine wN ?_|refine wP rfl ?_|refine af rfl ?_|refine ag rfl ?_|refine wO rfl rfl ?_)
     have hE7:cH B w8 [.int .i64 (e.1:Int),.bool s7,.slice p7 n7 c7,.bool t7,.slice y7 m7 d7] (e.1,e.2 - ai e.2 m'):=⟨s7,p7,n7,c7,t7,y7,m7,d7,rfl,(q7.mono (Nat.le_trans hB Fz)).kp (by (with_reducible (repeat (first | assumption | exact kU _ | exact kR _ | exact Kp.of (U:=UU) (by assumption) | exact aE.of (by assumption) | refine kT ?_ (by assumption)))))⟩
     have yW:=gI.so
     have Je:=gI.po
     have sO:=gI.fl
     have CC:0≤m' - ai e.2 m':=by grind
     have EO:0≤s' + ai e.2 m':=by grind
     have xB:s' + ai e.2 m' + (m' - ai e.2 m')=m:=by grind
     have xC:=(q6.kr (w':=w8) (by (with_reducible (repeat (first | assumption | exact kU _ | exact kR _ | exact Kp.of (U:=UU) (by assumption) | exact aE.of (by assumption) | refine kT ?_ (by assumption))))))
     have xD:aK w8 w.heap.size _ (s' + ai e.2 m'):=(q5.mono qO).kp (by (with_reducible (repeat (first | assumption | exact kU _ | exact kR _ | exact Kp.of (U:=UU) (by assumption) | exact aE.of (by assumption) | refine kT ?_ (by assumption)))))
     have Mi:cM (cH B) w8 fv fO:=qM.kp (aM B) (by (with_reducible (repeat (first | assumption | exact kU _ | exact kR _ | exact Kp.of (U:=UU) (by assumption) | exact aE.of (by assumption) | refine kT ?_ (by assumption)))))
     by_cases hz:e.2 - ai e.2 m'=0
     ·have qP:(jD == 0)=true:=by rw [←jE,hz];rfl
      refine VS.bE rfl qP ?_
      (repeat first|refine wN ?_|refine wP rfl ?_|refine af rfl ?_|refine ag rfl ?_|refine wO rfl rfl ?_)
      obtain ⟨e1,e2,e3⟩:=fN (y:=y) (p:=e) (q:=fv) hm hz
      rw [e1,←List.singleton_append,←List.append_assoc] at eU
      rw [e2] at eL
      rw [e3] at eS
      refine VO.iA rfl rfl (fk Tryz.func76) rfl (by omega) uP uL (fun j hj=> ?_) (Nat.le_of_ble_eq_true rfl) (fun w9 k9 b9=>wV rfl ?_)
      ·rcases List.mem_cons.1 hj with rfl | hj
       ·intro h;cases h
       ·cases List.mem_singleton.1 hj
        intro h;cases h
      (repeat first|refine wN ?_|refine wP rfl ?_|refine af rfl ?_|refine ag rfl ?_|refine wO rfl rfl ?_)
      have hO9:cY (cH B) 5 w9 (n' - 1) (if c'=1 then aR else aR + 5) (c' - 1) (bL++[.int .i64 (e.1:Int),.bool s7,.slice p7 n7 c7,.bool t7,.slice y7 m7 d7]) fO ak fv:=⟨by rw [qG];rfl,mM iP,by rw [List.all_append,Je];rfl,Mi.kp (aM B) (by (with_reducible (repeat (first | assumption | exact kU _ | exact kR _ | exact Kp.of (U:=UU) (by assumption) | exact aE.of (by assumption) | refine kT ?_ (by assumption))))),yW,by omega,by omega,mO sO⟩
      have jh:∀ (v8:AV) (wb:World),aE (KU UU) w9 wb→((n' - 1=0∧v8=.val (.pointer none))∨(n' - 1≠0∧v8=.kx 155 (if c'=1 then aR else aR + 5)))→sk B D M w rv y q m yq Ax me nt us0 (2 * fv.length + (if 0 < m' - ai e.2 m' then 1 else 0)) [(0,.box 154 0),(1,.val (.int .i64 (y:Int))),(5,.box 5 0),(6,.box 6 0),(7,.box 7 0),(8,v8)]
        ((154,(Runner,[.row 155 (if c'=1 then aR else aR + 5) (n' - 1) (c' - 1),.val rv,.row 47 0 (yq + 1) cap']))::(155,(cO,((bL++([.int .i64 (e.1:Int),.bool s7,.slice p7 n7 c7,.bool t7,.slice y7 m7 d7]:List Value))++(fO.flatten++ak)).map AV.val))::(5,(26,([.bool s6,.slice p6 n6 c6,.bool t6,.slice y6 m6 d6]:List Value).map .val))::(6,(26,([.bool false,.slice none 0 0,.bool false,.slice none 0 0]:List Value).map .val))::(7,(26,([.bool s5,.slice p5 n5 c5,.bool t5,.slice y5 m5 d5]:List Value).map .val))::[(47,(et,(me++[[.int .i64 (e.1:Int),.int .i64 (y:Int),.bool s4,.slice p4 n4 c4,.bool t4,.slice y4 m4 d4]]:List (List Value)).flatten.map AV.val++eG))]) wb:=fun v8 wb kb Jg=>
       ⟨fv,_,_,_,_,fO,ak,m' - ai e.2 m',s' + ai e.2 m',[]++[(e.1,y,ai e.2 m')],v8,_,_,_,_,_,_,_,_,_,_,_,_,_,_,_,_,_,_,rfl,rfl,rfl,hO9.kp (aM B) (by (with_reducible (repeat (first | assumption | exact kU _ | exact kR _ | exact Kp.of (U:=UU) (by assumption) | exact aE.of (by assumption) | refine kT ?_ (by assumption))))),xC.k,xD.k,lC.sub pw,Jf.add pw,CC,EO,xB,fun p hp=>zL p (by simp [hp]),eU,eL,by rw [eS];grind,Jg,by simp at iV ⊢;split <;> omega,.inr ⟨_,_,_,_,rfl,rfl,xS.kp (by (with_reducible (repeat (first | assumption | exact kU _ | exact kR _ | exact Kp.of (U:=UU) (by assumption) | exact aE.of (by assumption) | refine kT ?_ (by assumption)))))⟩⟩
      have hlt:2 * fv.length + (if 0 < m' - ai e.2 m' then 1 else 0) < 2 * (e::fv).length + (if 0 < m' then 1 else 0):=by
       rw [if_pos hm,List.length_cons];split <;> omega
      by_cases sP:n' - 1=0
      ·refine VO.cZ (x:=.row 155 (if c'=1 then aR else aR + 5) (n' - 1) (c' - 1)) (p:=fun _=>none) (c:=c' - 1) rfl (fun β=>.inr ⟨_,congrArg (fun n=>Value.slice (some ⟨β 155,(if c'=1 then aR else aR + 5),none⟩) n (c' - 1)) sP⟩) rfl (fk Tryz.func75) rfl (fun wb Jh Mj=>wV rfl ?_)
       (repeat first|refine wN ?_|refine wP rfl ?_|refine af rfl ?_|refine ag rfl ?_|refine wO rfl rfl ?_)
       refine VS.back _ hlt ⟨_,_,?_,?_,?_,?_,jh _ wb (by (with_reducible (repeat (first | assumption | exact kU _ | exact kR _ | exact Kp.of (U:=UU) (by assumption) | exact aE.of (by assumption) | refine kT ?_ (by assumption))))) (.inl ⟨sP,rfl⟩)⟩
       ·(repeat first|exact trivial|refine ⟨rfl,?_⟩)
       ·exact ⟨rfl,congrArg (fun l=>some (cO,l)) (dM _ _ _ _),rfl,rfl,rfl,congrArg (fun l=>some (et,l++eG)) (by simp),trivial⟩
       ·rfl
       ·exact ⟨.lit rfl,.vals _,.vals _,.vals _,.vals _,.append (.vals _) (.none dy),trivial⟩
      ·refine VO.cI rfl rfl (fk Tryz.func75) rfl sP (by intro h;cases h) (fun wb Jh Mj=>wV rfl ?_)
       (repeat first|refine wN ?_|refine wP rfl ?_|refine af rfl ?_|refine ag rfl ?_|refine wO rfl rfl ?_)
       refine VS.back _ hlt ⟨_,_,?_,?_,?_,?_,jh _ wb (by (with_reducible (repeat (first | assumption | exact kU _ | exact kR _ | exact Kp.of (U:=UU) (by assumption) | exact aE.of (by assumption) | refine kT ?_ (by assumption))))) (.inr ⟨sP,rfl⟩)⟩
       ·(repeat first|exact trivial|refine ⟨rfl,?_⟩)
       ·exact ⟨rfl,congrArg (fun l=>some (cO,l)) (dM _ _ _ _),rfl,rfl,rfl,congrArg (fun l=>some (et,l++eG)) (by simp),trivial⟩
       ·rfl
       ·exact ⟨.lit rfl,.vals _,.vals _,.vals _,.vals _,.append (.vals _) (.none dy),trivial⟩
     ·have qP:(jD == 0)=false:=by rw [←jE,beq_eq_false_iff_ne];exact vJ hz
      refine VS.bu rfl qP ?_
      (repeat first|refine wN ?_|refine wP rfl ?_|refine af rfl ?_|refine ag rfl ?_|refine wO rfl rfl ?_)
      obtain ⟨e0,e1,e2,e3⟩:=fM (y:=y) (p:=e) (q:=fv) hm hz
      refine VO.cI rfl rfl (fk Tryz.func75) rfl lH (by intro h;cases h) (fun wb Jh Mj=>wV rfl ?_)
      (repeat first|refine wN ?_|refine wP rfl ?_|refine af rfl ?_|refine ag rfl ?_|refine wO rfl rfl ?_)
      refine VS.back (2 * (e::fv).length + 0) (by rw [if_pos hm];omega) ⟨_,_,?_,?_,?_,?_,⟨(e.1,e.2 - ai e.2 m')::fv,aR,n',c',bL,[.int .i64 (e.1:Int),.bool s7,.slice p7 n7 c7,.bool t7,.slice y7 m7 d7]::fO,ak,m' - ai e.2 m',s' + ai e.2 m',[]++[(e.1,y,ai e.2 m')],.kx 155 aR,_,_,_,_,_,_,_,_,_,_,_,_,_,_,_,_,_,_,by rw [if_neg e0];rfl,rfl,rfl,⟨qG,.inl iP,Je,.cons ((aM B).kp hE7 (by (with_reducible (repeat (first | assumption | exact kU _ | exact kR _ | exact Kp.of (U:=UU) (by assumption) | exact aE.of (by assumption) | refine kT ?_ (by assumption)))))) (Mi.kp (aM B) (by (with_reducible (repeat (first | assumption | exact kU _ | exact kR _ | exact Kp.of (U:=UU) (by assumption) | exact aE.of (by assumption) | refine kT ?_ (by assumption)))))),yW,uP,uL,by simpa using sO⟩,xC.k,xD.k,lC.sub pw,Jf.add pw,CC,EO,xB,fun p hp=> ?_,?_,?_,?_,.inr ⟨lH,rfl⟩,?_,.inr ⟨_,_,_,_,rfl,rfl,xS.kp (by (with_reducible (repeat (first | assumption | exact kU _ | exact kR _ | exact Kp.of (U:=UU) (by assumption) | exact aE.of (by assumption) | refine kT ?_ (by assumption)))))⟩⟩⟩
      ·(repeat first|exact trivial|refine ⟨rfl,?_⟩)
      ·exact ⟨rfl,rfl,rfl,rfl,rfl,congrArg (fun l=>some (et,l++eG)) (by simp),trivial⟩
      ·rfl
      ·exact ⟨.lit rfl,.vals _,.vals _,.vals _,.vals _,.append (.vals _) (.none dy),trivial⟩
      ·rcases List.mem_cons.1 hp with rfl | hp
       ·exact ⟨Mh,xV,Mg⟩
       ·exact zL p (by simp [hp])
      ·rw [eU,e1,gw y _ e0,List.append_nil]
      ·rw [eL,e2,fK _ e0]
      ·rw [eS,e3,gz _ e0];grind
      ·rw [if_neg e0];simp at iV ⊢;omega
    ·have jk:¬ sg > 0:=by rw [←jn];exact fun h=>hm (ff.1 h)
     refine VS.bu rfl (decide_eq_false jk) ?_
     have fU:=gw y (e::fv) hm
     have fL:=fK (e::fv) hm
     have fS:=gz (e::fv) hm
     (repeat first|refine wN ?_|refine wP rfl ?_|refine af rfl ?_|refine ag rfl ?_|refine wO rfl rfl ?_)
     refine VS.oy (bk _ _) rfl (fun wz β kz oz en=> ?_)
     obtain ⟨o1,o2⟩:=eb (en.own 154 _ _ rfl) 0 g rfl rfl
     obtain ⟨o3,o4⟩:=eb (en.own 155 _ _ rfl) 1 b rfl rfl
     rw [ah] at o4
     replace o3:β 155=b:=o3
     rw [fU] at eU
     rw [fL] at eL
     rw [fS,show s' + 0=s' by grind] at eS
     obtain ⟨o5,o6⟩:=eb (en.own 156 _ _ rfl) 2 ub rfl rfl
     replace o5:β 156=ub:=o5
     rw [List.map_append,ah,ah] at o6
     refine ⟨_,rfl,?_,oz.1,oz.2 ub (by simp),aR,n',c',bL,_,ak,.slice (some ⟨ub,0,none⟩) yq Ax,?_,o4,?_,ub,yq,Ax,me,nt,.inr rfl,rfl,o6,?_⟩
     ·rw [eS];exact uD.k
     ·rw [←o3,←o5];exact o2
     ·rw [eL];exact gI.kp (aM B) (by (with_reducible (repeat (first | assumption | exact kU _ | exact kR _ | exact Kp.of (U:=UU) (by assumption) | exact aE.of (by assumption) | refine kT ?_ (by assumption)))))
     ·rw [eU,List.nil_append,List.append_nil];exact JO.kp (dm B) (by (with_reducible (repeat (first | assumption | exact kU _ | exact kR _ | exact Kp.of (U:=UU) (by assumption) | exact aE.of (by assumption) | refine kT ?_ (by assumption)))))
  ·rcases Jg with ⟨lH,rfl⟩ | ⟨lH,rfl⟩
   ·have DJ:q'=[]:=List.eq_nil_of_length_eq_zero (by rw [←gI.len];exact lH)
    subst DJ
    have fU:nH y [] m'=[]:=rfl
    have fL:kW [] m'=[]:=rfl
    have fS:qW [] m'=0:=rfl
    (repeat first|refine wN ?_|refine wP rfl ?_|refine af rfl ?_|refine ag rfl ?_|refine wO rfl rfl ?_)
    refine VS.oy (bk _ _) rfl (fun wz β kz oz en=> ?_)
    obtain ⟨o1,o2⟩:=eb (en.own 154 _ _ rfl) 0 g rfl rfl
    obtain ⟨o3,o4⟩:=eb (en.own 155 _ _ rfl) 1 b rfl rfl
    rw [ah] at o4
    replace o3:β 155=b:=o3
    rw [fU] at eU
    rw [fL] at eL
    rw [fS,show s' + 0=s' by grind] at eS
    have o5:=(en.own 47 _ _ rfl).new
    have o6:=(en.own 47 _ _ rfl).cls
    rw [List.map_append,ah] at o6
    have n1':β 47≠g:=fun e=>absurd (en.apart 154 47 (by intro h;cases h) (by intro h;cases h) (o1.trans e.symm)) (by decide)
    have n2':β 47≠b:=fun e=>absurd (en.apart 155 47 (by intro h;cases h) (by intro h;cases h) (o3.trans e.symm)) (by decide)
    have o7:w.heap.size≤β 47∨β 47=ub:=by
     have:=eO (show cB 77 [g,b,ub] w 47 (β 47) from o5)
     simpa [n1',n2'] using this
    refine ⟨_,rfl,?_,oz.1,oz.2 ub (by simp),aR,n',c',bL,gE,ak,.slice (some ⟨β 47,0,none⟩) un uc,?_,o4,?_,⟨β 47,un,uc,oI,qL.map (AV.leaf β),o7,rfl,o6,?_⟩⟩
    ·rw [eS];exact uD.k
    ·rw [←o3];exact o2
    ·rw [eL];exact gI.kp (aM B) (by (with_reducible (repeat (first | assumption | exact kU _ | exact kR _ | exact Kp.of (U:=UU) (by assumption) | exact aE.of (by assumption) | refine kT ?_ (by assumption)))))
    ·rw [eU,List.append_nil];exact (tG.kp (by (with_reducible (repeat (first | assumption | exact kU _ | exact kR _ | exact Kp.of (U:=UU) (by assumption) | exact aE.of (by assumption) | refine kT ?_ (by assumption)))))).o β
   ·obtain ⟨e,fv,rfl⟩:∃ e fv,q'=e::fv:=by
     cases q' with
     | nil=>exact absurd gI.len lH
     | cons e fv=>exact ⟨e,fv,rfl⟩
    obtain ⟨cs,fO,rfl,hE,qM⟩:∃ cs fO,gE=cs::fO∧cH B w' cs e∧cM (cH B) w' fv fO:=by
     have:=gI.el
     cases this with
     | cons h1 h2=>exact ⟨_,_,rfl,h1,h2⟩
    obtain ⟨s3,p3,n3,c3,t3,y3,m3,d3,rfl,Mf⟩:=hE
    have uP:=gI.le
    have qG:=gI.len
    have uL:=gI.cm
    have iP:bL.length=aR:=gI.pl.resolve_right (by omega)
    obtain ⟨ni,zU,Gr⟩:=zL e (by simp)
    (repeat first|refine wN ?_|refine wP rfl ?_|refine af rfl ?_|refine ag rfl ?_|refine wO rfl rfl ?_)
    obtain ⟨sg,jn⟩:∃ sg,dK m' 0=sg:=⟨_,rfl⟩
    refine VO.call rfl rfl (fk Tryz.func13) (fun cC er dv=>(bS _ m' kk cC (DY.ki (hK m' lC tD oJ)) (by omega) sg jn).mono ?_)
    rintro e w1 ⟨rfl,aV⟩
    skip
    refine ⟨_,rfl,aV,fun fe _ bb1=>wV rfl ?_⟩
    (repeat first|refine wN ?_|refine wP rfl ?_|refine af rfl ?_|refine ag rfl ?_|refine wO rfl rfl ?_)
    by_cases hm:0 < m'
    ·have jk:sg > 0:=by rw [←jn];exact ff.2 hm
     rw [if_pos hm] at iV
     refine VS.bE rfl (decide_eq_true jk) ?_
     (repeat first|refine wN ?_|refine wP rfl ?_|refine af rfl ?_|refine ag rfl ?_|refine wO rfl rfl ?_)
     refine VO.dh rfl (([.bool s3,.slice p3 n3 c3,.bool t3,.slice y3 m3 d3]:List Value).map .val) rfl (bh iP 1 _ ⟨[],rfl⟩) (wV rfl ?_)
     (repeat first|refine wN ?_|refine wP rfl ?_|refine af rfl ?_|refine ag rfl ?_|refine wO rfl rfl ?_)
     have pZ:=cR e.2 m'
     have Fy:0≤ai e.2 m':=by rcases pZ with ⟨h,_⟩ | ⟨h,_⟩ <;> rw [h] <;> assumption
     have pw:Iz D (ai e.2 m'):=by rcases pZ with ⟨h,_⟩ | ⟨h,_⟩ <;> rw [h] <;> assumption
     have za:=di e.2 m'
     have vC:=cd e.2 m'
     have lI:=hK _ pw Fy (Rat.le_trans vC oJ)
     refine VO.fI rfl (fk Tryz.func71) (fun dC β gu eu ho=>((fJ _ _ e.2 [m'] kk dC (Mf.rd.ki (hK e.2 ni zU Gr)) (dW (ho.own 31 (.base (List.mem_singleton.2 rfl)) _ _ rfl) [] (vs:=[[.bool s1,.slice p1 n1 c1,.bool t1,.slice y1 m1 d1]]) (by rfl) rfl (bZ.cons (DY.ki (hK m' lC tD oJ)) bZ.nil) (Nat.le_of_ble_eq_true rfl) (by decide)) (by omega) (Nat.le_of_ble_eq_true rfl)).mono (fun o w2 h=>And.intro h eu.1.size)).mono ?_)
     rintro o w2 ⟨⟨r4,rfl,q4,z4,bm⟩,qN⟩
     rw [gR] at q4
     have xA:aK w2 w.heap.size r4 (ai e.2 m'):=q4.mono qN
     obtain ⟨s4,p4,n4,c4,t4,y4,m4,d4,rfl⟩:=xA.form
     refine ⟨_,rfl,bm,fun fZ _ bb2=>wV rfl ?_⟩
     (repeat first|refine wN ?_|refine wP rfl ?_|refine af rfl ?_|refine ag rfl ?_|refine wO rfl rfl ?_)
     refine VO.dh rfl (([.int .i64 (e.1:Int)]:List Value).map .val) rfl (bh iP 0 _ ⟨_,rfl⟩) (wV rfl ?_)
     (repeat first|refine wN ?_|refine wP rfl ?_|refine af rfl ?_|refine ag rfl ?_|refine wO rfl rfl ?_)
     obtain ⟨vA,vB⟩:=tG.el.ok (dm B)
     have DT:=tG.len
     refine VO.app (bk _ _) (t:=34) (e:=et) (sz:=6) (n:=un) (c:=uc) (mm:=1) (known:=oI.flatten.map .val) (spare:=qL) (del:=some 47) (news:=([.int .i64 (e.1:Int),.int .i64 (y:Int),.bool s4,.slice p4 n4 c4,.bool t4,.slice y4 m4 d4]:List Value).map .val) (dst:=47) rfl rfl rfl rfl rfl rfl rfl rfl (Nat.le_of_ble_eq_true rfl) rfl (.inr ⟨47,rfl,rfl,rfl⟩) (.inr rfl) (by rw [List.length_map,vB,DT]) tG.fl tG.le tG.cm ⟨ao _,tG.sl,rfl⟩ ⟨bb vA,tG.so,rfl⟩ rfl (by simp only [List.length_append,List.length_cons] at DT iV jv ⊢;omega)
      (fun w1 β k1 b1 ho=>⟨_,_,rfl,.inr ⟨β 46,0,rfl,cK (rest:=[]) (ho.own 46 (.base (List.mem_append_right _ (List.mem_singleton.2 rfl))) _ _ rfl) rfl⟩⟩)
      (fun nD cap' eG ρ GM GN fC jc gm ed mL dy=>VO.ft 155 rfl (dR (ao _) _ _) (wV rfl ?_))
     (repeat first|refine wN ?_|refine wP rfl ?_|refine af rfl ?_|refine ag rfl ?_|refine wO rfl rfl ?_)
     have xS:uR B nD (un + 1) cap' (oI++[[.int .i64 (e.1:Int),.int .i64 (y:Int),.bool s4,.slice p4 n4 c4,.bool t4,.slice y4 m4 d4]]:List (List Value)) eG (us0++(done++[(e.1,y,ai e.2 m')])):=⟨by simp [DT] <;> omega,by simpa [List.append_assoc] using ((tG.el.kp (dm B) (by (with_reducible (repeat (first | assumption | exact kU _ | exact kR _ | exact Kp.of (U:=UU) (by assumption) | exact aE.of (by assumption) | refine kT ?_ (by assumption)))))).snoc (show np B nD [.int .i64 (e.1:Int),.int .i64 (y:Int),.bool s4,.slice p4 n4 c4,.bool t4,.slice y4 m4 d4] (e.1,y,ai e.2 m') from ⟨s4,p4,n4,c4,t4,y4,m4,d4,rfl,(xA.mono hB).kp (by (with_reducible (repeat (first | assumption | exact kU _ | exact kR _ | exact Kp.of (U:=UU) (by assumption) | exact aE.of (by assumption) | refine kT ?_ (by assumption)))))⟩)),mL,dy,jc,gm,by simpa using ed⟩
     refine VO.call rfl rfl (fk Tryz.func16) (fun kg mG ku=>((dx _ _ s' (ai e.2 m') kk kk kg (uD.rd.ki (hK s' Jf hs0 hsM)) (xA.rd.ki lI) (by omega) (by omega)).mono (fun o w2 h=>And.intro h ku.1.size)).mono ?_)
     rintro o w5 ⟨⟨r5,rfl,q5,gi⟩,qO⟩
     obtain ⟨s5,p5,n5,c5,t5,y5,m5,d5,rfl⟩:=q5.form
     refine ⟨_,rfl,gi,fun nk _ xf=>wV rfl ?_⟩
     (repeat first|refine wN ?_|refine wP rfl ?_|refine af rfl ?_|refine ag rfl ?_|refine wO rfl rfl ?_)
     refine VO.call rfl rfl (fk Tryz.func72) (fun pK ux tw=>(bW _ _ m' (ai e.2 m') kk kk pK (DY.ki (hK m' lC tD oJ)) (xA.rd.ki lI) (by omega) (by omega)).mono ?_)
     rintro e w6 ⟨r6,rfl,q6,mX⟩
     obtain ⟨s6,p6,n6,c6,t6,y6,m6,d6,rfl⟩:=q6.form
     refine ⟨_,rfl,mX,fun tx _ CR=>wV rfl ?_⟩
     (repeat first|refine wN ?_|refine wP rfl ?_|refine af rfl ?_|refine ag rfl ?_|refine wO rfl rfl ?_)
     refine VO.dh rfl (([.bool s3,.slice p3 n3 c3,.bool t3,.slice y3 m3 d3]:List Value).map .val) rfl (bh iP 1 _ ⟨[],rfl⟩) (wV rfl ?_)
     (repeat first|refine wN ?_|refine wP rfl ?_|refine af rfl ?_|refine ag rfl ?_|refine wO rfl rfl ?_)
     refine VO.call rfl rfl (fk Tryz.func72) (fun yn DX xX=>((bW _ _ e.2 (ai e.2 m') kk kk yn (Mf.rd.ki (hK e.2 ni zU Gr)) (xA.rd.ki lI) (by omega) (by omega)).mono (fun o w2 h=>And.intro h xX.1.size)).mono ?_)
     rintro o w7 ⟨⟨r7,rfl,q7,uO⟩,Fz⟩
     obtain ⟨s7,p7,n7,c7,t7,y7,m7,d7,rfl⟩:=q7.form
     refine ⟨_,rfl,uO,fun zj _ bb7=>wV rfl ?_⟩
     (repeat first|refine wN ?_|refine wP rfl ?_|refine af rfl ?_|refine ag rfl ?_|refine wO rfl rfl ?_)
     refine VO.cond rfl (by show aR + 1 + 4≤_;rw [List.length_map,List.length_append,List.length_append,List.flatten_cons,List.length_append,iP];show aR + 1 + 4≤aR + (6 - 1 + _ + _);omega) (VO.ft 155 rfl (si iP) (wV rfl ?_))
     (repeat first|refine wN ?_|refine wP rfl ?_|refine af rfl ?_|refine ag rfl ?_|refine wO rfl rfl ?_)
     refine VO.dh rfl (([.bool s7,.slice p7 n7 c7,.bool t7,.slice y7 m7 d7]:List Value).map .val) rfl (bh iP 1 _ ⟨[],rfl⟩) (wV rfl ?_)
     (repeat first|refine wN ?_|refine wP rfl ?_|refine af rfl ?_|refine ag rfl ?_|refine wO rfl rfl ?_)
     have xV:0≤e.2 - ai e.2 m':=by grind
     have Mg:e.2 - ai e.2 m'≤M:=by grind
     have Mh:Iz D (e.2 - ai e.2 m'):=ni.sub pw
     obtain ⟨jD,jE⟩:∃ jD,dK (e.2 - ai e.2 m') 0=jD:=⟨_,rfl⟩
     refine VO.call rfl rfl (fk Tryz.func13) (fun uQ Fg zl=>(bS _ (e.2 - ai e.2 m') kk uQ (q7.ki (hK _ Mh xV Mg)) (by omega) jD jE).mono ?_)
     rintro e w8 ⟨rfl,qU⟩
     skip
     refine ⟨_,rfl,qU,fun vH _ JL=>wV rfl ?_⟩
     (repeat first|refine wN ?_|refine wP rfl ?_|refine af rfl ?_|refine ag rfl ?_|refine wO rfl rfl ?_)
     have hE7:cH B w8 [.int .i64 (e.1:Int),.bool s7,.slice p7 n7 c7,.bool t7,.slice y7 m7 d7] (e.1,e.2 - ai e.2 m'):=⟨s7,p7,n7,c7,t7,y7,m7,d7,rfl,(q7.mono (Nat.le_trans hB Fz)).kp (by (with_reducible (repeat (first | assumption | exact kU _ | exact kR _ | exact Kp.of (U:=UU) (by assumption) | exact aE.of (by assumption) | refine kT ?_ (by assumption)))))⟩
     have yW:=gI.so
     have Je:=gI.po
     have sO:=gI.fl
     have CC:0≤m' - ai e.2 m':=by grind
     have EO:0≤s' + ai e.2 m':=by grind
     have xB:s' + ai e.2 m' + (m' - ai e.2 m')=m:=by grind
     have xC:=(q6.kr (w':=w8) (by (with_reducible (repeat (first | assumption | exact kU _ | exact kR _ | exact Kp.of (U:=UU) (by assumption) | exact aE.of (by assumption) | refine kT ?_ (by assumption))))))
     have xD:aK w8 w.heap.size _ (s' + ai e.2 m'):=(q5.mono qO).kp (by (with_reducible (repeat (first | assumption | exact kU _ | exact kR _ | exact Kp.of (U:=UU) (by assumption) | exact aE.of (by assumption) | refine kT ?_ (by assumption)))))
     have Mi:cM (cH B) w8 fv fO:=qM.kp (aM B) (by (with_reducible (repeat (first | assumption | exact kU _ | exact kR _ | exact Kp.of (U:=UU) (by assumption) | exact aE.of (by assumption) | refine kT ?_ (by assumption)))))
     by_cases hz:e.2 - ai e.2 m'=0
     ·have qP:(jD == 0)=true:=by rw [←jE,hz];rfl
      refine VS.bE rfl qP ?_
      (repeat first|refine wN ?_|refine wP rfl ?_|refine af rfl ?_|refine ag rfl ?_|refine wO rfl rfl ?_)
      obtain ⟨e1,e2,e3⟩:=fN (y:=y) (p:=e) (q:=fv) hm hz
      rw [e1,←List.singleton_append,←List.append_assoc] at eU
      rw [e2] at eL
      rw [e3] at eS
      refine VO.iA rfl rfl (fk Tryz.func76) rfl (by omega) uP uL (fun j hj=> ?_) (Nat.le_of_ble_eq_true rfl) (fun w9 k9 b9=>wV rfl ?_)
      ·rcases List.mem_cons.1 hj with rfl | hj
       ·intro h;cases h
       ·cases List.mem_singleton.1 hj
        intro h;cases h
      (repeat first|refine wN ?_|refine wP rfl ?_|refine af rfl ?_|refine ag rfl ?_|refine wO rfl rfl ?_)
      have hO9:cY (cH B) 5 w9 (n' - 1) (if c'=1 then aR else aR + 5) (c' - 1) (bL++[.int .i64 (e.1:Int),.bool s7,.slice p7 n7 c7,.bool t7,.slice y7 m7 d7]) fO ak fv:=⟨by rw [qG];rfl,mM iP,by rw [List.all_append,Je];rfl,Mi.kp (aM B) (by (with_reducible (repeat (first | assumption | exact kU _ | exact kR _ | exact Kp.of (U:=UU) (by assumption) | exact aE.of (by assumption) | refine kT ?_ (by assumption))))),yW,by omega,by omega,mO sO⟩
      have jh:∀ (v8:AV) (wb:World),aE (KU UU) w9 wb→((n' - 1=0∧v8=.val (.pointer none))∨(n' - 1≠0∧v8=.kx 155 (if c'=1 then aR else aR + 5)))→sk B D M w rv y q m yq Ax me nt us0 (2 * fv.length + (if 0 < m' - ai e.2 m' then 1 else 0)) [(0,.box 154 0),(1,.val (.int .i64 (y:Int))),(5,.box 5 0),(6,.box 6 0),(7,.box 7 0),(8,v8)]
        ((154,(Runner,[.row 155 (if c'=1 then aR else aR + 5) (n' - 1) (c' - 1),.val rv,.row 47 0 (un + 1) cap']))::(155,(cO,((bL++([.int .i64 (e.1:Int),.bool s7,.slice p7 n7 c7,.bool t7,.slice y7 m7 d7]:List Value))++(fO.flatten++ak)).map AV.val))::(5,(26,([.bool s6,.slice p6 n6 c6,.bool t6,.slice y6 m6 d6]:List Value).map .val))::(6,(26,([.bool false,.slice none 0 0,.bool false,.slice none 0 0]:List Value).map .val))::(7,(26,([.bool s5,.slice p5 n5 c5,.bool t5,.slice y5 m5 d5]:List Value).map .val))::[(47,(et,(oI++[[.int .i64 (e.1:Int),.int .i64 (y:Int),.bool s4,.slice p4 n4 c4,.bool t4,.slice y4 m4 d4]]:List (List Value)).flatten.map AV.val++eG))]) wb:=fun v8 wb kb Jg=>
       ⟨fv,_,_,_,_,fO,ak,m' - ai e.2 m',s' + ai e.2 m',done++[(e.1,y,ai e.2 m')],v8,_,_,_,_,_,_,_,_,_,_,_,_,_,_,_,_,_,_,rfl,rfl,rfl,hO9.kp (aM B) (by (with_reducible (repeat (first | assumption | exact kU _ | exact kR _ | exact Kp.of (U:=UU) (by assumption) | exact aE.of (by assumption) | refine kT ?_ (by assumption))))),xC.k,xD.k,lC.sub pw,Jf.add pw,CC,EO,xB,fun p hp=>zL p (by simp [hp]),eU,eL,by rw [eS];grind,Jg,by simp at iV ⊢;split <;> omega,.inr ⟨_,_,_,_,rfl,rfl,xS.kp (by (with_reducible (repeat (first | assumption | exact kU _ | exact kR _ | exact Kp.of (U:=UU) (by assumption) | exact aE.of (by assumption) | refine kT ?_ (by assumption)))))⟩⟩
      have hlt:2 * fv.length + (if 0 < m' - ai e.2 m' then 1 else 0) < 2 * (e::fv).length + (if 0 < m' then 1 else 0):=by
       rw [if_pos hm,List.length_cons];split <;> omega
      by_cases sP:n' - 1=0
      ·refine VO.cZ (x:=.row 155 (if c'=1 then aR else aR + 5) (n' - 1) (c' - 1)) (p:=fun _=>none) (c:=c' - 1) rfl (fun β=>.inr ⟨_,congrArg (fun n=>Value.slice (some ⟨β 155,(if c'=1 then aR else aR + 5),none⟩) n (c' - 1)) sP⟩) rfl (fk Tryz.func75) rfl (fun wb Jh Mj=>wV rfl ?_)
       (repeat first|refine wN ?_|refine wP rfl ?_|refine af rfl ?_|refine ag rfl ?_|refine wO rfl rfl ?_)
       refine VS.back _ hlt ⟨_,_,?_,?_,?_,?_,jh _ wb (by (with_reducible (repeat (first | assumption | exact kU _ | exact kR _ | exact Kp.of (U:=UU) (by assumption) | exact aE.of (by assumption) | refine kT ?_ (by assumption))))) (.inl ⟨sP,rfl⟩)⟩
       ·(repeat first|exact trivial|refine ⟨rfl,?_⟩)
       ·exact ⟨rfl,congrArg (fun l=>some (cO,l)) (dM _ _ _ _),rfl,rfl,rfl,congrArg (fun l=>some (et,l++eG)) (by simp),trivial⟩
       ·rfl
       ·exact ⟨.lit rfl,.vals _,.vals _,.vals _,.vals _,.append (.vals _) (.none dy),trivial⟩
      ·refine VO.cI rfl rfl (fk Tryz.func75) rfl sP (by intro h;cases h) (fun wb Jh Mj=>wV rfl ?_)
       (repeat first|refine wN ?_|refine wP rfl ?_|refine af rfl ?_|refine ag rfl ?_|refine wO rfl rfl ?_)
       refine VS.back _ hlt ⟨_,_,?_,?_,?_,?_,jh _ wb (by (with_reducible (repeat (first | assumption | exact kU _ | exact kR _ | exact Kp.of (U:=UU) (by assumption) | exact aE.of (by assumption) | refine kT ?_ (by assumption))))) (.inr ⟨sP,rfl⟩)⟩
       ·(repeat first|exact trivial|refine ⟨rfl,?_⟩)
       ·exact ⟨rfl,congrArg (fun l=>some (cO,l)) (dM _ _ _ _),rfl,rfl,rfl,congrArg (fun l=>some (et,l++eG)) (by simp),trivial⟩
       ·rfl
       ·exact ⟨.lit rfl,.vals _,.vals _,.vals _,.vals _,.append (.vals _) (.none dy),trivial⟩
     ·have qP:(jD == 0)=false:=by rw [←jE,beq_eq_false_iff_ne];exact vJ hz
      refine VS.bu rfl qP ?_
      (repeat first|refine wN ?_|refine wP rfl ?_|refine af rfl ?_|refine ag rfl ?_|refine wO rfl rfl ?_)
      obtain ⟨e0,e1,e2,e3⟩:=fM (y:=y) (p:=e) (q:=fv) hm hz
      refine VO.cI rfl rfl (fk Tryz.func75) rfl lH (by intro h;cases h) (fun wb Jh Mj=>wV rfl ?_)
      (repeat first|refine wN ?_|refine wP rfl ?_|refine af rfl ?_|refine ag rfl ?_|refine wO rfl rfl ?_)
      refine VS.back (2 * (e::fv).length + 0) (by rw [if_pos hm];omega) ⟨_,_,?_,?_,?_,?_,⟨(e.1,e.2 - ai e.2 m')::fv,aR,n',c',bL,[.int .i64 (e.1:Int),.bool s7,.slice p7 n7 c7,.bool t7,.slice y7 m7 d7]::fO,ak,m' - ai e.2 m',s' + ai e.2 m',done++[(e.1,y,ai e.2 m')],.kx 155 aR,_,_,_,_,_,_,_,_,_,_,_,_,_,_,_,_,_,_,by rw [if_neg e0];rfl,rfl,rfl,⟨qG,.inl iP,Je,.cons ((aM B).kp hE7 (by (with_reducible (repeat (first | assumption | exact kU _ | exact kR _ | exact Kp.of (U:=UU) (by assumption) | exact aE.of (by assumption) | refine kT ?_ (by assumption)))))) (Mi.kp (aM B) (by (with_reducible (repeat (first | assumption | exact kU _ | exact kR _ | exact Kp.of (U:=UU) (by assumption) | exact aE.of (by assumption) | refine kT ?_ (by assumption)))))),yW,uP,uL,by simpa using sO⟩,xC.k,xD.k,lC.sub pw,Jf.add pw,CC,EO,xB,fun p hp=> ?_,?_,?_,?_,.inr ⟨lH,rfl⟩,?_,.inr ⟨_,_,_,_,rfl,rfl,xS.kp (by (with_reducible (repeat (first | assumption | exact kU _ | exact kR _ | exact Kp.of (U:=UU) (by assumption) | exact aE.of (by assumption) | refine kT ?_ (by assumption)))))⟩⟩⟩
      ·(repeat first|exact trivial|refine ⟨rfl,?_⟩)
      ·exact ⟨rfl,rfl,rfl,rfl,rfl,congrArg (fun l=>some (et,l++eG)) (by simp),trivial⟩
      ·rfl
      ·exact ⟨.lit rfl,.vals _,.vals _,.vals _,.vals _,.append (.vals _) (.none dy),trivial⟩
      ·rcases List.mem_cons.1 hp with rfl | hp
       ·exact ⟨Mh,xV,Mg⟩
       ·exact zL p (by simp [hp])
      ·rw [eU,e1,gw y _ e0,List.append_nil]
      ·rw [eL,e2,fK _ e0]
      ·rw [eS,e3,gz _ e0];grind
      ·rw [if_neg e0];simp at iV ⊢;omega
    ·have jk:¬ sg > 0:=by rw [←jn];exact fun h=>hm (ff.1 h)
     refine VS.bu rfl (decide_eq_false jk) ?_
     have fU:=gw y (e::fv) hm
     have fL:=fK (e::fv) hm
     have fS:=gz (e::fv) hm
     (repeat first|refine wN ?_|refine wP rfl ?_|refine af rfl ?_|refine ag rfl ?_|refine wO rfl rfl ?_)
     refine VS.oy (bk _ _) rfl (fun wz β kz oz en=> ?_)
     obtain ⟨o1,o2⟩:=eb (en.own 154 _ _ rfl) 0 g rfl rfl
     obtain ⟨o3,o4⟩:=eb (en.own 155 _ _ rfl) 1 b rfl rfl
     rw [ah] at o4
     replace o3:β 155=b:=o3
     rw [fU] at eU
     rw [fL] at eL
     rw [fS,show s' + 0=s' by grind] at eS
     have o5:=(en.own 47 _ _ rfl).new
     have o6:=(en.own 47 _ _ rfl).cls
     rw [List.map_append,ah] at o6
     have n1':β 47≠g:=fun e=>absurd (en.apart 154 47 (by intro h;cases h) (by intro h;cases h) (o1.trans e.symm)) (by decide)
     have n2':β 47≠b:=fun e=>absurd (en.apart 155 47 (by intro h;cases h) (by intro h;cases h) (o3.trans e.symm)) (by decide)
     have o7:w.heap.size≤β 47∨β 47=ub:=by
      have:=eO (show cB 77 [g,b,ub] w 47 (β 47) from o5)
      simpa [n1',n2'] using this
     refine ⟨_,rfl,?_,oz.1,oz.2 ub (by simp),aR,n',c',bL,_,ak,.slice (some ⟨β 47,0,none⟩) un uc,?_,o4,?_,⟨β 47,un,uc,oI,qL.map (AV.leaf β),o7,rfl,o6,?_⟩⟩
     ·rw [eS];exact uD.k
     ·rw [←o3];exact o2
     ·rw [eL];exact gI.kp (aM B) (by (with_reducible (repeat (first | assumption | exact kU _ | exact kR _ | exact Kp.of (U:=UU) (by assumption) | exact aE.of (by assumption) | refine kT ?_ (by assumption)))))
     ·rw [eU,List.append_nil];exact (tG.kp (by (with_reducible (repeat (first | assumption | exact kU _ | exact kR _ | exact Kp.of (U:=UU) (by assumption) | exact aE.of (by assumption) | refine kT ?_ (by assumption)))))).o β
end Go.Proofs.YtabalinjfgcfeaaGreat
