/- What the reference's fractions compute: Right, Zero, Plain, New, Of, Whole, Add, Neg, Sub, Mul, Div, Sign, Cmp, Same. -/
import Derived.Test.YtofdiijioejljaaGreatRef03I
import Derived.Test.YtofdiijioejljaaGreatRatAll
set_option linter.all false
set_option maxRecDepth 4000
namespace Go.Proofs.YtofdiijioejljaaGreat
open Go.RowKit
attribute [local irreducible] vcOps VS

theorem q04same_any (v u : Value) (X Y : Int) (j k : Nat) (w : World) (hv : IntIn w v X j) (hu : IntIn w u Y k) (hj : j ≤ 1073741824) (hk : k ≤ 1073741824) :
  Calls Tryz.prog 92 #[v, u] w fun e w' => e = .returned (.bool (decide (X = Y))) ∧ Beh w w' := by
 obtain ⟨s, p, n, c, rfl⟩ := hv.form
 obtain ⟨t, q, m, d, rfl⟩ := hu.form
 refine calm_enter (C := cxOf Tryz.prog w _) (args := [_, _]) Tryz.func92 rfl Tryz.ntmps92 (Nat.le_of_ble_eq_true rfl) ?_
 (repeat first|refine wN ?_|refine wP rfl ?_|refine cx_r rfl ?_|refine cx_d rfl ?_|refine wO rfl rfl ?_)
 refine VO.call rfl rfl (fk Tryz.func118) (fun wa1 ka1 ba1 => (rcmp_any _ _ X Y j k wa1 (hv.kp ka1) (hu.kp ka1) hj hk).mono ?_)
 rintro e w1 ⟨rfl, hb1⟩
 skip
 refine ⟨_, rfl, hb1, fun kb1 _ bb1 => wV rfl ?_⟩
 (repeat first|refine wN ?_|refine wP rfl ?_|refine cx_r rfl ?_|refine cx_d rfl ?_|refine wO rfl rfl ?_)
 refine VS.ret (cx_ok _ _) rfl rfl (fun wz kz bz => ?_)
 refine ⟨?_, bz⟩
 show Ending.returned (.bool (icmp X Y == 0)) = _
 unfold icmp
 by_cases h : X = Y
 ·rw [h, decide_eq_true rfl, Int.sub_self]; rfl
 ·rw [decide_eq_false h]
  have : ((X - Y).sign == 0) = false := by
   rw [beq_eq_false_iff_ne]
   intro e
   have := Int.sign_eq_zero_iff_zero.1 e
   omega
  rw [this]
theorem q04Right_any (s t : Bool) (xs ys : List Nat) (v : Value) (w : World) (h : RatRaw w v s xs t ys) (hx : xs.length ≤ 134217728) (hy : ys.length ≤ 134217728) :
  Calls Tryz.prog 52 #[v] w fun e w' => e = .returned (.bool (rtB s xs t ys)) ∧ Beh w w' := by
 obtain ⟨p, c, r, d, rfl, h1, h2⟩ := h
 refine calm_enter (C := cxOf Tryz.prog w _) (args := [_]) Tryz.func52 rfl Tryz.ntmps52 (Nat.le_of_ble_eq_true rfl) ?_
 (repeat first|refine wN ?_|refine wP rfl ?_|refine cx_r rfl ?_|refine cx_d rfl ?_|refine wO rfl rfl ?_)
 refine VO.call rfl rfl (fk Tryz.func90) (fun wa1 ka1 ba1 => (rright_any s xs _ wa1 (h1.beh ba1)).mono ?_)
 rintro e w1 ⟨rfl, hb1⟩
 cases q1 : nright s xs
 ·refine ⟨_, rfl, hb1, fun kb1 _ bb1 => wV rfl ?_⟩
  (repeat first|refine wN ?_|refine wP rfl ?_|refine cx_r rfl ?_|refine cx_d rfl ?_|refine wO rfl rfl ?_)
  refine VS.ret (cx_ok _ _) rfl rfl (fun wz kz bz => ?_)
  exact ⟨by simp [rtB, q1, tup], bz⟩
 refine ⟨_, rfl, hb1, fun kb1 _ bb1 => wV rfl ?_⟩
 (repeat first|refine wN ?_|refine wP rfl ?_|refine cx_r rfl ?_|refine cx_d rfl ?_|refine wO rfl rfl ?_)
 refine VO.call rfl rfl (fk Tryz.func90) (fun wa2 ka2 ba2 => (rright_any t ys _ wa2 (h2.beh ba2)).mono ?_)
 rintro e w2 ⟨rfl, hb2⟩
 cases q2 : nright t ys
 ·refine ⟨_, rfl, hb2, fun kb2 _ bb2 => wV rfl ?_⟩
  (repeat first|refine wN ?_|refine wP rfl ?_|refine cx_r rfl ?_|refine cx_d rfl ?_|refine wO rfl rfl ?_)
  refine VS.ret (cx_ok _ _) rfl rfl (fun wz kz bz => ?_)
  exact ⟨by simp [rtB, q1, q2, tup], bz⟩
 refine ⟨_, rfl, hb2, fun kb2 _ bb2 => wV rfl ?_⟩
 (repeat first|refine wN ?_|refine wP rfl ?_|refine cx_r rfl ?_|refine cx_d rfl ?_|refine wO rfl rfl ?_)
 refine VO.call rfl rfl (fk Tryz.func91) (fun wa3 ka3 ba3 => (rsign_any _ (numOf t ys) _ wa3 ((h2.in (Nat.le_refl _)).beh ba3) (by omega)).mono ?_)
 rintro e w3 ⟨rfl, hb3⟩
 by_cases q3 : 0 < numOf t ys
 ·rw [sign_pos q3]
  refine ⟨_, rfl, hb3, fun kb3 _ bb3 => wV rfl ?_⟩
  (repeat first|refine wN ?_|refine wP rfl ?_|refine cx_r rfl ?_|refine cx_d rfl ?_|refine wO rfl rfl ?_)
  refine VO.call rfl rfl (fk Tryz.func93) (fun wa4 ka4 ba4 => (rgcd_any _ _ (numOf s xs) (numOf t ys) _ _ wa4 ((h1.in (Nat.le_refl _)).beh ba4) ((h2.in (Nat.le_refl _)).beh ba4) (by omega) (by omega)).mono ?_)
  rintro e w4 ⟨r4, rfl, h4, hb4⟩
  obtain ⟨s4, p4, n4, c4, rfl⟩ := h4.form
  refine ⟨_, rfl, hb4, fun kb4 _ bb4 => wV rfl ?_⟩
  (repeat first|refine wN ?_|refine wP rfl ?_|refine cx_r rfl ?_|refine cx_d rfl ?_|refine wO rfl rfl ?_)
  refine VO.call rfl rfl (fk Tryz.func79) (fun wa5 ka5 ba5 => (rOf_any 1 wa5 (by omega) (by omega)).mono ?_)
  rintro e w5 ⟨r5, rfl, h5, hb5⟩
  obtain ⟨s5, p5, n5, c5, rfl⟩ := h5.form
  refine ⟨_, rfl, hb5, fun kb5 _ bb5 => wV rfl ?_⟩
  (repeat first|refine wN ?_|refine wP rfl ?_|refine cx_r rfl ?_|refine cx_d rfl ?_|refine wO rfl rfl ?_)
  have hg : Sz (Int.gcd (numOf s xs) (numOf t ys) : Int) ys.length := gcd_sz (numOf_sz h2.lim (Nat.le_refl _)) (by omega)
  refine VO.call rfl rfl (fk Tryz.func92) (fun wa6 ka6 ba6 => (q04same_any _ _ (Int.gcd (numOf s xs) (numOf t ys) : Int) 1 _ 1 wa6 ((h4.kp (kb5.thn ka6)).in hg) ((h5.kp ka6).in (Sz.small (by decide))) (by omega) (by omega)).mono ?_)
  rintro e w6 ⟨rfl, hb6⟩
  by_cases q4 : Int.gcd (numOf s xs) (numOf t ys) = 1
  ·rw [show decide ((Int.gcd (numOf s xs) (numOf t ys) : Int) = 1) = true from decide_eq_true (by omega)]
   refine ⟨_, rfl, hb6, fun kb6 _ bb6 => wV rfl ?_⟩
   (repeat first|refine wN ?_|refine wP rfl ?_|refine cx_r rfl ?_|refine cx_d rfl ?_|refine wO rfl rfl ?_)
   refine VS.ret (cx_ok _ _) rfl rfl (fun wz kz bz => ?_)
   exact ⟨by simp [rtB, q1, q2, q3, q4, tup], bz⟩
  ·rw [show decide ((Int.gcd (numOf s xs) (numOf t ys) : Int) = 1) = false from decide_eq_false (by omega)]
   refine ⟨_, rfl, hb6, fun kb6 _ bb6 => wV rfl ?_⟩
   (repeat first|refine wN ?_|refine wP rfl ?_|refine cx_r rfl ?_|refine cx_d rfl ?_|refine wO rfl rfl ?_)
   refine VS.ret (cx_ok _ _) rfl rfl (fun wz kz bz => ?_)
   exact ⟨by simp [rtB, q1, q2, q3, q4, tup], bz⟩
 ·have q4 : (numOf t ys).sign = 0 ∨ (numOf t ys).sign = -1 := by
   rcases Int.lt_trichotomy (numOf t ys) 0 with e | e | e
   ·exact .inr (sign_neg e)
   ·rw [e]; exact .inl rfl
   ·exact absurd e q3
  rcases q4 with q4 | q4
  all_goals
   rw [q4]
   refine ⟨_, rfl, hb3, fun kb3 _ bb3 => wV rfl ?_⟩
   (repeat first|refine wN ?_|refine wP rfl ?_|refine cx_r rfl ?_|refine cx_d rfl ?_|refine wO rfl rfl ?_)
   refine VS.ret (cx_ok _ _) rfl rfl (fun wz kz bz => ?_)
   exact ⟨by simp [rtB, q1, q2, q3, tup], bz⟩
theorem q04Whole_any (n : Int) (w : World) (h0 : -9223372036854775808 ≤ n) (h1 : n ≤ 9223372036854775807) :
  Calls Tryz.prog 54 #[.int .i64 n] w fun e w' => ∃ r, e = .returned r ∧ RatOwn w' w.heap.size r (n : Rat) ∧ Beh w w' := by
 refine calm_enter (C := cxOf Tryz.prog w _) (args := [_]) Tryz.func54 rfl Tryz.ntmps54 (Nat.le_of_ble_eq_true rfl) ?_
 (repeat first|refine wN ?_|refine wP rfl ?_|refine cx_r rfl ?_|refine cx_d rfl ?_|refine wO rfl rfl ?_)
 refine VO.call rfl rfl (fk Tryz.func79) (fun wa1 ka1 ba1 => (rOf_any n wa1 h0 h1).mono ?_)
 rintro e w1 ⟨r1, rfl, q1, hb1⟩
 obtain ⟨s1, p1, n1, c1, rfl⟩ := q1.form
 refine ⟨_, rfl, hb1, fun kb1 _ bb1 => wV rfl ?_⟩
 (repeat first|refine wN ?_|refine wP rfl ?_|refine cx_r rfl ?_|refine cx_d rfl ?_|refine wO rfl rfl ?_)
 refine VO.call rfl rfl (fk Tryz.func79) (fun wa2 ka2 ba2 => (rOf_any 1 wa2 (by omega) (by omega)).mono ?_)
 rintro e w2 ⟨r2, rfl, q2, hb2⟩
 obtain ⟨s2, p2, n2, c2, rfl⟩ := q2.form
 refine ⟨_, rfl, hb2, fun kb2 _ bb2 => wV rfl ?_⟩
 (repeat first|refine wN ?_|refine wP rfl ?_|refine cx_r rfl ?_|refine cx_d rfl ?_|refine wO rfl rfl ?_)
 refine VS.ret (cx_ok _ _) rfl rfl (fun wz kz bz => ?_)
 exact ⟨_, rfl, ⟨_, _, _, _, _, _, _, _, rfl, (q1.kp (kb2.thn kz)).mono ba1.size, (q2.kp kz).mono ba2.size⟩, bz⟩
theorem q04Zero_any (w : World) : Calls Tryz.prog 45 #[] w fun e w' => ∃ r, e = .returned r ∧ RatOwn w' w.heap.size r 0 ∧ Beh w w' := by
 refine calm_enter (C := cxOf Tryz.prog w _) (args := []) Tryz.func45 rfl Tryz.ntmps45 (Nat.le_of_ble_eq_true rfl) ?_
 (repeat first|refine wN ?_|refine wP rfl ?_|refine cx_r rfl ?_|refine cx_d rfl ?_|refine wO rfl rfl ?_)
 refine VO.call rfl rfl (fk Tryz.func79) (fun wa1 ka1 ba1 => (rOf_any 0 wa1 (by omega) (by omega)).mono ?_)
 rintro e w1 ⟨r1, rfl, q1, hb1⟩
 obtain ⟨s1, p1, n1, c1, rfl⟩ := q1.form
 refine ⟨_, rfl, hb1, fun kb1 _ bb1 => wV rfl ?_⟩
 (repeat first|refine wN ?_|refine wP rfl ?_|refine cx_r rfl ?_|refine cx_d rfl ?_|refine wO rfl rfl ?_)
 refine VO.call rfl rfl (fk Tryz.func79) (fun wa2 ka2 ba2 => (rOf_any 1 wa2 (by omega) (by omega)).mono ?_)
 rintro e w2 ⟨r2, rfl, q2, hb2⟩
 obtain ⟨s2, p2, n2, c2, rfl⟩ := q2.form
 refine ⟨_, rfl, hb2, fun kb2 _ bb2 => wV rfl ?_⟩
 (repeat first|refine wN ?_|refine wP rfl ?_|refine cx_r rfl ?_|refine cx_d rfl ?_|refine wO rfl rfl ?_)
 refine VS.ret (cx_ok _ _) rfl rfl (fun wz kz bz => ?_)
 exact ⟨_, rfl, ⟨_, _, _, _, _, _, _, _, rfl, (q1.kp (kb2.thn kz)).mono ba1.size, (q2.kp kz).mono ba2.size⟩, bz⟩
theorem q04Plain_any (v : Value) (q : Rat) (k : Nat) (w : World) (h : RatIn w v q k) (hk : k ≤ 134217728) :
  Calls Tryz.prog 80 #[v] w fun e w' => ∃ r, e = .returned r ∧ RatRd w' r q ∧ Beh w w' := by
 obtain ⟨s, xs, t, ys, hraw, rfl, hx, hy⟩ := h
 have hraw' := hraw
 obtain ⟨p, c, r, d, rfl, _, _⟩ := hraw
 refine calm_enter (C := cxOf Tryz.prog w _) (args := [_]) Tryz.func80 rfl Tryz.ntmps80 (Nat.le_of_ble_eq_true rfl) ?_
 (repeat first|refine wN ?_|refine wP rfl ?_|refine cx_r rfl ?_|refine cx_d rfl ?_|refine wO rfl rfl ?_)
 refine VO.call rfl rfl (fk Tryz.func52) (fun wa1 ka1 ba1 => (q04Right_any s t xs ys _ wa1 (hraw'.kp ka1) (by omega) (by omega)).mono ?_)
 rintro e w1 ⟨rfl, hb1⟩
 cases hq : rtB s xs t ys
 ·refine ⟨_, rfl, hb1, fun kb1 _ bb1 => wV rfl ?_⟩
  (repeat first|refine wN ?_|refine wP rfl ?_|refine cx_r rfl ?_|refine cx_d rfl ?_|refine wO rfl rfl ?_)
  refine VO.call rfl rfl (fk Tryz.func45) (fun wa2 ka2 ba2 => (q04Zero_any wa2).mono ?_)
  rintro e w2 ⟨r2, rfl, h2, hb2⟩
  obtain ⟨s2, p2, n2, c2, t2, y2, m2, d2, rfl⟩ := h2.form
  refine ⟨_, rfl, hb2, fun kb2 _ bb2 => wV rfl ?_⟩
  (repeat first|refine wN ?_|refine wP rfl ?_|refine cx_r rfl ?_|refine cx_d rfl ?_|refine wO rfl rfl ?_)
  refine VS.ret (cx_ok _ _) rfl rfl (fun wz kz bz => ?_)
  exact ⟨_, rfl, by rw [rq_wrong hq]; exact (h2.kp kz).rd, bz⟩
 ·refine ⟨_, rfl, hb1, fun kb1 _ bb1 => wV rfl ?_⟩
  (repeat first|refine wN ?_|refine wP rfl ?_|refine cx_r rfl ?_|refine cx_d rfl ?_|refine wO rfl rfl ?_)
  refine VS.ret (cx_ok _ _) rfl rfl (fun wz kz bz => ?_)
  exact ⟨_, rfl, (rq_right hraw' hq).kp (kb1.thn kz), bz⟩
theorem low_same {X Y : Int} : Rat.divInt X Y = Rat.divInt (-X) (-Y) := (Rat.neg_divInt_neg X Y).symm
set_option maxHeartbeats 1000000 in
theorem q04New_any (v u : Value) (X Y : Int) (j k : Nat) (w : World) (hv : IntIn w v X j) (hu : IntIn w u Y k) (hj : j ≤ 134217728) (hk : k ≤ 134217728) :
  Calls Tryz.prog 81 #[v, u] w fun e w' => ∃ r, e = .returned (.tuple #[r, .int .i64 (dcode Y)]) ∧ RatOwn w' w.heap.size r (Rat.divInt X Y) ∧ Beh w w' := by
 obtain ⟨s, p, n, c, rfl⟩ := hv.form
 obtain ⟨t, r, m, d, rfl⟩ := hu.form
 refine calm_enter (C := cxOf Tryz.prog w _) (args := [_, _]) Tryz.func81 rfl Tryz.ntmps81 (Nat.le_of_ble_eq_true rfl) ?_
 (repeat first|refine wN ?_|refine wP rfl ?_|refine cx_r rfl ?_|refine cx_d rfl ?_|refine wO rfl rfl ?_)
 refine VO.call rfl rfl (fk Tryz.func91) (fun wa1 ka1 ba1 => (rsign_any _ Y k wa1 (hu.beh ba1) (by omega)).mono ?_)
 rintro e w1 ⟨rfl, hb1⟩
 by_cases hY : Y = 0
 ·rw [show Y.sign = 0 by rw [hY]; rfl]
  refine ⟨_, rfl, hb1, fun kb1 _ bb1 => wV rfl ?_⟩
  (repeat first|refine wN ?_|refine wP rfl ?_|refine cx_r rfl ?_|refine cx_d rfl ?_|refine wO rfl rfl ?_)
  refine VO.call rfl rfl (fk Tryz.func45) (fun wa2 ka2 ba2 => (q04Zero_any wa2).mono ?_)
  rintro e w2 ⟨r2, rfl, h2, hb2⟩
  obtain ⟨s2, p2, n2, c2, t2, y2, m2, d2, rfl⟩ := h2.form
  refine ⟨_, rfl, hb2, fun kb2 _ bb2 => wV rfl ?_⟩
  (repeat first|refine wN ?_|refine wP rfl ?_|refine cx_r rfl ?_|refine cx_d rfl ?_|refine wO rfl rfl ?_)
  refine VS.ret (cx_ok _ _) rfl rfl (fun wz kz bz => ?_)
  refine ⟨_, by rw [dcode, if_pos hY]; rfl, ?_, bz⟩
  rw [hY, Rat.divInt_zero]
  exact (h2.kp kz).mono ba2.size
 ·rcases Int.lt_or_lt_of_ne hY with q | q
  ·rw [sign_neg q]
   refine ⟨_, rfl, hb1, fun kb1 _ bb1 => wV rfl ?_⟩
   (repeat first|refine wN ?_|refine wP rfl ?_|refine cx_r rfl ?_|refine cx_d rfl ?_|refine wO rfl rfl ?_)
   refine VO.call rfl rfl (fk Tryz.func91) (fun wa2 ka2 ba2 => (rsign_any _ Y k wa2 (hu.beh ba2) (by omega)).mono ?_)
   rintro e w2 ⟨rfl, hb2⟩
   rw [sign_neg q]
   refine ⟨_, rfl, hb2, fun kb2 _ bb2 => wV rfl ?_⟩
   (repeat first|refine wN ?_|refine wP rfl ?_|refine cx_r rfl ?_|refine cx_d rfl ?_|refine wO rfl rfl ?_)
   refine VO.call rfl rfl (fk Tryz.func89) (fun wa3 ka3 ba3 => (rneg_any _ X j wa3 (hv.beh ba3) (by omega)).mono ?_)
   rintro e w3 ⟨r3, rfl, h3, hb3⟩
   obtain ⟨s3, p3, n3, c3, rfl⟩ := h3.form
   refine ⟨_, rfl, hb3, fun kb3 _ bb3 => wV rfl ?_⟩
   (repeat first|refine wN ?_|refine wP rfl ?_|refine cx_r rfl ?_|refine cx_d rfl ?_|refine wO rfl rfl ?_)
   refine VO.call rfl rfl (fk Tryz.func89) (fun wa4 ka4 ba4 => (rneg_any _ Y k wa4 (hu.beh ba4) (by omega)).mono ?_)
   rintro e w4 ⟨r4, rfl, h4, hb4⟩
   obtain ⟨s4, p4, n4, c4, rfl⟩ := h4.form
   refine ⟨_, rfl, hb4, fun kb4 _ bb4 => wV rfl ?_⟩
   (repeat first|refine wN ?_|refine wP rfl ?_|refine cx_r rfl ?_|refine cx_d rfl ?_|refine wO rfl rfl ?_)
   have z3 : Sz (-X) j := Sz.neg hv.len
   have z4 : Sz (-Y) k := Sz.neg hu.len
   obtain ⟨l1, l2⟩ := low_pos (X := -X) (Y := -Y) (by omega)
   have hgs : Sz (Int.gcd (-X) (-Y) : Int) k := gcd_sz z4 (by omega)
   have hg0 : (Int.gcd (-X) (-Y) : Int) ≠ 0 := by
    intro e
    have := (Int.gcd_eq_zero_iff.1 (show Int.gcd (-X) (-Y) = 0 by omega)).2
    omega
   refine VO.call rfl rfl (fk Tryz.func93) (fun wa5 ka5 ba5 => (rgcd_any _ _ (-X) (-Y) j k wa5 ((h3.kp (kb4.thn ka5)).in z3) ((h4.kp ka5).in z4) (by omega) (by omega)).mono ?_)
   rintro e w5 ⟨r5, rfl, h5, hb5⟩
   obtain ⟨s5, p5, n5, c5, rfl⟩ := h5.form
   refine ⟨_, rfl, hb5, fun kb5 _ bb5 => wV rfl ?_⟩
   (repeat first|refine wN ?_|refine wP rfl ?_|refine cx_r rfl ?_|refine cx_d rfl ?_|refine wO rfl rfl ?_)
   refine VO.call rfl rfl (fk Tryz.func108) (fun wa6 ka6 ba6 => (rdivmod_any _ _ (-X) (Int.gcd (-X) (-Y) : Int) j k wa6 ((h3.kp (kb4.thn (kb5.thn ka6))).in z3) ((h5.kp ka6).in hgs) (by omega) (by omega)).mono ?_)
   rintro e w6 ⟨hd6, hb6⟩
   obtain ⟨v6, u6, rfl, h6, h6'⟩ := floordiv_ok hd6 hg0
   obtain ⟨s6, p6, n6, c6, rfl⟩ := h6.form
   obtain ⟨t6, r6, m6, d6, rfl⟩ := h6'.form
   refine ⟨_, rfl, hb6, fun kb6 _ bb6 => wV rfl ?_⟩
   (repeat first|refine wN ?_|refine wP rfl ?_|refine cx_r rfl ?_|refine cx_d rfl ?_|refine wO rfl rfl ?_)
   refine VO.call rfl rfl (fk Tryz.func108) (fun wa7 ka7 ba7 => (rdivmod_any _ _ (-Y) (Int.gcd (-X) (-Y) : Int) k k wa7 ((h4.kp (kb5.thn (kb6.thn ka7))).in z4) ((h5.kp (kb6.thn ka7)).in hgs) (by omega) (by omega)).mono ?_)
   rintro e w7 ⟨hd7, hb7⟩
   obtain ⟨v7, u7, rfl, h7, h7'⟩ := floordiv_ok hd7 hg0
   obtain ⟨s7, p7, n7, c7, rfl⟩ := h7.form
   obtain ⟨t7, r7, m7, d7, rfl⟩ := h7'.form
   refine ⟨_, rfl, hb7, fun kb7 _ bb7 => wV rfl ?_⟩
   (repeat first|refine wN ?_|refine wP rfl ?_|refine cx_r rfl ?_|refine cx_d rfl ?_|refine wO rfl rfl ?_)
   refine VS.ret (cx_ok _ _) rfl rfl (fun wz kz bz => ?_)
   rw [low_same]
   exact ⟨_, by rw [dcode, if_neg hY]; rfl, ⟨_, _, _, _, _, _, _, _, rfl, IntOwn.cast ((h6.kp (kb7.thn kz)).mono ba6.size) l1, IntOwn.cast ((h7.kp kz).mono ba7.size) l2⟩, bz⟩
  ·rw [sign_pos q]
   refine ⟨_, rfl, hb1, fun kb1 _ bb1 => wV rfl ?_⟩
   (repeat first|refine wN ?_|refine wP rfl ?_|refine cx_r rfl ?_|refine cx_d rfl ?_|refine wO rfl rfl ?_)
   refine VO.call rfl rfl (fk Tryz.func91) (fun wa2 ka2 ba2 => (rsign_any _ Y k wa2 (hu.beh ba2) (by omega)).mono ?_)
   rintro e w2 ⟨rfl, hb2⟩
   rw [sign_pos q]
   refine ⟨_, rfl, hb2, fun kb2 _ bb2 => wV rfl ?_⟩
   (repeat first|refine wN ?_|refine wP rfl ?_|refine cx_r rfl ?_|refine cx_d rfl ?_|refine wO rfl rfl ?_)
   obtain ⟨l1, l2⟩ := low_pos (X := X) (Y := Y) q
   have hgs : Sz (Int.gcd X Y : Int) k := gcd_sz hu.len hY
   have hg0 : (Int.gcd X Y : Int) ≠ 0 := by
    intro e
    have := (Int.gcd_eq_zero_iff.1 (show Int.gcd X Y = 0 by omega)).2
    omega
   refine VO.call rfl rfl (fk Tryz.func93) (fun wa5 ka5 ba5 => (rgcd_any _ _ X Y j k wa5 (hv.beh ba5) (hu.beh ba5) (by omega) (by omega)).mono ?_)
   rintro e w5 ⟨r5, rfl, h5, hb5⟩
   obtain ⟨s5, p5, n5, c5, rfl⟩ := h5.form
   refine ⟨_, rfl, hb5, fun kb5 _ bb5 => wV rfl ?_⟩
   (repeat first|refine wN ?_|refine wP rfl ?_|refine cx_r rfl ?_|refine cx_d rfl ?_|refine wO rfl rfl ?_)
   refine VO.call rfl rfl (fk Tryz.func108) (fun wa6 ka6 ba6 => (rdivmod_any _ _ X (Int.gcd X Y : Int) j k wa6 (hv.beh ba6) ((h5.kp ka6).in hgs) (by omega) (by omega)).mono ?_)
   rintro e w6 ⟨hd6, hb6⟩
   obtain ⟨v6, u6, rfl, h6, h6'⟩ := floordiv_ok hd6 hg0
   obtain ⟨s6, p6, n6, c6, rfl⟩ := h6.form
   obtain ⟨t6, r6, m6, d6, rfl⟩ := h6'.form
   refine ⟨_, rfl, hb6, fun kb6 _ bb6 => wV rfl ?_⟩
   (repeat first|refine wN ?_|refine wP rfl ?_|refine cx_r rfl ?_|refine cx_d rfl ?_|refine wO rfl rfl ?_)
   refine VO.call rfl rfl (fk Tryz.func108) (fun wa7 ka7 ba7 => (rdivmod_any _ _ Y (Int.gcd X Y : Int) k k wa7 (hu.beh ba7) ((h5.kp (kb6.thn ka7)).in hgs) (by omega) (by omega)).mono ?_)
   rintro e w7 ⟨hd7, hb7⟩
   obtain ⟨v7, u7, rfl, h7, h7'⟩ := floordiv_ok hd7 hg0
   obtain ⟨s7, p7, n7, c7, rfl⟩ := h7.form
   obtain ⟨t7, r7, m7, d7, rfl⟩ := h7'.form
   refine ⟨_, rfl, hb7, fun kb7 _ bb7 => wV rfl ?_⟩
   (repeat first|refine wN ?_|refine wP rfl ?_|refine cx_r rfl ?_|refine cx_d rfl ?_|refine wO rfl rfl ?_)
   refine VS.ret (cx_ok _ _) rfl rfl (fun wz kz bz => ?_)
   exact ⟨_, by rw [dcode, if_neg hY]; rfl, ⟨_, _, _, _, _, _, _, _, rfl, IntOwn.cast ((h6.kp (kb7.thn kz)).mono ba6.size) l1, IntOwn.cast ((h7.kp kz).mono ba7.size) l2⟩, bz⟩
theorem q04Of_any (n d : Int) (w : World) (h0 : -9223372036854775808 ≤ n) (h1 : n ≤ 9223372036854775807) (g0 : -9223372036854775808 ≤ d) (g1 : d ≤ 9223372036854775807) :
  Calls Tryz.prog 72 #[.int .i64 n, .int .i64 d] w fun e w' => ∃ r, e = .returned (.tuple #[r, .int .i64 (dcode d)]) ∧ RatOwn w' w.heap.size r (Rat.divInt n d) ∧ Beh w w' := by
 refine calm_enter (C := cxOf Tryz.prog w _) (args := [_, _]) Tryz.func72 rfl Tryz.ntmps72 (Nat.le_of_ble_eq_true rfl) ?_
 (repeat first|refine wN ?_|refine wP rfl ?_|refine cx_r rfl ?_|refine cx_d rfl ?_|refine wO rfl rfl ?_)
 refine VO.call rfl rfl (fk Tryz.func79) (fun wa1 ka1 ba1 => (rOf_any n wa1 h0 h1).mono ?_)
 rintro e w1 ⟨r1, rfl, q1, hb1⟩
 obtain ⟨s1, p1, n1, c1, rfl⟩ := q1.form
 refine ⟨_, rfl, hb1, fun kb1 _ bb1 => wV rfl ?_⟩
 (repeat first|refine wN ?_|refine wP rfl ?_|refine cx_r rfl ?_|refine cx_d rfl ?_|refine wO rfl rfl ?_)
 refine VO.call rfl rfl (fk Tryz.func79) (fun wa2 ka2 ba2 => (rOf_any d wa2 g0 g1).mono ?_)
 rintro e w2 ⟨r2, rfl, q2, hb2⟩
 obtain ⟨s2, p2, n2, c2, rfl⟩ := q2.form
 refine ⟨_, rfl, hb2, fun kb2 _ bb2 => wV rfl ?_⟩
 (repeat first|refine wN ?_|refine wP rfl ?_|refine cx_r rfl ?_|refine cx_d rfl ?_|refine wO rfl rfl ?_)
 refine VO.call rfl rfl (fk Tryz.func81) (fun wa3 ka3 ba3 => (q04New_any _ _ n d 2 2 wa3 ((q1.kp (kb2.thn ka3)).in (Sz.of_lt (by omega))) ((q2.kp ka3).in (Sz.of_lt (by omega))) (by omega) (by omega)).mono ?_)
 rintro e w3 ⟨r3, rfl, q3, hb3⟩
 obtain ⟨s3, p3, n3, c3, t3, x3, m3, d3, rfl⟩ := q3.form
 refine ⟨_, rfl, hb3, fun kb3 _ bb3 => wV rfl ?_⟩
 (repeat first|refine wN ?_|refine wP rfl ?_|refine cx_r rfl ?_|refine cx_d rfl ?_|refine wO rfl rfl ?_)
 refine VS.ret (cx_ok _ _) rfl rfl (fun wz kz bz => ?_)
 exact ⟨_, rfl, (q3.kp kz).mono ba3.size, bz⟩
set_option maxHeartbeats 1000000 in
theorem q04Add_any (v u : Value) (q r : Rat) (k l : Nat) (w : World) (hv : RatIn w v q k) (hu : RatIn w u r l) (hk : k ≤ 33554432) (hl : l ≤ 33554432) :
  Calls Tryz.prog 46 #[v, u] w fun e w' => ∃ x, e = .returned x ∧ RatOwn w' w.heap.size x (q + r) ∧ Beh w w' := by
 obtain ⟨s, p, n, c, t, y, m, d, rfl⟩ := hv.form
 obtain ⟨s', p', n', c', t', y', m', d', rfl⟩ := hu.form
 have zq := hv.sz1
 have zr := hu.sz1
 have uk : up1 k ≤ 33554432 := by unfold up1; omega
 have ul : up1 l ≤ 33554432 := by unfold up1; omega
 refine calm_enter (C := cxOf Tryz.prog w _) (args := [_, _]) Tryz.func46 rfl Tryz.ntmps46 (Nat.le_of_ble_eq_true rfl) ?_
 (repeat first|refine wN ?_|refine wP rfl ?_|refine cx_r rfl ?_|refine cx_d rfl ?_|refine wO rfl rfl ?_)
 refine VO.call rfl rfl (fk Tryz.func80) (fun wa1 ka1 ba1 => (q04Plain_any _ q k wa1 (hv.kp ka1) (by omega)).mono ?_)
 rintro e w1 ⟨r1, rfl, q1, hb1⟩
 obtain ⟨s1, p1, n1, c1, t1, y1, m1, d1, rfl⟩ := q1.form
 refine ⟨_, rfl, hb1, fun kb1 _ bb1 => wV rfl ?_⟩
 (repeat first|refine wN ?_|refine wP rfl ?_|refine cx_r rfl ?_|refine cx_d rfl ?_|refine wO rfl rfl ?_)
 refine VO.call rfl rfl (fk Tryz.func80) (fun wa2 ka2 ba2 => (q04Plain_any _ r l wa2 (hu.kp (kb1.thn ka2)) (by omega)).mono ?_)
 rintro e w2 ⟨r2, rfl, q2, hb2⟩
 obtain ⟨s2, p2, n2, c2, t2, y2, m2, d2, rfl⟩ := q2.form
 refine ⟨_, rfl, hb2, fun kb2 _ bb2 => wV rfl ?_⟩
 (repeat first|refine wN ?_|refine wP rfl ?_|refine cx_r rfl ?_|refine cx_d rfl ?_|refine wO rfl rfl ?_)
 obtain ⟨a1, a2⟩ := q1.parts
 obtain ⟨b1, b2⟩ := q2.parts
 refine VO.call rfl rfl (fk Tryz.func83) (fun wa3 ka3 ba3 => (rmul_any _ _ q.num r.den _ _ wa3 ((a1.kp (kb2.thn ka3)).to zq.1) ((b2.kp ka3).to zr.2) (by omega) (by omega)).mono ?_)
 rintro e w3 ⟨r3, rfl, q3, hb3⟩
 obtain ⟨s3, p3, n3, c3, rfl⟩ := q3.form
 refine ⟨_, rfl, hb3, fun kb3 _ bb3 => wV rfl ?_⟩
 (repeat first|refine wN ?_|refine wP rfl ?_|refine cx_r rfl ?_|refine cx_d rfl ?_|refine wO rfl rfl ?_)
 refine VO.call rfl rfl (fk Tryz.func83) (fun wa4 ka4 ba4 => (rmul_any _ _ r.num q.den _ _ wa4 ((b1.kp (kb3.thn ka4)).to zr.1) ((a2.kp (kb2.thn (kb3.thn ka4))).to zq.2) (by omega) (by omega)).mono ?_)
 rintro e w4 ⟨r4, rfl, q4, hb4⟩
 obtain ⟨s4, p4, n4, c4, rfl⟩ := q4.form
 refine ⟨_, rfl, hb4, fun kb4 _ bb4 => wV rfl ?_⟩
 (repeat first|refine wN ?_|refine wP rfl ?_|refine cx_r rfl ?_|refine cx_d rfl ?_|refine wO rfl rfl ?_)
 refine VO.call rfl rfl (fk Tryz.func82) (fun wa5 ka5 ba5 => (radd_any _ _ (q.num * r.den) (r.num * q.den) (up1 k + up1 l) (up1 l + up1 k) wa5 ((q3.kp (kb4.thn ka5)).in (zq.1.mul zr.2)) ((q4.kp ka5).in (zr.1.mul zq.2)) (by omega) (by omega)).mono ?_)
 rintro e w5 ⟨r5, rfl, q5, hb5⟩
 obtain ⟨s5, p5, n5, c5, rfl⟩ := q5.form
 refine ⟨_, rfl, hb5, fun kb5 _ bb5 => wV rfl ?_⟩
 (repeat first|refine wN ?_|refine wP rfl ?_|refine cx_r rfl ?_|refine cx_d rfl ?_|refine wO rfl rfl ?_)
 refine VO.call rfl rfl (fk Tryz.func83) (fun wa6 ka6 ba6 => (rmul_any _ _ q.den r.den _ _ wa6 ((a2.kp (kb2.thn (kb3.thn (kb4.thn (kb5.thn ka6))))).to zq.2) ((b2.kp (kb3.thn (kb4.thn (kb5.thn ka6)))).to zr.2) (by omega) (by omega)).mono ?_)
 rintro e w6 ⟨r6, rfl, q6, hb6⟩
 obtain ⟨s6, p6, n6, c6, rfl⟩ := q6.form
 refine ⟨_, rfl, hb6, fun kb6 _ bb6 => wV rfl ?_⟩
 (repeat first|refine wN ?_|refine wP rfl ?_|refine cx_r rfl ?_|refine cx_d rfl ?_|refine wO rfl rfl ?_)
 refine VO.call rfl rfl (fk Tryz.func81) (fun wa7 ka7 ba7 => (q04New_any _ _ (q.num * r.den + r.num * q.den) ((q.den : Int) * r.den) (up1 k + up1 l + 1) (up1 k + up1 l) wa7 ((q5.kp (kb6.thn ka7)).in (Sz.add (zq.1.mul zr.2) (zr.1.mul zq.2) (m := up1 k + up1 l) (by omega) (by omega))) ((q6.kp ka7).in (zq.2.mul zr.2)) (by omega) (by omega)).mono ?_)
 rintro e w7 ⟨r7, rfl, q7, hb7⟩
 obtain ⟨s7, p7, n7, c7, t7, y7, m7, d7, rfl⟩ := q7.form
 refine ⟨_, rfl, hb7, fun kb7 _ bb7 => wV rfl ?_⟩
 (repeat first|refine wN ?_|refine wP rfl ?_|refine cx_r rfl ?_|refine cx_d rfl ?_|refine wO rfl rfl ?_)
 refine VS.ret (cx_ok _ _) rfl rfl (fun wz kz bz => ?_)
 exact ⟨_, rfl, RatOwn.cast ((q7.kp kz).mono ba7.size) (add_raw q r).symm, bz⟩
theorem q04Neg_any (v : Value) (q : Rat) (k : Nat) (w : World) (hv : RatIn w v q k) (hk : k ≤ 134217728) :
  Calls Tryz.prog 115 #[v] w fun e w' => ∃ x, e = .returned x ∧ RatRd w' x (-q) ∧ Beh w w' := by
 obtain ⟨s, p, n, c, t, y, m, d, rfl⟩ := hv.form
 refine calm_enter (C := cxOf Tryz.prog w _) (args := [_]) Tryz.func115 rfl Tryz.ntmps115 (Nat.le_of_ble_eq_true rfl) ?_
 (repeat first|refine wN ?_|refine wP rfl ?_|refine cx_r rfl ?_|refine cx_d rfl ?_|refine wO rfl rfl ?_)
 refine VO.call rfl rfl (fk Tryz.func80) (fun wa1 ka1 ba1 => (q04Plain_any _ q k wa1 (hv.kp ka1) hk).mono ?_)
 rintro e w1 ⟨r1, rfl, q1, hb1⟩
 obtain ⟨s1, p1, n1, c1, t1, y1, m1, d1, rfl⟩ := q1.form
 refine ⟨_, rfl, hb1, fun kb1 _ bb1 => wV rfl ?_⟩
 (repeat first|refine wN ?_|refine wP rfl ?_|refine cx_r rfl ?_|refine cx_d rfl ?_|refine wO rfl rfl ?_)
 obtain ⟨a1, a2⟩ := q1.parts
 refine VO.call rfl rfl (fk Tryz.func89) (fun wa2 ka2 ba2 => (rneg_any _ q.num _ wa2 ((a1.kp ka2).to hv.sz1.1) (by unfold up1; omega)).mono ?_)
 rintro e w2 ⟨r2, rfl, q2, hb2⟩
 obtain ⟨s2, p2, n2, c2, rfl⟩ := q2.form
 refine ⟨_, rfl, hb2, fun kb2 _ bb2 => wV rfl ?_⟩
 (repeat first|refine wN ?_|refine wP rfl ?_|refine cx_r rfl ?_|refine cx_d rfl ?_|refine wO rfl rfl ?_)
 refine VS.ret (cx_ok _ _) rfl rfl (fun wz kz bz => ?_)
 refine ⟨_, rfl, ⟨_, _, _, _, _, _, _, _, rfl, ?_, ?_⟩, bz⟩
 ·rw [Rat.neg_num]; exact (q2.kp kz).rd
 ·rw [Rat.neg_den]; exact a2.kp (kb2.thn kz)
theorem q04Sub_any (v u : Value) (q r : Rat) (k l : Nat) (w : World) (hv : RatIn w v q k) (hu : RatIn w u r l) (hk : k ≤ 33554432) (hl : l ≤ 33554431) :
  Calls Tryz.prog 86 #[v, u] w fun e w' => ∃ x, e = .returned x ∧ RatOwn w' w.heap.size x (q - r) ∧ Beh w w' := by
 obtain ⟨s, p, n, c, t, y, m, d, rfl⟩ := hv.form
 obtain ⟨s', p', n', c', t', y', m', d', rfl⟩ := hu.form
 refine calm_enter (C := cxOf Tryz.prog w _) (args := [_, _]) Tryz.func86 rfl Tryz.ntmps86 (Nat.le_of_ble_eq_true rfl) ?_
 (repeat first|refine wN ?_|refine wP rfl ?_|refine cx_r rfl ?_|refine cx_d rfl ?_|refine wO rfl rfl ?_)
 refine VO.call rfl rfl (fk Tryz.func115) (fun wa1 ka1 ba1 => (q04Neg_any _ r l wa1 (hu.kp ka1) (by omega)).mono ?_)
 rintro e w1 ⟨r1, rfl, q1, hb1⟩
 obtain ⟨s1, p1, n1, c1, t1, y1, m1, d1, rfl⟩ := q1.form
 refine ⟨_, rfl, hb1, fun kb1 _ bb1 => wV rfl ?_⟩
 (repeat first|refine wN ?_|refine wP rfl ?_|refine cx_r rfl ?_|refine cx_d rfl ?_|refine wO rfl rfl ?_)
 refine VO.call rfl rfl (fk Tryz.func46) (fun wa2 ka2 ba2 => (q04Add_any _ _ q (-r) k (up1 l) wa2 (hv.kp (kb1.thn ka2)) ((q1.kp ka2).to hu.sz1.neg) hk (by unfold up1; omega)).mono ?_)
 rintro e w2 ⟨r2, rfl, q2, hb2⟩
 obtain ⟨s2, p2, n2, c2, t2, y2, m2, d2, rfl⟩ := q2.form
 refine ⟨_, rfl, hb2, fun kb2 _ bb2 => wV rfl ?_⟩
 (repeat first|refine wN ?_|refine wP rfl ?_|refine cx_r rfl ?_|refine cx_d rfl ?_|refine wO rfl rfl ?_)
 refine VS.ret (cx_ok _ _) rfl rfl (fun wz kz bz => ?_)
 exact ⟨_, rfl, RatOwn.cast ((q2.kp kz).mono ba2.size) (Rat.sub_eq_add_neg q r).symm, bz⟩
theorem q04Mul_any (v u : Value) (q r : Rat) (k l : Nat) (w : World) (hv : RatIn w v q k) (hu : RatIn w u r l) (hk : k ≤ 33554432) (hl : l ≤ 33554432) :
  Calls Tryz.prog 47 #[v, u] w fun e w' => ∃ x, e = .returned x ∧ RatOwn w' w.heap.size x (q * r) ∧ Beh w w' := by
 obtain ⟨s, p, n, c, t, y, m, d, rfl⟩ := hv.form
 obtain ⟨s', p', n', c', t', y', m', d', rfl⟩ := hu.form
 have zq := hv.sz1
 have zr := hu.sz1
 have uk : up1 k ≤ 33554432 := by unfold up1; omega
 have ul : up1 l ≤ 33554432 := by unfold up1; omega
 refine calm_enter (C := cxOf Tryz.prog w _) (args := [_, _]) Tryz.func47 rfl Tryz.ntmps47 (Nat.le_of_ble_eq_true rfl) ?_
 (repeat first|refine wN ?_|refine wP rfl ?_|refine cx_r rfl ?_|refine cx_d rfl ?_|refine wO rfl rfl ?_)
 refine VO.call rfl rfl (fk Tryz.func80) (fun wa1 ka1 ba1 => (q04Plain_any _ q k wa1 (hv.kp ka1) (by omega)).mono ?_)
 rintro e w1 ⟨r1, rfl, q1, hb1⟩
 obtain ⟨s1, p1, n1, c1, t1, y1, m1, d1, rfl⟩ := q1.form
 refine ⟨_, rfl, hb1, fun kb1 _ bb1 => wV rfl ?_⟩
 (repeat first|refine wN ?_|refine wP rfl ?_|refine cx_r rfl ?_|refine cx_d rfl ?_|refine wO rfl rfl ?_)
 refine VO.call rfl rfl (fk Tryz.func80) (fun wa2 ka2 ba2 => (q04Plain_any _ r l wa2 (hu.kp (kb1.thn ka2)) (by omega)).mono ?_)
 rintro e w2 ⟨r2, rfl, q2, hb2⟩
 obtain ⟨s2, p2, n2, c2, t2, y2, m2, d2, rfl⟩ := q2.form
 refine ⟨_, rfl, hb2, fun kb2 _ bb2 => wV rfl ?_⟩
 (repeat first|refine wN ?_|refine wP rfl ?_|refine cx_r rfl ?_|refine cx_d rfl ?_|refine wO rfl rfl ?_)
 obtain ⟨a1, a2⟩ := q1.parts
 obtain ⟨b1, b2⟩ := q2.parts
 refine VO.call rfl rfl (fk Tryz.func83) (fun wa3 ka3 ba3 => (rmul_any _ _ q.num r.num _ _ wa3 ((a1.kp (kb2.thn ka3)).to zq.1) ((b1.kp ka3).to zr.1) (by omega) (by omega)).mono ?_)
 rintro e w3 ⟨r3, rfl, q3, hb3⟩
 obtain ⟨s3, p3, n3, c3, rfl⟩ := q3.form
 refine ⟨_, rfl, hb3, fun kb3 _ bb3 => wV rfl ?_⟩
 (repeat first|refine wN ?_|refine wP rfl ?_|refine cx_r rfl ?_|refine cx_d rfl ?_|refine wO rfl rfl ?_)
 refine VO.call rfl rfl (fk Tryz.func83) (fun wa4 ka4 ba4 => (rmul_any _ _ q.den r.den _ _ wa4 ((a2.kp (kb2.thn (kb3.thn ka4))).to zq.2) ((b2.kp (kb3.thn ka4)).to zr.2) (by omega) (by omega)).mono ?_)
 rintro e w4 ⟨r4, rfl, q4, hb4⟩
 obtain ⟨s4, p4, n4, c4, rfl⟩ := q4.form
 refine ⟨_, rfl, hb4, fun kb4 _ bb4 => wV rfl ?_⟩
 (repeat first|refine wN ?_|refine wP rfl ?_|refine cx_r rfl ?_|refine cx_d rfl ?_|refine wO rfl rfl ?_)
 refine VO.call rfl rfl (fk Tryz.func81) (fun wa5 ka5 ba5 => (q04New_any _ _ (q.num * r.num) ((q.den : Int) * r.den) (up1 k + up1 l) (up1 k + up1 l) wa5 ((q3.kp (kb4.thn ka5)).in (zq.1.mul zr.1)) ((q4.kp ka5).in (zq.2.mul zr.2)) (by omega) (by omega)).mono ?_)
 rintro e w5 ⟨r5, rfl, q5, hb5⟩
 obtain ⟨s5, p5, n5, c5, t5, y5, m5, d5, rfl⟩ := q5.form
 refine ⟨_, rfl, hb5, fun kb5 _ bb5 => wV rfl ?_⟩
 (repeat first|refine wN ?_|refine wP rfl ?_|refine cx_r rfl ?_|refine cx_d rfl ?_|refine wO rfl rfl ?_)
 refine VS.ret (cx_ok _ _) rfl rfl (fun wz kz bz => ?_)
 exact ⟨_, rfl, RatOwn.cast ((q5.kp kz).mono ba5.size) (mul_raw q r).symm, bz⟩
theorem q04Sign_any (v : Value) (q : Rat) (k : Nat) (w : World) (hv : RatIn w v q k) (hk : k ≤ 134217728) :
  Calls Tryz.prog 53 #[v] w fun e w' => e = .returned (.int .i64 (rcmp q 0)) ∧ Beh w w' := by
 obtain ⟨s, p, n, c, t, y, m, d, rfl⟩ := hv.form
 refine calm_enter (C := cxOf Tryz.prog w _) (args := [_]) Tryz.func53 rfl Tryz.ntmps53 (Nat.le_of_ble_eq_true rfl) ?_
 (repeat first|refine wN ?_|refine wP rfl ?_|refine cx_r rfl ?_|refine cx_d rfl ?_|refine wO rfl rfl ?_)
 refine VO.call rfl rfl (fk Tryz.func80) (fun wa1 ka1 ba1 => (q04Plain_any _ q k wa1 (hv.kp ka1) hk).mono ?_)
 rintro e w1 ⟨r1, rfl, q1, hb1⟩
 obtain ⟨s1, p1, n1, c1, t1, y1, m1, d1, rfl⟩ := q1.form
 refine ⟨_, rfl, hb1, fun kb1 _ bb1 => wV rfl ?_⟩
 (repeat first|refine wN ?_|refine wP rfl ?_|refine cx_r rfl ?_|refine cx_d rfl ?_|refine wO rfl rfl ?_)
 refine VO.call rfl rfl (fk Tryz.func91) (fun wa2 ka2 ba2 => (rsign_any _ q.num _ wa2 ((q1.parts.1.kp ka2).to hv.sz1.1) (by unfold up1; omega)).mono ?_)
 rintro e w2 ⟨rfl, hb2⟩
 rw [rsign_raw]
 refine ⟨_, rfl, hb2, fun kb2 _ bb2 => wV rfl ?_⟩
 (repeat first|refine wN ?_|refine wP rfl ?_|refine cx_r rfl ?_|refine cx_d rfl ?_|refine wO rfl rfl ?_)
 refine VS.ret (cx_ok _ _) rfl rfl (fun wz kz bz => ?_)
 exact ⟨rfl, bz⟩
theorem q04Cmp_any (v u : Value) (q r : Rat) (k l : Nat) (w : World) (hv : RatIn w v q k) (hu : RatIn w u r l) (hk : k ≤ 33554431) (hl : l ≤ 33554431) :
  Calls Tryz.prog 50 #[v, u] w fun e w' => e = .returned (.int .i64 (rcmp q r)) ∧ Beh w w' := by
 obtain ⟨s, p, n, c, t, y, m, d, rfl⟩ := hv.form
 obtain ⟨s', p', n', c', t', y', m', d', rfl⟩ := hu.form
 have uk : up1 k ≤ 33554431 := by unfold up1; omega
 have ul : up1 l ≤ 33554431 := by unfold up1; omega
 refine calm_enter (C := cxOf Tryz.prog w _) (args := [_, _]) Tryz.func50 rfl Tryz.ntmps50 (Nat.le_of_ble_eq_true rfl) ?_
 (repeat first|refine wN ?_|refine wP rfl ?_|refine cx_r rfl ?_|refine cx_d rfl ?_|refine wO rfl rfl ?_)
 refine VO.call rfl rfl (fk Tryz.func86) (fun wa1 ka1 ba1 => (q04Sub_any _ _ q r k l wa1 (hv.kp ka1) (hu.kp ka1) (by omega) hl).mono ?_)
 rintro e w1 ⟨r1, rfl, q1, hb1⟩
 obtain ⟨s1, p1, n1, c1, t1, y1, m1, d1, rfl⟩ := q1.form
 refine ⟨_, rfl, hb1, fun kb1 _ bb1 => wV rfl ?_⟩
 (repeat first|refine wN ?_|refine wP rfl ?_|refine cx_r rfl ?_|refine cx_d rfl ?_|refine wO rfl rfl ?_)
 refine VO.call rfl rfl (fk Tryz.func53) (fun wa2 ka2 ba2 => (q04Sign_any _ (q - r) (up1 k + up1 l + 1) wa2 ((q1.kp ka2).in (hv.sz1.sub hu.sz1)) (by omega)).mono ?_)
 rintro e w2 ⟨rfl, hb2⟩
 rw [rcmp_sub]
 refine ⟨_, rfl, hb2, fun kb2 _ bb2 => wV rfl ?_⟩
 (repeat first|refine wN ?_|refine wP rfl ?_|refine cx_r rfl ?_|refine cx_d rfl ?_|refine wO rfl rfl ?_)
 refine VS.ret (cx_ok _ _) rfl rfl (fun wz kz bz => ?_)
 exact ⟨rfl, bz⟩
end Go.Proofs.YtofdiijioejljaaGreat
