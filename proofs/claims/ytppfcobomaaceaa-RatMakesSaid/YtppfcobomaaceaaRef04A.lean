/- What the reference's fractions compute: Right, Zero, Plain, New, Of, Whole, Add, Neg, Sub, Mul, Div, Sign, Cmp, Same. -/
import Derived.Test.YtppfcobomaaceaaRef03I
import Derived.Test.YtppfcobomaaceaaRatAll
namespace Go.Proofs.Ytppfcobomaaceaa
open Go.RowKit
attribute [local irreducible] vcOps VS

theorem q04Whole_any (n : Int) (w : World) (h0 : -9223372036854775808 ≤ n) (h1 : n ≤ 9223372036854775807) :
    Calls Try.prog 10 #[.int .i64 n] w fun e w' => ∃ r, e = .returned r ∧ RatOwn w' w.heap.size r (n : Rat) ∧ Beh w w' := by
  refine calm_enter (C := cxOf Try.prog w _) (args := [_]) Try.func10 rfl Try.ntmps10 (Nat.le_of_ble_eq_true rfl) ?_
  (repeat (first | refine wN ?_ | refine wQ ?_ | refine cx_r rfl ?_ | refine cx_d (by kernel_rfl) rfl ?_ | refine wO rfl rfl ?_ | refine wT rfl ?_ | refine wF rfl ?_ | refine wB ?_ | refine wK ?_ | refine wE rfl ?_ | refine wS ?_))
  refine VO.call rfl rfl ⟨_, Try.func24, by kernel_rfl, by kernel_rfl⟩ (fun wa1 ka1 ba1 => (rOf_any n wa1 h0 h1).mono ?_)
  rintro e w1 ⟨r1, rfl, q1, hb1⟩
  obtain ⟨s1, p1, n1, c1, rfl⟩ := q1.form
  refine ⟨_, rfl, hb1, fun kb1 _ bb1 => wV rfl ?_⟩
  (repeat (first | refine wN ?_ | refine wQ ?_ | refine cx_r rfl ?_ | refine cx_d (by kernel_rfl) rfl ?_ | refine wO rfl rfl ?_ | refine wT rfl ?_ | refine wF rfl ?_ | refine wB ?_ | refine wK ?_ | refine wE rfl ?_ | refine wS ?_))
  refine VO.call rfl rfl ⟨_, Try.func24, by kernel_rfl, by kernel_rfl⟩ (fun wa2 ka2 ba2 => (rOf_any 1 wa2 (by omega) (by omega)).mono ?_)
  rintro e w2 ⟨r2, rfl, q2, hb2⟩
  obtain ⟨s2, p2, n2, c2, rfl⟩ := q2.form
  refine ⟨_, rfl, hb2, fun kb2 _ bb2 => wV rfl ?_⟩
  (repeat (first | refine wN ?_ | refine wQ ?_ | refine cx_r rfl ?_ | refine cx_d (by kernel_rfl) rfl ?_ | refine wO rfl rfl ?_ | refine wT rfl ?_ | refine wF rfl ?_ | refine wB ?_ | refine wK ?_ | refine wE rfl ?_ | refine wS ?_))
  refine VS.ret (cx_ok _ _) rfl rfl (fun wz kz bz => ?_)
  exact ⟨_, rfl, ⟨_, _, _, _, _, _, _, _, rfl, (q1.kp (kb2.thn kz)).mono ba1.size, (q2.kp kz).mono ba2.size⟩, bz⟩
theorem q04Zero_any (w : World) : Calls Try.prog 16 #[] w fun e w' => ∃ r, e = .returned r ∧ RatOwn w' w.heap.size r 0 ∧ Beh w w' := by
  refine calm_enter (C := cxOf Try.prog w _) (args := []) Try.func16 rfl Try.ntmps16 (Nat.le_of_ble_eq_true rfl) ?_
  (repeat (first | refine wN ?_ | refine wQ ?_ | refine cx_r rfl ?_ | refine cx_d (by kernel_rfl) rfl ?_ | refine wO rfl rfl ?_ | refine wT rfl ?_ | refine wF rfl ?_ | refine wB ?_ | refine wK ?_ | refine wE rfl ?_ | refine wS ?_))
  refine VO.call rfl rfl ⟨_, Try.func24, by kernel_rfl, by kernel_rfl⟩ (fun wa1 ka1 ba1 => (rOf_any 0 wa1 (by omega) (by omega)).mono ?_)
  rintro e w1 ⟨r1, rfl, q1, hb1⟩
  obtain ⟨s1, p1, n1, c1, rfl⟩ := q1.form
  refine ⟨_, rfl, hb1, fun kb1 _ bb1 => wV rfl ?_⟩
  (repeat (first | refine wN ?_ | refine wQ ?_ | refine cx_r rfl ?_ | refine cx_d (by kernel_rfl) rfl ?_ | refine wO rfl rfl ?_ | refine wT rfl ?_ | refine wF rfl ?_ | refine wB ?_ | refine wK ?_ | refine wE rfl ?_ | refine wS ?_))
  refine VO.call rfl rfl ⟨_, Try.func24, by kernel_rfl, by kernel_rfl⟩ (fun wa2 ka2 ba2 => (rOf_any 1 wa2 (by omega) (by omega)).mono ?_)
  rintro e w2 ⟨r2, rfl, q2, hb2⟩
  obtain ⟨s2, p2, n2, c2, rfl⟩ := q2.form
  refine ⟨_, rfl, hb2, fun kb2 _ bb2 => wV rfl ?_⟩
  (repeat (first | refine wN ?_ | refine wQ ?_ | refine cx_r rfl ?_ | refine cx_d (by kernel_rfl) rfl ?_ | refine wO rfl rfl ?_ | refine wT rfl ?_ | refine wF rfl ?_ | refine wB ?_ | refine wK ?_ | refine wE rfl ?_ | refine wS ?_))
  refine VS.ret (cx_ok _ _) rfl rfl (fun wz kz bz => ?_)
  exact ⟨_, rfl, ⟨_, _, _, _, _, _, _, _, rfl, (q1.kp (kb2.thn kz)).mono ba1.size, (q2.kp kz).mono ba2.size⟩, bz⟩
theorem low_same {X Y : Int} : Rat.divInt X Y = Rat.divInt (-X) (-Y) := (Rat.neg_divInt_neg X Y).symm
set_option maxHeartbeats 1000000 in
theorem q04New_any (v u : Value) (X Y : Int) (j k : Nat) (w : World) (hv : IntIn w v X j) (hu : IntIn w u Y k) (hj : j ≤ 134217728) (hk : k ≤ 134217728) :
    Calls Try.prog 8 #[v, u] w fun e w' => ∃ r, e = .returned (.tuple #[r, .int .i64 (dcode Y)]) ∧ RatOwn w' w.heap.size r (Rat.divInt X Y) ∧ Beh w w' := by
  obtain ⟨s, p, n, c, rfl⟩ := hv.form
  obtain ⟨t, r, m, d, rfl⟩ := hu.form
  refine calm_enter (C := cxOf Try.prog w _) (args := [_, _]) Try.func8 rfl Try.ntmps8 (Nat.le_of_ble_eq_true rfl) ?_
  (repeat (first | refine wN ?_ | refine wQ ?_ | refine cx_r rfl ?_ | refine cx_d (by kernel_rfl) rfl ?_ | refine wO rfl rfl ?_ | refine wT rfl ?_ | refine wF rfl ?_ | refine wB ?_ | refine wK ?_ | refine wE rfl ?_ | refine wS ?_))
  refine VO.call rfl rfl ⟨_, Try.func25, by kernel_rfl, by kernel_rfl⟩ (fun wa1 ka1 ba1 => (rsign_any _ Y k wa1 (hu.beh ba1) (by omega)).mono ?_)
  rintro e w1 ⟨rfl, hb1⟩
  by_cases hY : Y = 0
  · rw [show Y.sign = 0 by rw [hY]; rfl]
    refine ⟨_, rfl, hb1, fun kb1 _ bb1 => wV rfl ?_⟩
    (repeat (first | refine wN ?_ | refine wQ ?_ | refine cx_r rfl ?_ | refine cx_d (by kernel_rfl) rfl ?_ | refine wO rfl rfl ?_ | refine wT rfl ?_ | refine wF rfl ?_ | refine wB ?_ | refine wK ?_ | refine wE rfl ?_ | refine wS ?_))
    refine VO.call rfl rfl ⟨_, Try.func16, by kernel_rfl, by kernel_rfl⟩ (fun wa2 ka2 ba2 => (q04Zero_any wa2).mono ?_)
    rintro e w2 ⟨r2, rfl, h2, hb2⟩
    obtain ⟨s2, p2, n2, c2, t2, y2, m2, d2, rfl⟩ := h2.form
    refine ⟨_, rfl, hb2, fun kb2 _ bb2 => wV rfl ?_⟩
    (repeat (first | refine wN ?_ | refine wQ ?_ | refine cx_r rfl ?_ | refine cx_d (by kernel_rfl) rfl ?_ | refine wO rfl rfl ?_ | refine wT rfl ?_ | refine wF rfl ?_ | refine wB ?_ | refine wK ?_ | refine wE rfl ?_ | refine wS ?_))
    refine VS.ret (cx_ok _ _) rfl rfl (fun wz kz bz => ?_)
    refine ⟨_, by rw [dcode, if_pos hY]; rfl, ?_, bz⟩
    rw [hY, Rat.divInt_zero]
    exact (h2.kp kz).mono ba2.size
  · rcases Int.lt_or_lt_of_ne hY with q | q
    · rw [sign_neg q]
      refine ⟨_, rfl, hb1, fun kb1 _ bb1 => wV rfl ?_⟩
      (repeat (first | refine wN ?_ | refine wQ ?_ | refine cx_r rfl ?_ | refine cx_d (by kernel_rfl) rfl ?_ | refine wO rfl rfl ?_ | refine wT rfl ?_ | refine wF rfl ?_ | refine wB ?_ | refine wK ?_ | refine wE rfl ?_ | refine wS ?_))
      refine VO.call rfl rfl ⟨_, Try.func25, by kernel_rfl, by kernel_rfl⟩ (fun wa2 ka2 ba2 => (rsign_any _ Y k wa2 (hu.beh ba2) (by omega)).mono ?_)
      rintro e w2 ⟨rfl, hb2⟩
      rw [sign_neg q]
      refine ⟨_, rfl, hb2, fun kb2 _ bb2 => wV rfl ?_⟩
      (repeat (first | refine wN ?_ | refine wQ ?_ | refine cx_r rfl ?_ | refine cx_d (by kernel_rfl) rfl ?_ | refine wO rfl rfl ?_ | refine wT rfl ?_ | refine wF rfl ?_ | refine wB ?_ | refine wK ?_ | refine wE rfl ?_ | refine wS ?_))
      refine VO.call rfl rfl ⟨_, Try.func26, by kernel_rfl, by kernel_rfl⟩ (fun wa3 ka3 ba3 => (rneg_any _ X j wa3 (hv.beh ba3) (by omega)).mono ?_)
      rintro e w3 ⟨r3, rfl, h3, hb3⟩
      obtain ⟨s3, p3, n3, c3, rfl⟩ := h3.form
      refine ⟨_, rfl, hb3, fun kb3 _ bb3 => wV rfl ?_⟩
      (repeat (first | refine wN ?_ | refine wQ ?_ | refine cx_r rfl ?_ | refine cx_d (by kernel_rfl) rfl ?_ | refine wO rfl rfl ?_ | refine wT rfl ?_ | refine wF rfl ?_ | refine wB ?_ | refine wK ?_ | refine wE rfl ?_ | refine wS ?_))
      refine VO.call rfl rfl ⟨_, Try.func26, by kernel_rfl, by kernel_rfl⟩ (fun wa4 ka4 ba4 => (rneg_any _ Y k wa4 (hu.beh ba4) (by omega)).mono ?_)
      rintro e w4 ⟨r4, rfl, h4, hb4⟩
      obtain ⟨s4, p4, n4, c4, rfl⟩ := h4.form
      refine ⟨_, rfl, hb4, fun kb4 _ bb4 => wV rfl ?_⟩
      (repeat (first | refine wN ?_ | refine wQ ?_ | refine cx_r rfl ?_ | refine cx_d (by kernel_rfl) rfl ?_ | refine wO rfl rfl ?_ | refine wT rfl ?_ | refine wF rfl ?_ | refine wB ?_ | refine wK ?_ | refine wE rfl ?_ | refine wS ?_))
      have z3 : Sz (-X) j := Sz.neg hv.len
      have z4 : Sz (-Y) k := Sz.neg hu.len
      obtain ⟨l1, l2⟩ := low_pos (X := -X) (Y := -Y) (by omega)
      have hgs : Sz (Int.gcd (-X) (-Y) : Int) k := gcd_sz z4 (by omega)
      have hg0 : (Int.gcd (-X) (-Y) : Int) ≠ 0 := by
        intro e
        have := (Int.gcd_eq_zero_iff.1 (show Int.gcd (-X) (-Y) = 0 by omega)).2
        omega
      refine VO.call rfl rfl ⟨_, Try.func27, by kernel_rfl, by kernel_rfl⟩ (fun wa5 ka5 ba5 => (rgcd_any _ _ (-X) (-Y) j k wa5 ((h3.kp (kb4.thn ka5)).in z3) ((h4.kp ka5).in z4) (by omega) (by omega)).mono ?_)
      rintro e w5 ⟨r5, rfl, h5, hb5⟩
      obtain ⟨s5, p5, n5, c5, rfl⟩ := h5.form
      refine ⟨_, rfl, hb5, fun kb5 _ bb5 => wV rfl ?_⟩
      (repeat (first | refine wN ?_ | refine wQ ?_ | refine cx_r rfl ?_ | refine cx_d (by kernel_rfl) rfl ?_ | refine wO rfl rfl ?_ | refine wT rfl ?_ | refine wF rfl ?_ | refine wB ?_ | refine wK ?_ | refine wE rfl ?_ | refine wS ?_))
      refine VO.call rfl rfl ⟨_, Try.func28, by kernel_rfl, by kernel_rfl⟩ (fun wa6 ka6 ba6 => (rdivmod_any _ _ (-X) (Int.gcd (-X) (-Y) : Int) j k wa6 ((h3.kp (kb4.thn (kb5.thn ka6))).in z3) ((h5.kp ka6).in hgs) (by omega) (by omega)).mono ?_)
      rintro e w6 ⟨hd6, hb6⟩
      obtain ⟨v6, u6, rfl, h6, h6'⟩ := floordiv_ok hd6 hg0
      obtain ⟨s6, p6, n6, c6, rfl⟩ := h6.form
      obtain ⟨t6, r6, m6, d6, rfl⟩ := h6'.form
      refine ⟨_, rfl, hb6, fun kb6 _ bb6 => wV rfl ?_⟩
      (repeat (first | refine wN ?_ | refine wQ ?_ | refine cx_r rfl ?_ | refine cx_d (by kernel_rfl) rfl ?_ | refine wO rfl rfl ?_ | refine wT rfl ?_ | refine wF rfl ?_ | refine wB ?_ | refine wK ?_ | refine wE rfl ?_ | refine wS ?_))
      refine VO.call rfl rfl ⟨_, Try.func28, by kernel_rfl, by kernel_rfl⟩ (fun wa7 ka7 ba7 => (rdivmod_any _ _ (-Y) (Int.gcd (-X) (-Y) : Int) k k wa7 ((h4.kp (kb5.thn (kb6.thn ka7))).in z4) ((h5.kp (kb6.thn ka7)).in hgs) (by omega) (by omega)).mono ?_)
      rintro e w7 ⟨hd7, hb7⟩
      obtain ⟨v7, u7, rfl, h7, h7'⟩ := floordiv_ok hd7 hg0
      obtain ⟨s7, p7, n7, c7, rfl⟩ := h7.form
      obtain ⟨t7, r7, m7, d7, rfl⟩ := h7'.form
      refine ⟨_, rfl, hb7, fun kb7 _ bb7 => wV rfl ?_⟩
      (repeat (first | refine wN ?_ | refine wQ ?_ | refine cx_r rfl ?_ | refine cx_d (by kernel_rfl) rfl ?_ | refine wO rfl rfl ?_ | refine wT rfl ?_ | refine wF rfl ?_ | refine wB ?_ | refine wK ?_ | refine wE rfl ?_ | refine wS ?_))
      refine VS.ret (cx_ok _ _) rfl rfl (fun wz kz bz => ?_)
      rw [low_same]
      exact ⟨_, by rw [dcode, if_neg hY]; rfl, ⟨_, _, _, _, _, _, _, _, rfl, IntOwn.cast ((h6.kp (kb7.thn kz)).mono ba6.size) l1, IntOwn.cast ((h7.kp kz).mono ba7.size) l2⟩, bz⟩
    · rw [sign_pos q]
      refine ⟨_, rfl, hb1, fun kb1 _ bb1 => wV rfl ?_⟩
      (repeat (first | refine wN ?_ | refine wQ ?_ | refine cx_r rfl ?_ | refine cx_d (by kernel_rfl) rfl ?_ | refine wO rfl rfl ?_ | refine wT rfl ?_ | refine wF rfl ?_ | refine wB ?_ | refine wK ?_ | refine wE rfl ?_ | refine wS ?_))
      refine VO.call rfl rfl ⟨_, Try.func25, by kernel_rfl, by kernel_rfl⟩ (fun wa2 ka2 ba2 => (rsign_any _ Y k wa2 (hu.beh ba2) (by omega)).mono ?_)
      rintro e w2 ⟨rfl, hb2⟩
      rw [sign_pos q]
      refine ⟨_, rfl, hb2, fun kb2 _ bb2 => wV rfl ?_⟩
      (repeat (first | refine wN ?_ | refine wQ ?_ | refine cx_r rfl ?_ | refine cx_d (by kernel_rfl) rfl ?_ | refine wO rfl rfl ?_ | refine wT rfl ?_ | refine wF rfl ?_ | refine wB ?_ | refine wK ?_ | refine wE rfl ?_ | refine wS ?_))
      obtain ⟨l1, l2⟩ := low_pos (X := X) (Y := Y) q
      have hgs : Sz (Int.gcd X Y : Int) k := gcd_sz hu.len hY
      have hg0 : (Int.gcd X Y : Int) ≠ 0 := by
        intro e
        have := (Int.gcd_eq_zero_iff.1 (show Int.gcd X Y = 0 by omega)).2
        omega
      refine VO.call rfl rfl ⟨_, Try.func27, by kernel_rfl, by kernel_rfl⟩ (fun wa5 ka5 ba5 => (rgcd_any _ _ X Y j k wa5 (hv.beh ba5) (hu.beh ba5) (by omega) (by omega)).mono ?_)
      rintro e w5 ⟨r5, rfl, h5, hb5⟩
      obtain ⟨s5, p5, n5, c5, rfl⟩ := h5.form
      refine ⟨_, rfl, hb5, fun kb5 _ bb5 => wV rfl ?_⟩
      (repeat (first | refine wN ?_ | refine wQ ?_ | refine cx_r rfl ?_ | refine cx_d (by kernel_rfl) rfl ?_ | refine wO rfl rfl ?_ | refine wT rfl ?_ | refine wF rfl ?_ | refine wB ?_ | refine wK ?_ | refine wE rfl ?_ | refine wS ?_))
      refine VO.call rfl rfl ⟨_, Try.func28, by kernel_rfl, by kernel_rfl⟩ (fun wa6 ka6 ba6 => (rdivmod_any _ _ X (Int.gcd X Y : Int) j k wa6 (hv.beh ba6) ((h5.kp ka6).in hgs) (by omega) (by omega)).mono ?_)
      rintro e w6 ⟨hd6, hb6⟩
      obtain ⟨v6, u6, rfl, h6, h6'⟩ := floordiv_ok hd6 hg0
      obtain ⟨s6, p6, n6, c6, rfl⟩ := h6.form
      obtain ⟨t6, r6, m6, d6, rfl⟩ := h6'.form
      refine ⟨_, rfl, hb6, fun kb6 _ bb6 => wV rfl ?_⟩
      (repeat (first | refine wN ?_ | refine wQ ?_ | refine cx_r rfl ?_ | refine cx_d (by kernel_rfl) rfl ?_ | refine wO rfl rfl ?_ | refine wT rfl ?_ | refine wF rfl ?_ | refine wB ?_ | refine wK ?_ | refine wE rfl ?_ | refine wS ?_))
      refine VO.call rfl rfl ⟨_, Try.func28, by kernel_rfl, by kernel_rfl⟩ (fun wa7 ka7 ba7 => (rdivmod_any _ _ Y (Int.gcd X Y : Int) k k wa7 (hu.beh ba7) ((h5.kp (kb6.thn ka7)).in hgs) (by omega) (by omega)).mono ?_)
      rintro e w7 ⟨hd7, hb7⟩
      obtain ⟨v7, u7, rfl, h7, h7'⟩ := floordiv_ok hd7 hg0
      obtain ⟨s7, p7, n7, c7, rfl⟩ := h7.form
      obtain ⟨t7, r7, m7, d7, rfl⟩ := h7'.form
      refine ⟨_, rfl, hb7, fun kb7 _ bb7 => wV rfl ?_⟩
      (repeat (first | refine wN ?_ | refine wQ ?_ | refine cx_r rfl ?_ | refine cx_d (by kernel_rfl) rfl ?_ | refine wO rfl rfl ?_ | refine wT rfl ?_ | refine wF rfl ?_ | refine wB ?_ | refine wK ?_ | refine wE rfl ?_ | refine wS ?_))
      refine VS.ret (cx_ok _ _) rfl rfl (fun wz kz bz => ?_)
      exact ⟨_, by rw [dcode, if_neg hY]; rfl, ⟨_, _, _, _, _, _, _, _, rfl, IntOwn.cast ((h6.kp (kb7.thn kz)).mono ba6.size) l1, IntOwn.cast ((h7.kp kz).mono ba7.size) l2⟩, bz⟩
theorem q04Of_any (n d : Int) (w : World) (h0 : -9223372036854775808 ≤ n) (h1 : n ≤ 9223372036854775807) (g0 : -9223372036854775808 ≤ d) (g1 : d ≤ 9223372036854775807) :
    Calls Try.prog 7 #[.int .i64 n, .int .i64 d] w fun e w' => ∃ r, e = .returned (.tuple #[r, .int .i64 (dcode d)]) ∧ RatOwn w' w.heap.size r (Rat.divInt n d) ∧ Beh w w' := by
  refine calm_enter (C := cxOf Try.prog w _) (args := [_, _]) Try.func7 rfl Try.ntmps7 (Nat.le_of_ble_eq_true rfl) ?_
  (repeat (first | refine wN ?_ | refine wQ ?_ | refine cx_r rfl ?_ | refine cx_d (by kernel_rfl) rfl ?_ | refine wO rfl rfl ?_ | refine wT rfl ?_ | refine wF rfl ?_ | refine wB ?_ | refine wK ?_ | refine wE rfl ?_ | refine wS ?_))
  refine VO.call rfl rfl ⟨_, Try.func24, by kernel_rfl, by kernel_rfl⟩ (fun wa1 ka1 ba1 => (rOf_any n wa1 h0 h1).mono ?_)
  rintro e w1 ⟨r1, rfl, q1, hb1⟩
  obtain ⟨s1, p1, n1, c1, rfl⟩ := q1.form
  refine ⟨_, rfl, hb1, fun kb1 _ bb1 => wV rfl ?_⟩
  (repeat (first | refine wN ?_ | refine wQ ?_ | refine cx_r rfl ?_ | refine cx_d (by kernel_rfl) rfl ?_ | refine wO rfl rfl ?_ | refine wT rfl ?_ | refine wF rfl ?_ | refine wB ?_ | refine wK ?_ | refine wE rfl ?_ | refine wS ?_))
  refine VO.call rfl rfl ⟨_, Try.func24, by kernel_rfl, by kernel_rfl⟩ (fun wa2 ka2 ba2 => (rOf_any d wa2 g0 g1).mono ?_)
  rintro e w2 ⟨r2, rfl, q2, hb2⟩
  obtain ⟨s2, p2, n2, c2, rfl⟩ := q2.form
  refine ⟨_, rfl, hb2, fun kb2 _ bb2 => wV rfl ?_⟩
  (repeat (first | refine wN ?_ | refine wQ ?_ | refine cx_r rfl ?_ | refine cx_d (by kernel_rfl) rfl ?_ | refine wO rfl rfl ?_ | refine wT rfl ?_ | refine wF rfl ?_ | refine wB ?_ | refine wK ?_ | refine wE rfl ?_ | refine wS ?_))
  refine VO.call rfl rfl ⟨_, Try.func8, by kernel_rfl, by kernel_rfl⟩ (fun wa3 ka3 ba3 => (q04New_any _ _ n d 2 2 wa3 ((q1.kp (kb2.thn ka3)).in (Sz.of_lt (by omega))) ((q2.kp ka3).in (Sz.of_lt (by omega))) (by omega) (by omega)).mono ?_)
  rintro e w3 ⟨r3, rfl, q3, hb3⟩
  obtain ⟨s3, p3, n3, c3, t3, x3, m3, d3, rfl⟩ := q3.form
  refine ⟨_, rfl, hb3, fun kb3 _ bb3 => wV rfl ?_⟩
  (repeat (first | refine wN ?_ | refine wQ ?_ | refine cx_r rfl ?_ | refine cx_d (by kernel_rfl) rfl ?_ | refine wO rfl rfl ?_ | refine wT rfl ?_ | refine wF rfl ?_ | refine wB ?_ | refine wK ?_ | refine wE rfl ?_ | refine wS ?_))
  refine VS.ret (cx_ok _ _) rfl rfl (fun wz kz bz => ?_)
  exact ⟨_, rfl, (q3.kp kz).mono ba3.size, bz⟩
theorem rcmp_zero {q r : Rat} : (rcmp q r == 0) = decide (q = r) := by
  unfold rcmp
  by_cases h1 : q < r
  · rw [if_pos h1, decide_eq_false (fun e => by rw [e] at h1; exact absurd h1 Rat.lt_irrefl)]; rfl
  · rw [if_neg h1]
    by_cases h2 : q = r
    · rw [if_pos h2, decide_eq_true h2]; rfl
    · rw [if_neg h2, decide_eq_false h2]; rfl
end Go.Proofs.Ytppfcobomaaceaa
