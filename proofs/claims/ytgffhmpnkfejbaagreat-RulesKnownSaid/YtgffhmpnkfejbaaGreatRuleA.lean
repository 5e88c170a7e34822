/- What the rules' functions compute: zero, none, with, the kinds' rules, the table, add, Of, Sum, Same, Difference, EBITDA. -/
import Derived.Test.YtgffhmpnkfejbaaGreatRuleMath
set_option linter.all false
namespace Go.Proofs.YtgffhmpnkfejbaaGreat
open Go.RowKit
attribute [local irreducible] vcOps VS

theorem rzero_any (w : World) : Calls Tryz.prog 45 #[] w fun e w' => ∃ r, e = .returned r ∧ RatOwn w' w.heap.size r 0 ∧ Beh w w' := by
  refine calm_enter (C := cxOf Tryz.prog w _) (args := []) Tryz.func45 rfl Tryz.ntmps45 (Nat.le_of_ble_eq_true rfl) ?_
  (repeat (first | refine wN ?_ | refine wP rfl ?_ | refine cx_r rfl ?_ | refine cx_d (by kernel_rfl) rfl ?_ | refine wO rfl rfl ?_))
  refine VO.call rfl rfl (fk Tryz.func23) (fun wa1 ka1 ba1 => (ratWhole_any 0 wa1 (by omega) (by omega)).mono ?_)
  rintro e w1 ⟨r1, rfl, q1, hb1⟩
  obtain ⟨s1, p1, n1, c1, t1, y1, m1, d1, rfl⟩ := q1.form
  refine ⟨_, rfl, hb1, fun kb1 _ bb1 => wV rfl ?_⟩
  (repeat (first | refine wN ?_ | refine wP rfl ?_ | refine cx_r rfl ?_ | refine cx_d (by kernel_rfl) rfl ?_ | refine wO rfl rfl ?_))
  refine VS.ret (cx_ok _ _) rfl rfl (fun wz kz bz => ?_)
  exact ⟨_, rfl, ((q1.kp kz).mono ba1.size).cast rfl, bz⟩
theorem rnone_any (w : World) : Calls Tryz.prog 41 #[] w fun e w' => ∃ r, e = .returned r ∧ PtRd w' r Pt.zero ∧ Beh w w' := by
  refine calm_enter (C := cxOf Tryz.prog w _) (args := []) Tryz.func41 rfl Tryz.ntmps41 (Nat.le_of_ble_eq_true rfl) ?_
  (repeat (first | refine wN ?_ | refine wP rfl ?_ | refine cx_r rfl ?_ | refine cx_d (by kernel_rfl) rfl ?_ | refine wO rfl rfl ?_))
  refine VO.call rfl rfl (fk Tryz.func45) (fun wa1 ka1 ba1 => (rzero_any wa1).mono ?_)
  rintro e w1 ⟨r1, rfl, q1, hb1⟩
  obtain ⟨s1, p1, n1, c1, t1, y1, m1, d1, rfl⟩ := q1.form
  refine ⟨_, rfl, hb1, fun kb1 _ bb1 => wV rfl ?_⟩
  (repeat (first | refine wN ?_ | refine wP rfl ?_ | refine cx_r rfl ?_ | refine cx_d (by kernel_rfl) rfl ?_ | refine wO rfl rfl ?_))
  refine VO.call rfl rfl (fk Tryz.func45) (fun wa2 ka2 ba2 => (rzero_any wa2).mono ?_)
  rintro e w2 ⟨r2, rfl, q2, hb2⟩
  obtain ⟨s2, p2, n2, c2, t2, y2, m2, d2, rfl⟩ := q2.form
  refine ⟨_, rfl, hb2, fun kb2 _ bb2 => wV rfl ?_⟩
  (repeat (first | refine wN ?_ | refine wP rfl ?_ | refine cx_r rfl ?_ | refine cx_d (by kernel_rfl) rfl ?_ | refine wO rfl rfl ?_))
  refine VO.call rfl rfl (fk Tryz.func45) (fun wa3 ka3 ba3 => (rzero_any wa3).mono ?_)
  rintro e w3 ⟨r3, rfl, q3, hb3⟩
  obtain ⟨s3, p3, n3, c3, t3, y3, m3, d3, rfl⟩ := q3.form
  refine ⟨_, rfl, hb3, fun kb3 _ bb3 => wV rfl ?_⟩
  (repeat (first | refine wN ?_ | refine wP rfl ?_ | refine cx_r rfl ?_ | refine cx_d (by kernel_rfl) rfl ?_ | refine wO rfl rfl ?_))
  refine VO.call rfl rfl (fk Tryz.func45) (fun wa4 ka4 ba4 => (rzero_any wa4).mono ?_)
  rintro e w4 ⟨r4, rfl, q4, hb4⟩
  obtain ⟨s4, p4, n4, c4, t4, y4, m4, d4, rfl⟩ := q4.form
  refine ⟨_, rfl, hb4, fun kb4 _ bb4 => wV rfl ?_⟩
  (repeat (first | refine wN ?_ | refine wP rfl ?_ | refine cx_r rfl ?_ | refine cx_d (by kernel_rfl) rfl ?_ | refine wO rfl rfl ?_))
  refine VS.ret (cx_ok _ _) rfl rfl (fun wz kz bz => ?_)
  exact ⟨_, rfl, PtRd.mk (q1.kp (by (with_reducible (repeat (first | assumption | exact kU _ | exact kR _ | refine kT ?_ (by assumption)))))).rd (q2.kp (by (with_reducible (repeat (first | assumption | exact kU _ | exact kR _ | refine kT ?_ (by assumption)))))).rd (q3.kp (by (with_reducible (repeat (first | assumption | exact kU _ | exact kR _ | refine kT ?_ (by assumption)))))).rd (q4.kp (by (with_reducible (repeat (first | assumption | exact kU _ | exact kR _ | refine kT ?_ (by assumption)))))).rd, bz⟩
theorem rwith_any (v u : Value) (T A : Rat) (w : World) (hv : RatRd w v T) (hu : RatRd w u A) :
    Calls Tryz.prog 77 #[v, u] w fun e w' => ∃ r, e = .returned r ∧ PtRd w' r ⟨T, A, 0, 0⟩ ∧ Beh w w' := by
  obtain ⟨s8, p8, n8, c8, t8, y8, m8, d8, rfl⟩ := hv.form
  obtain ⟨s9, p9, n9, c9, t9, y9, m9, d9, rfl⟩ := hu.form
  refine calm_enter (C := cxOf Tryz.prog w _) (args := [_, _]) Tryz.func77 rfl Tryz.ntmps77 (Nat.le_of_ble_eq_true rfl) ?_
  (repeat (first | refine wN ?_ | refine wP rfl ?_ | refine cx_r rfl ?_ | refine cx_d (by kernel_rfl) rfl ?_ | refine wO rfl rfl ?_))
  refine VO.call rfl rfl (fk Tryz.func41) (fun wa1 ka1 ba1 => (rnone_any wa1).mono ?_)
  rintro e w1 ⟨r1, rfl, q1, hb1⟩
  obtain ⟨s1a, p1a, n1a, c1a, t1a, y1a, m1a, d1a, s1b, p1b, n1b, c1b, t1b, y1b, m1b, d1b, s1c, p1c, n1c, c1c, t1c, y1c, m1c, d1c, s1d, p1d, n1d, c1d, t1d, y1d, m1d, d1d, rfl, q1A, q1B, q1C, q1D⟩ := q1
  refine ⟨_, rfl, hb1, fun kb1 _ bb1 => wV rfl ?_⟩
  (repeat (first | refine wN ?_ | refine wP rfl ?_ | refine cx_r rfl ?_ | refine wO rfl rfl ?_))
  refine VS.drawA (cx_ok _ _) (cx_mixed _ _) 6 rfl ?_
  (repeat' (first | refine VA.go rfl ?_ | refine VA.fin rfl ?_ | refine VA.det _ rfl rfl ?_ | refine VA.cons rfl ?_ ?_ | exact VA.nil rfl))
  all_goals
    (repeat (first | refine wN ?_ | refine wP rfl ?_ | refine cx_r rfl ?_ | refine cx_d (by kernel_rfl) rfl ?_ | refine wO rfl rfl ?_))
    refine VS.ret (cx_ok _ _) rfl rfl (fun wz kz bz => ?_)
    exact ⟨_, rfl, PtRd.mk (hv.kp (Kp.of (U := UU) bz)) (hu.kp (Kp.of (U := UU) bz)) (q1C.kp (by (with_reducible (repeat (first | assumption | exact kU _ | exact kR _ | refine kT ?_ (by assumption)))))) (q1D.kp (by (with_reducible (repeat (first | assumption | exact kU _ | exact kR _ | refine kT ?_ (by assumption)))))), bz⟩
theorem rearned_any (v u : Value) (T A : Rat) (j : Nat) (w : World) (hv : RatRd w v T) (hu : RatRd w u A) (hs : RSz T j) (ha : RSz A j) (hj : j ≤ 1000000) :
    Calls Tryz.prog 73 #[v, u] w fun e w' => ∃ r, e = .returned r ∧ PtRd w' r ⟨T, T, 0, 0⟩ ∧ Beh w w' := by
  obtain ⟨s8, p8, n8, c8, t8, y8, m8, d8, rfl⟩ := hv.form
  obtain ⟨s9, p9, n9, c9, t9, y9, m9, d9, rfl⟩ := hu.form
  have hT : RatIn w (.agg #[.bool s8, .slice p8 n8 c8, .bool t8, .slice y8 m8 d8]) T j := hv.to hs
  have hA : RatIn w (.agg #[.bool s9, .slice p9 n9 c9, .bool t9, .slice y9 m9 d9]) A j := hu.to ha
  refine calm_enter (C := cxOf Tryz.prog w _) (args := [_, _]) Tryz.func73 rfl Tryz.ntmps73 (Nat.le_of_ble_eq_true rfl) ?_
  (repeat (first | refine wN ?_ | refine wP rfl ?_ | refine cx_r rfl ?_ | refine cx_d (by kernel_rfl) rfl ?_ | refine wO rfl rfl ?_))
  refine VO.call rfl rfl (fk Tryz.func77) (fun wa1 ka1 ba1 => (rwith_any _ _ _ _ wa1 (hv.kp (Kp.of (U := UU) ba1)) (hv.kp (Kp.of (U := UU) ba1))).mono ?_)
  rintro e w1 ⟨r1, rfl, q1, hb1⟩
  obtain ⟨s1a, p1a, n1a, c1a, t1a, y1a, m1a, d1a, s1b, p1b, n1b, c1b, t1b, y1b, m1b, d1b, s1c, p1c, n1c, c1c, t1c, y1c, m1c, d1c, s1d, p1d, n1d, c1d, t1d, y1d, m1d, d1d, rfl, q1A, q1B, q1C, q1D⟩ := q1
  refine ⟨_, rfl, hb1, fun kb1 _ bb1 => wV rfl ?_⟩
  (repeat (first | refine wN ?_ | refine wP rfl ?_ | refine cx_r rfl ?_ | refine cx_d (by kernel_rfl) rfl ?_ | refine wO rfl rfl ?_))
  refine VS.ret (cx_ok _ _) rfl rfl (fun wz kz bz => ?_)
  exact ⟨_, rfl, PtRd.mk (q1A.kp (by (with_reducible (repeat (first | assumption | exact kU _ | exact kR _ | refine kT ?_ (by assumption)))))) (q1B.kp (by (with_reducible (repeat (first | assumption | exact kU _ | exact kR _ | refine kT ?_ (by assumption)))))) (q1C.kp (by (with_reducible (repeat (first | assumption | exact kU _ | exact kR _ | refine kT ?_ (by assumption)))))) (q1D.kp (by (with_reducible (repeat (first | assumption | exact kU _ | exact kR _ | refine kT ?_ (by assumption)))))), bz⟩
theorem rspent_any (v u : Value) (T A : Rat) (j : Nat) (w : World) (hv : RatRd w v T) (hu : RatRd w u A) (hs : RSz T j) (ha : RSz A j) (hj : j ≤ 1000000) :
    Calls Tryz.prog 74 #[v, u] w fun e w' => ∃ r, e = .returned r ∧ PtRd w' r ⟨-T, -T, 0, 0⟩ ∧ Beh w w' := by
  obtain ⟨s8, p8, n8, c8, t8, y8, m8, d8, rfl⟩ := hv.form
  obtain ⟨s9, p9, n9, c9, t9, y9, m9, d9, rfl⟩ := hu.form
  have hT : RatIn w (.agg #[.bool s8, .slice p8 n8 c8, .bool t8, .slice y8 m8 d8]) T j := hv.to hs
  have hA : RatIn w (.agg #[.bool s9, .slice p9 n9 c9, .bool t9, .slice y9 m9 d9]) A j := hu.to ha
  refine calm_enter (C := cxOf Tryz.prog w _) (args := [_, _]) Tryz.func74 rfl Tryz.ntmps74 (Nat.le_of_ble_eq_true rfl) ?_
  (repeat (first | refine wN ?_ | refine wP rfl ?_ | refine cx_r rfl ?_ | refine cx_d (by kernel_rfl) rfl ?_ | refine wO rfl rfl ?_))
  refine VO.call rfl rfl (fk Tryz.func21) (fun wa1 ka1 ba1 => (ratNeg_any _ _ _ wa1 (hT.kp (Kp.of (U := UU) ba1)) (by omega)).mono ?_)
  rintro e w1 ⟨r1, rfl, q1, hb1⟩
  obtain ⟨s1, p1, n1, c1, t1, y1, m1, d1, rfl⟩ := q1.form
  refine ⟨_, rfl, hb1, fun kb1 _ bb1 => wV rfl ?_⟩
  (repeat (first | refine wN ?_ | refine wP rfl ?_ | refine cx_r rfl ?_ | refine cx_d (by kernel_rfl) rfl ?_ | refine wO rfl rfl ?_))
  refine VO.call rfl rfl (fk Tryz.func21) (fun wa2 ka2 ba2 => (ratNeg_any _ _ _ wa2 (hT.kp (Kp.of (U := UU) ba2)) (by omega)).mono ?_)
  rintro e w2 ⟨r2, rfl, q2, hb2⟩
  obtain ⟨s2, p2, n2, c2, t2, y2, m2, d2, rfl⟩ := q2.form
  refine ⟨_, rfl, hb2, fun kb2 _ bb2 => wV rfl ?_⟩
  (repeat (first | refine wN ?_ | refine wP rfl ?_ | refine cx_r rfl ?_ | refine cx_d (by kernel_rfl) rfl ?_ | refine wO rfl rfl ?_))
  refine VO.call rfl rfl (fk Tryz.func77) (fun wa3 ka3 ba3 => (rwith_any _ _ _ _ wa3 ((q1.kp (by (with_reducible (repeat (first | assumption | exact kU _ | exact kR _ | refine kT ?_ (by assumption)))))).rd) ((q2.kp (by (with_reducible (repeat (first | assumption | exact kU _ | exact kR _ | refine kT ?_ (by assumption)))))).rd)).mono ?_)
  rintro e w3 ⟨r3, rfl, q3, hb3⟩
  obtain ⟨s3a, p3a, n3a, c3a, t3a, y3a, m3a, d3a, s3b, p3b, n3b, c3b, t3b, y3b, m3b, d3b, s3c, p3c, n3c, c3c, t3c, y3c, m3c, d3c, s3d, p3d, n3d, c3d, t3d, y3d, m3d, d3d, rfl, q3A, q3B, q3C, q3D⟩ := q3
  refine ⟨_, rfl, hb3, fun kb3 _ bb3 => wV rfl ?_⟩
  (repeat (first | refine wN ?_ | refine wP rfl ?_ | refine cx_r rfl ?_ | refine cx_d (by kernel_rfl) rfl ?_ | refine wO rfl rfl ?_))
  refine VS.ret (cx_ok _ _) rfl rfl (fun wz kz bz => ?_)
  exact ⟨_, rfl, PtRd.mk (q3A.kp (by (with_reducible (repeat (first | assumption | exact kU _ | exact kR _ | refine kT ?_ (by assumption)))))) (q3B.kp (by (with_reducible (repeat (first | assumption | exact kU _ | exact kR _ | refine kT ?_ (by assumption)))))) (q3C.kp (by (with_reducible (repeat (first | assumption | exact kU _ | exact kR _ | refine kT ?_ (by assumption)))))) (q3D.kp (by (with_reducible (repeat (first | assumption | exact kU _ | exact kR _ | refine kT ?_ (by assumption)))))), bz⟩
theorem rbooked_any (v u : Value) (T A : Rat) (j : Nat) (w : World) (hv : RatRd w v T) (hu : RatRd w u A) (hs : RSz T j) (ha : RSz A j) (hj : j ≤ 1000000) :
    Calls Tryz.prog 75 #[v, u] w fun e w' => ∃ r, e = .returned r ∧ PtRd w' r ⟨-T, 0, 0, 0⟩ ∧ Beh w w' := by
  obtain ⟨s8, p8, n8, c8, t8, y8, m8, d8, rfl⟩ := hv.form
  obtain ⟨s9, p9, n9, c9, t9, y9, m9, d9, rfl⟩ := hu.form
  have hT : RatIn w (.agg #[.bool s8, .slice p8 n8 c8, .bool t8, .slice y8 m8 d8]) T j := hv.to hs
  have hA : RatIn w (.agg #[.bool s9, .slice p9 n9 c9, .bool t9, .slice y9 m9 d9]) A j := hu.to ha
  refine calm_enter (C := cxOf Tryz.prog w _) (args := [_, _]) Tryz.func75 rfl Tryz.ntmps75 (Nat.le_of_ble_eq_true rfl) ?_
  (repeat (first | refine wN ?_ | refine wP rfl ?_ | refine cx_r rfl ?_ | refine cx_d (by kernel_rfl) rfl ?_ | refine wO rfl rfl ?_))
  refine VO.call rfl rfl (fk Tryz.func21) (fun wa1 ka1 ba1 => (ratNeg_any _ _ _ wa1 (hT.kp (Kp.of (U := UU) ba1)) (by omega)).mono ?_)
  rintro e w1 ⟨r1, rfl, q1, hb1⟩
  obtain ⟨s1, p1, n1, c1, t1, y1, m1, d1, rfl⟩ := q1.form
  refine ⟨_, rfl, hb1, fun kb1 _ bb1 => wV rfl ?_⟩
  (repeat (first | refine wN ?_ | refine wP rfl ?_ | refine cx_r rfl ?_ | refine cx_d (by kernel_rfl) rfl ?_ | refine wO rfl rfl ?_))
  refine VO.call rfl rfl (fk Tryz.func45) (fun wa2 ka2 ba2 => (rzero_any wa2).mono ?_)
  rintro e w2 ⟨r2, rfl, q2, hb2⟩
  obtain ⟨s2, p2, n2, c2, t2, y2, m2, d2, rfl⟩ := q2.form
  refine ⟨_, rfl, hb2, fun kb2 _ bb2 => wV rfl ?_⟩
  (repeat (first | refine wN ?_ | refine wP rfl ?_ | refine cx_r rfl ?_ | refine cx_d (by kernel_rfl) rfl ?_ | refine wO rfl rfl ?_))
  refine VO.call rfl rfl (fk Tryz.func77) (fun wa3 ka3 ba3 => (rwith_any _ _ _ _ wa3 ((q1.kp (by (with_reducible (repeat (first | assumption | exact kU _ | exact kR _ | refine kT ?_ (by assumption)))))).rd) ((q2.kp (by (with_reducible (repeat (first | assumption | exact kU _ | exact kR _ | refine kT ?_ (by assumption)))))).rd)).mono ?_)
  rintro e w3 ⟨r3, rfl, q3, hb3⟩
  obtain ⟨s3a, p3a, n3a, c3a, t3a, y3a, m3a, d3a, s3b, p3b, n3b, c3b, t3b, y3b, m3b, d3b, s3c, p3c, n3c, c3c, t3c, y3c, m3c, d3c, s3d, p3d, n3d, c3d, t3d, y3d, m3d, d3d, rfl, q3A, q3B, q3C, q3D⟩ := q3
  refine ⟨_, rfl, hb3, fun kb3 _ bb3 => wV rfl ?_⟩
  (repeat (first | refine wN ?_ | refine wP rfl ?_ | refine cx_r rfl ?_ | refine cx_d (by kernel_rfl) rfl ?_ | refine wO rfl rfl ?_))
  refine VS.ret (cx_ok _ _) rfl rfl (fun wz kz bz => ?_)
  exact ⟨_, rfl, PtRd.mk (q3A.kp (by (with_reducible (repeat (first | assumption | exact kU _ | exact kR _ | refine kT ?_ (by assumption)))))) (q3B.kp (by (with_reducible (repeat (first | assumption | exact kU _ | exact kR _ | refine kT ?_ (by assumption)))))) (q3C.kp (by (with_reducible (repeat (first | assumption | exact kU _ | exact kR _ | refine kT ?_ (by assumption)))))) (q3D.kp (by (with_reducible (repeat (first | assumption | exact kU _ | exact kR _ | refine kT ?_ (by assumption)))))), bz⟩
theorem rexempt_any (v u : Value) (T A : Rat) (j : Nat) (w : World) (hv : RatRd w v T) (hu : RatRd w u A) (hs : RSz T j) (ha : RSz A j) (hj : j ≤ 1000000) :
    Calls Tryz.prog 76 #[v, u] w fun e w' => ∃ r, e = .returned r ∧ PtRd w' r ⟨T, 0, 0, 0⟩ ∧ Beh w w' := by
  obtain ⟨s8, p8, n8, c8, t8, y8, m8, d8, rfl⟩ := hv.form
  obtain ⟨s9, p9, n9, c9, t9, y9, m9, d9, rfl⟩ := hu.form
  have hT : RatIn w (.agg #[.bool s8, .slice p8 n8 c8, .bool t8, .slice y8 m8 d8]) T j := hv.to hs
  have hA : RatIn w (.agg #[.bool s9, .slice p9 n9 c9, .bool t9, .slice y9 m9 d9]) A j := hu.to ha
  refine calm_enter (C := cxOf Tryz.prog w _) (args := [_, _]) Tryz.func76 rfl Tryz.ntmps76 (Nat.le_of_ble_eq_true rfl) ?_
  (repeat (first | refine wN ?_ | refine wP rfl ?_ | refine cx_r rfl ?_ | refine cx_d (by kernel_rfl) rfl ?_ | refine wO rfl rfl ?_))
  refine VO.call rfl rfl (fk Tryz.func45) (fun wa1 ka1 ba1 => (rzero_any wa1).mono ?_)
  rintro e w1 ⟨r1, rfl, q1, hb1⟩
  obtain ⟨s1, p1, n1, c1, t1, y1, m1, d1, rfl⟩ := q1.form
  refine ⟨_, rfl, hb1, fun kb1 _ bb1 => wV rfl ?_⟩
  (repeat (first | refine wN ?_ | refine wP rfl ?_ | refine cx_r rfl ?_ | refine cx_d (by kernel_rfl) rfl ?_ | refine wO rfl rfl ?_))
  refine VO.call rfl rfl (fk Tryz.func77) (fun wa2 ka2 ba2 => (rwith_any _ _ _ _ wa2 (hv.kp (Kp.of (U := UU) ba2)) ((q1.kp (by (with_reducible (repeat (first | assumption | exact kU _ | exact kR _ | refine kT ?_ (by assumption)))))).rd)).mono ?_)
  rintro e w2 ⟨r2, rfl, q2, hb2⟩
  obtain ⟨s2a, p2a, n2a, c2a, t2a, y2a, m2a, d2a, s2b, p2b, n2b, c2b, t2b, y2b, m2b, d2b, s2c, p2c, n2c, c2c, t2c, y2c, m2c, d2c, s2d, p2d, n2d, c2d, t2d, y2d, m2d, d2d, rfl, q2A, q2B, q2C, q2D⟩ := q2
  refine ⟨_, rfl, hb2, fun kb2 _ bb2 => wV rfl ?_⟩
  (repeat (first | refine wN ?_ | refine wP rfl ?_ | refine cx_r rfl ?_ | refine cx_d (by kernel_rfl) rfl ?_ | refine wO rfl rfl ?_))
  refine VS.ret (cx_ok _ _) rfl rfl (fun wz kz bz => ?_)
  exact ⟨_, rfl, PtRd.mk (q2A.kp (by (with_reducible (repeat (first | assumption | exact kU _ | exact kR _ | refine kT ?_ (by assumption)))))) (q2B.kp (by (with_reducible (repeat (first | assumption | exact kU _ | exact kR _ | refine kT ?_ (by assumption)))))) (q2C.kp (by (with_reducible (repeat (first | assumption | exact kU _ | exact kR _ | refine kT ?_ (by assumption)))))) (q2D.kp (by (with_reducible (repeat (first | assumption | exact kU _ | exact kR _ | refine kT ?_ (by assumption)))))), bz⟩
theorem rdenied_any (v u : Value) (T A : Rat) (j : Nat) (w : World) (hv : RatRd w v T) (hu : RatRd w u A) (hs : RSz T j) (ha : RSz A j) (hj : j ≤ 1000000) :
    Calls Tryz.prog 78 #[v, u] w fun e w' => ∃ r, e = .returned r ∧ PtRd w' r ⟨-T, -(T * (1 - A)), 0, 0⟩ ∧ Beh w w' := by
  obtain ⟨s8, p8, n8, c8, t8, y8, m8, d8, rfl⟩ := hv.form
  obtain ⟨s9, p9, n9, c9, t9, y9, m9, d9, rfl⟩ := hu.form
  have hT : RatIn w (.agg #[.bool s8, .slice p8 n8 c8, .bool t8, .slice y8 m8 d8]) T j := hv.to hs
  have hA : RatIn w (.agg #[.bool s9, .slice p9 n9 c9, .bool t9, .slice y9 m9 d9]) A j := hu.to ha
  refine calm_enter (C := cxOf Tryz.prog w _) (args := [_, _]) Tryz.func78 rfl Tryz.ntmps78 (Nat.le_of_ble_eq_true rfl) ?_
  (repeat (first | refine wN ?_ | refine wP rfl ?_ | refine cx_r rfl ?_ | refine cx_d (by kernel_rfl) rfl ?_ | refine wO rfl rfl ?_))
  refine VO.call rfl rfl (fk Tryz.func21) (fun wa1 ka1 ba1 => (ratNeg_any _ _ _ wa1 (hT.kp (Kp.of (U := UU) ba1)) (by omega)).mono ?_)
  rintro e w1 ⟨r1, rfl, q1, hb1⟩
  obtain ⟨s1, p1, n1, c1, t1, y1, m1, d1, rfl⟩ := q1.form
  refine ⟨_, rfl, hb1, fun kb1 _ bb1 => wV rfl ?_⟩
  (repeat (first | refine wN ?_ | refine wP rfl ?_ | refine cx_r rfl ?_ | refine cx_d (by kernel_rfl) rfl ?_ | refine wO rfl rfl ?_))
  refine VO.call rfl rfl (fk Tryz.func23) (fun wa2 ka2 ba2 => (ratWhole_any 1 wa2 (by omega) (by omega)).mono ?_)
  rintro e w2 ⟨r2, rfl, q2, hb2⟩
  obtain ⟨s2, p2, n2, c2, t2, y2, m2, d2, rfl⟩ := q2.form
  refine ⟨_, rfl, hb2, fun kb2 _ bb2 => wV rfl ?_⟩
  (repeat (first | refine wN ?_ | refine wP rfl ?_ | refine cx_r rfl ?_ | refine cx_d (by kernel_rfl) rfl ?_ | refine wO rfl rfl ?_))
  have z2 : RSz ((1 : Int) : Rat) 1 := RSz.one
  refine VO.call rfl rfl (fk Tryz.func47) (fun wa3 ka3 ba3 => (ratSub_any _ _ _ _ 1 j wa3 ((q2.kp (by (with_reducible (repeat (first | assumption | exact kU _ | exact kR _ | refine kT ?_ (by assumption)))))).in z2) (hA.kp (Kp.of (U := UU) ba3)) (by omega) (by omega)).mono ?_)
  rintro e w3 ⟨r3, rfl, q3, hb3⟩
  obtain ⟨s3, p3, n3, c3, t3, y3, m3, d3, rfl⟩ := q3.form
  refine ⟨_, rfl, hb3, fun kb3 _ bb3 => wV rfl ?_⟩
  (repeat (first | refine wN ?_ | refine wP rfl ?_ | refine cx_r rfl ?_ | refine cx_d (by kernel_rfl) rfl ?_ | refine wO rfl rfl ?_))
  have z3 : RSz (((1 : Int) : Rat) - A) (1 + j + 1) := z2.sub ha
  refine VO.call rfl rfl (fk Tryz.func79) (fun wa4 ka4 ba4 => (ratMul_any _ _ _ _ j (1 + j + 1) wa4 (hT.kp (Kp.of (U := UU) ba4)) ((q3.kp (by (with_reducible (repeat (first | assumption | exact kU _ | exact kR _ | refine kT ?_ (by assumption)))))).in z3) (by omega) (by omega)).mono ?_)
  rintro e w4 ⟨r4, rfl, q4, hb4⟩
  obtain ⟨s4, p4, n4, c4, t4, y4, m4, d4, rfl⟩ := q4.form
  refine ⟨_, rfl, hb4, fun kb4 _ bb4 => wV rfl ?_⟩
  (repeat (first | refine wN ?_ | refine wP rfl ?_ | refine cx_r rfl ?_ | refine cx_d (by kernel_rfl) rfl ?_ | refine wO rfl rfl ?_))
  have z4 : RSz (T * (((1 : Int) : Rat) - A)) (j + (1 + j + 1)) := hs.mul z3
  refine VO.call rfl rfl (fk Tryz.func21) (fun wa5 ka5 ba5 => (ratNeg_any _ _ (j + (1 + j + 1)) wa5 ((q4.kp (by (with_reducible (repeat (first | assumption | exact kU _ | exact kR _ | refine kT ?_ (by assumption)))))).in z4) (by omega)).mono ?_)
  rintro e w5 ⟨r5, rfl, q5, hb5⟩
  obtain ⟨s5, p5, n5, c5, t5, y5, m5, d5, rfl⟩ := q5.form
  refine ⟨_, rfl, hb5, fun kb5 _ bb5 => wV rfl ?_⟩
  (repeat (first | refine wN ?_ | refine wP rfl ?_ | refine cx_r rfl ?_ | refine cx_d (by kernel_rfl) rfl ?_ | refine wO rfl rfl ?_))
  refine VO.call rfl rfl (fk Tryz.func77) (fun wa6 ka6 ba6 => (rwith_any _ _ _ _ wa6 ((q1.kp (by (with_reducible (repeat (first | assumption | exact kU _ | exact kR _ | refine kT ?_ (by assumption)))))).rd) ((q5.kp (by (with_reducible (repeat (first | assumption | exact kU _ | exact kR _ | refine kT ?_ (by assumption)))))).rd)).mono ?_)
  rintro e w6 ⟨r6, rfl, q6, hb6⟩
  obtain ⟨s6a, p6a, n6a, c6a, t6a, y6a, m6a, d6a, s6b, p6b, n6b, c6b, t6b, y6b, m6b, d6b, s6c, p6c, n6c, c6c, t6c, y6c, m6c, d6c, s6d, p6d, n6d, c6d, t6d, y6d, m6d, d6d, rfl, q6A, q6B, q6C, q6D⟩ := q6
  refine ⟨_, rfl, hb6, fun kb6 _ bb6 => wV rfl ?_⟩
  (repeat (first | refine wN ?_ | refine wP rfl ?_ | refine cx_r rfl ?_ | refine cx_d (by kernel_rfl) rfl ?_ | refine wO rfl rfl ?_))
  refine VS.ret (cx_ok _ _) rfl rfl (fun wz kz bz => ?_)
  exact ⟨_, rfl, PtRd.cast (PtRd.mk (q6A.kp (by (with_reducible (repeat (first | assumption | exact kU _ | exact kR _ | refine kT ?_ (by assumption)))))) (q6B.kp (by (with_reducible (repeat (first | assumption | exact kU _ | exact kR _ | refine kT ?_ (by assumption)))))) (q6C.kp (by (with_reducible (repeat (first | assumption | exact kU _ | exact kR _ | refine kT ?_ (by assumption)))))) (q6D.kp (by (with_reducible (repeat (first | assumption | exact kU _ | exact kR _ | refine kT ?_ (by assumption))))))) rfl, bz⟩
theorem rcapped_any (v u : Value) (T A : Rat) (j : Nat) (w : World) (hv : RatRd w v T) (hu : RatRd w u A) (hs : RSz T j) (ha : RSz A j) (hj : j ≤ 1000000) :
    Calls Tryz.prog 80 #[v, u] w fun e w' => ∃ r, e = .returned r ∧ PtRd w' r ⟨-T, -(rbest rless T [A]), 0, 0⟩ ∧ Beh w w' := by
  obtain ⟨s8, p8, n8, c8, t8, y8, m8, d8, rfl⟩ := hv.form
  obtain ⟨s9, p9, n9, c9, t9, y9, m9, d9, rfl⟩ := hu.form
  have hT : RatIn w (.agg #[.bool s8, .slice p8 n8 c8, .bool t8, .slice y8 m8 d8]) T j := hv.to hs
  have hA : RatIn w (.agg #[.bool s9, .slice p9 n9 c9, .bool t9, .slice y9 m9 d9]) A j := hu.to ha
  refine calm_enter (C := cxOf Tryz.prog w _) (args := [_, _]) Tryz.func80 rfl Tryz.ntmps80 (Nat.le_of_ble_eq_true rfl) ?_
  (repeat (first | refine wN ?_ | refine wP rfl ?_ | refine cx_r rfl ?_ | refine cx_d (by kernel_rfl) rfl ?_ | refine wO rfl rfl ?_))
  refine VO.call rfl rfl (fk Tryz.func21) (fun wa1 ka1 ba1 => (ratNeg_any _ _ _ wa1 (hT.kp (Kp.of (U := UU) ba1)) (by omega)).mono ?_)
  rintro e w1 ⟨r1, rfl, q1, hb1⟩
  obtain ⟨s1, p1, n1, c1, t1, y1, m1, d1, rfl⟩ := q1.form
  refine ⟨_, rfl, hb1, fun kb1 _ bb1 => wV rfl ?_⟩
  (repeat (first | refine wN ?_ | refine wP rfl ?_ | refine cx_r rfl ?_ | refine cx_d (by kernel_rfl) rfl ?_ | refine wO rfl rfl ?_))
  refine VO.callF rfl (fk Tryz.func22) (fun wa2 β ka2 ba2 ho => (ratMin_any _ _ T [A] j wa2 (hT.kp (Kp.of (U := UU) ba2)) (ownV_rats (ho.own 9 (.base (List.mem_singleton.2 rfl)) _ _ rfl) [] (vs := [[.bool s9, .slice p9 n9 c9, .bool t9, .slice y9 m9 d9]]) (by rfl) rfl (RatRow.cons (hA.kp (Kp.of (U := UU) ba2)) RatRow.nil) (Nat.le_of_ble_eq_true rfl) (by decide)) (by omega) (Nat.le_of_ble_eq_true rfl)).mono ?_)
  rintro e w2 ⟨r2, rfl, q2, z2, hb2⟩
  obtain ⟨s2, p2, n2, c2, t2, y2, m2, d2, rfl⟩ := q2.form
  refine ⟨_, rfl, hb2, fun kb2 _ bb2 => wV rfl ?_⟩
  (repeat (first | refine wN ?_ | refine wP rfl ?_ | refine cx_r rfl ?_ | refine cx_d (by kernel_rfl) rfl ?_ | refine wO rfl rfl ?_))
  have z2' : RSz (rbest rless T [A]) j := by
    have e : rbest rless T [A] = if rless A T = true then A else T := rfl
    rw [e]; split <;> assumption
  refine VO.call rfl rfl (fk Tryz.func21) (fun wa3 ka3 ba3 => (ratNeg_any _ _ j wa3 ((q2.kp (by (with_reducible (repeat (first | assumption | exact kU _ | exact kR _ | refine kT ?_ (by assumption)))))).in z2') (by omega)).mono ?_)
  rintro e w3 ⟨r3, rfl, q3, hb3⟩
  obtain ⟨s3, p3, n3, c3, t3, y3, m3, d3, rfl⟩ := q3.form
  refine ⟨_, rfl, hb3, fun kb3 _ bb3 => wV rfl ?_⟩
  (repeat (first | refine wN ?_ | refine wP rfl ?_ | refine cx_r rfl ?_ | refine cx_d (by kernel_rfl) rfl ?_ | refine wO rfl rfl ?_))
  refine VO.call rfl rfl (fk Tryz.func77) (fun wa4 ka4 ba4 => (rwith_any _ _ _ _ wa4 ((q1.kp (by (with_reducible (repeat (first | assumption | exact kU _ | exact kR _ | refine kT ?_ (by assumption)))))).rd) ((q3.kp (by (with_reducible (repeat (first | assumption | exact kU _ | exact kR _ | refine kT ?_ (by assumption)))))).rd)).mono ?_)
  rintro e w4 ⟨r4, rfl, q4, hb4⟩
  obtain ⟨s4a, p4a, n4a, c4a, t4a, y4a, m4a, d4a, s4b, p4b, n4b, c4b, t4b, y4b, m4b, d4b, s4c, p4c, n4c, c4c, t4c, y4c, m4c, d4c, s4d, p4d, n4d, c4d, t4d, y4d, m4d, d4d, rfl, q4A, q4B, q4C, q4D⟩ := q4
  refine ⟨_, rfl, hb4, fun kb4 _ bb4 => wV rfl ?_⟩
  (repeat (first | refine wN ?_ | refine wP rfl ?_ | refine cx_r rfl ?_ | refine cx_d (by kernel_rfl) rfl ?_ | refine wO rfl rfl ?_))
  refine VS.ret (cx_ok _ _) rfl rfl (fun wz kz bz => ?_)
  exact ⟨_, rfl, PtRd.mk (q4A.kp (by (with_reducible (repeat (first | assumption | exact kU _ | exact kR _ | refine kT ?_ (by assumption)))))) (q4B.kp (by (with_reducible (repeat (first | assumption | exact kU _ | exact kR _ | refine kT ?_ (by assumption)))))) (q4C.kp (by (with_reducible (repeat (first | assumption | exact kU _ | exact kR _ | refine kT ?_ (by assumption)))))) (q4D.kp (by (with_reducible (repeat (first | assumption | exact kU _ | exact kR _ | refine kT ?_ (by assumption)))))), bz⟩
theorem rdep_any (v u : Value) (T A : Rat) (j : Nat) (w : World) (hv : RatRd w v T) (hu : RatRd w u A) (hs : RSz T j) (ha : RSz A j) (hj : j ≤ 1000000) :
    Calls Tryz.prog 81 #[v, u] w fun e w' => ∃ r, e = .returned r ∧ PtRd w' r ⟨-T, -T, T, 0⟩ ∧ Beh w w' := by
  obtain ⟨s8, p8, n8, c8, t8, y8, m8, d8, rfl⟩ := hv.form
  obtain ⟨s9, p9, n9, c9, t9, y9, m9, d9, rfl⟩ := hu.form
  have hT : RatIn w (.agg #[.bool s8, .slice p8 n8 c8, .bool t8, .slice y8 m8 d8]) T j := hv.to hs
  have hA : RatIn w (.agg #[.bool s9, .slice p9 n9 c9, .bool t9, .slice y9 m9 d9]) A j := hu.to ha
  refine calm_enter (C := cxOf Tryz.prog w _) (args := [_, _]) Tryz.func81 rfl Tryz.ntmps81 (Nat.le_of_ble_eq_true rfl) ?_
  (repeat (first | refine wN ?_ | refine wP rfl ?_ | refine cx_r rfl ?_ | refine cx_d (by kernel_rfl) rfl ?_ | refine wO rfl rfl ?_))
  refine VO.call rfl rfl (fk Tryz.func74) (fun wa1 ka1 ba1 => (rspent_any _ _ _ _ j wa1 (hv.kp (Kp.of (U := UU) ba1)) (hu.kp (Kp.of (U := UU) ba1)) hs ha hj).mono ?_)
  rintro e w1 ⟨r1, rfl, q1, hb1⟩
  obtain ⟨s1a, p1a, n1a, c1a, t1a, y1a, m1a, d1a, s1b, p1b, n1b, c1b, t1b, y1b, m1b, d1b, s1c, p1c, n1c, c1c, t1c, y1c, m1c, d1c, s1d, p1d, n1d, c1d, t1d, y1d, m1d, d1d, rfl, q1A, q1B, q1C, q1D⟩ := q1
  refine ⟨_, rfl, hb1, fun kb1 _ bb1 => wV rfl ?_⟩
  (repeat (first | refine wN ?_ | refine wP rfl ?_ | refine cx_r rfl ?_ | refine cx_d (by kernel_rfl) rfl ?_ | refine wO rfl rfl ?_))
  refine VS.ret (cx_ok _ _) rfl rfl (fun wz kz bz => ?_)
  exact ⟨_, rfl, PtRd.mk (q1A.kp (by (with_reducible (repeat (first | assumption | exact kU _ | exact kR _ | refine kT ?_ (by assumption)))))) (q1B.kp (by (with_reducible (repeat (first | assumption | exact kU _ | exact kR _ | refine kT ?_ (by assumption)))))) (hv.kp (Kp.of (U := UU) bz)) (q1D.kp (by (with_reducible (repeat (first | assumption | exact kU _ | exact kR _ | refine kT ?_ (by assumption)))))), bz⟩
theorem rintin_any (v u : Value) (T A : Rat) (j : Nat) (w : World) (hv : RatRd w v T) (hu : RatRd w u A) (hs : RSz T j) (ha : RSz A j) (hj : j ≤ 1000000) :
    Calls Tryz.prog 82 #[v, u] w fun e w' => ∃ r, e = .returned r ∧ PtRd w' r ⟨T, 0, 0, -T⟩ ∧ Beh w w' := by
  obtain ⟨s8, p8, n8, c8, t8, y8, m8, d8, rfl⟩ := hv.form
  obtain ⟨s9, p9, n9, c9, t9, y9, m9, d9, rfl⟩ := hu.form
  have hT : RatIn w (.agg #[.bool s8, .slice p8 n8 c8, .bool t8, .slice y8 m8 d8]) T j := hv.to hs
  have hA : RatIn w (.agg #[.bool s9, .slice p9 n9 c9, .bool t9, .slice y9 m9 d9]) A j := hu.to ha
  refine calm_enter (C := cxOf Tryz.prog w _) (args := [_, _]) Tryz.func82 rfl Tryz.ntmps82 (Nat.le_of_ble_eq_true rfl) ?_
  (repeat (first | refine wN ?_ | refine wP rfl ?_ | refine cx_r rfl ?_ | refine cx_d (by kernel_rfl) rfl ?_ | refine wO rfl rfl ?_))
  refine VO.call rfl rfl (fk Tryz.func45) (fun wa1 ka1 ba1 => (rzero_any wa1).mono ?_)
  rintro e w1 ⟨r1, rfl, q1, hb1⟩
  obtain ⟨s1, p1, n1, c1, t1, y1, m1, d1, rfl⟩ := q1.form
  refine ⟨_, rfl, hb1, fun kb1 _ bb1 => wV rfl ?_⟩
  (repeat (first | refine wN ?_ | refine wP rfl ?_ | refine cx_r rfl ?_ | refine cx_d (by kernel_rfl) rfl ?_ | refine wO rfl rfl ?_))
  refine VO.call rfl rfl (fk Tryz.func77) (fun wa2 ka2 ba2 => (rwith_any _ _ _ _ wa2 (hv.kp (Kp.of (U := UU) ba2)) ((q1.kp (by (with_reducible (repeat (first | assumption | exact kU _ | exact kR _ | refine kT ?_ (by assumption)))))).rd)).mono ?_)
  rintro e w2 ⟨r2, rfl, q2, hb2⟩
  obtain ⟨s2a, p2a, n2a, c2a, t2a, y2a, m2a, d2a, s2b, p2b, n2b, c2b, t2b, y2b, m2b, d2b, s2c, p2c, n2c, c2c, t2c, y2c, m2c, d2c, s2d, p2d, n2d, c2d, t2d, y2d, m2d, d2d, rfl, q2A, q2B, q2C, q2D⟩ := q2
  refine ⟨_, rfl, hb2, fun kb2 _ bb2 => wV rfl ?_⟩
  (repeat (first | refine wN ?_ | refine wP rfl ?_ | refine cx_r rfl ?_ | refine cx_d (by kernel_rfl) rfl ?_ | refine wO rfl rfl ?_))
  refine VO.call rfl rfl (fk Tryz.func21) (fun wa3 ka3 ba3 => (ratNeg_any _ _ _ wa3 (hT.kp (Kp.of (U := UU) ba3)) (by omega)).mono ?_)
  rintro e w3 ⟨r3, rfl, q3, hb3⟩
  obtain ⟨s3, p3, n3, c3, t3, y3, m3, d3, rfl⟩ := q3.form
  refine ⟨_, rfl, hb3, fun kb3 _ bb3 => wV rfl ?_⟩
  (repeat (first | refine wN ?_ | refine wP rfl ?_ | refine cx_r rfl ?_ | refine cx_d (by kernel_rfl) rfl ?_ | refine wO rfl rfl ?_))
  refine VS.ret (cx_ok _ _) rfl rfl (fun wz kz bz => ?_)
  exact ⟨_, rfl, PtRd.mk (q2A.kp (by (with_reducible (repeat (first | assumption | exact kU _ | exact kR _ | refine kT ?_ (by assumption)))))) (q2B.kp (by (with_reducible (repeat (first | assumption | exact kU _ | exact kR _ | refine kT ?_ (by assumption)))))) (q2C.kp (by (with_reducible (repeat (first | assumption | exact kU _ | exact kR _ | refine kT ?_ (by assumption)))))) (q3.kp (by (with_reducible (repeat (first | assumption | exact kU _ | exact kR _ | refine kT ?_ (by assumption)))))).rd, bz⟩
theorem rintout_any (v u : Value) (T A : Rat) (j : Nat) (w : World) (hv : RatRd w v T) (hu : RatRd w u A) (hs : RSz T j) (ha : RSz A j) (hj : j ≤ 1000000) :
    Calls Tryz.prog 83 #[v, u] w fun e w' => ∃ r, e = .returned r ∧ PtRd w' r ⟨-T, 0, 0, T⟩ ∧ Beh w w' := by
  obtain ⟨s8, p8, n8, c8, t8, y8, m8, d8, rfl⟩ := hv.form
  obtain ⟨s9, p9, n9, c9, t9, y9, m9, d9, rfl⟩ := hu.form
  have hT : RatIn w (.agg #[.bool s8, .slice p8 n8 c8, .bool t8, .slice y8 m8 d8]) T j := hv.to hs
  have hA : RatIn w (.agg #[.bool s9, .slice p9 n9 c9, .bool t9, .slice y9 m9 d9]) A j := hu.to ha
  refine calm_enter (C := cxOf Tryz.prog w _) (args := [_, _]) Tryz.func83 rfl Tryz.ntmps83 (Nat.le_of_ble_eq_true rfl) ?_
  (repeat (first | refine wN ?_ | refine wP rfl ?_ | refine cx_r rfl ?_ | refine cx_d (by kernel_rfl) rfl ?_ | refine wO rfl rfl ?_))
  refine VO.call rfl rfl (fk Tryz.func75) (fun wa1 ka1 ba1 => (rbooked_any _ _ _ _ j wa1 (hv.kp (Kp.of (U := UU) ba1)) (hu.kp (Kp.of (U := UU) ba1)) hs ha hj).mono ?_)
  rintro e w1 ⟨r1, rfl, q1, hb1⟩
  obtain ⟨s1a, p1a, n1a, c1a, t1a, y1a, m1a, d1a, s1b, p1b, n1b, c1b, t1b, y1b, m1b, d1b, s1c, p1c, n1c, c1c, t1c, y1c, m1c, d1c, s1d, p1d, n1d, c1d, t1d, y1d, m1d, d1d, rfl, q1A, q1B, q1C, q1D⟩ := q1
  refine ⟨_, rfl, hb1, fun kb1 _ bb1 => wV rfl ?_⟩
  (repeat (first | refine wN ?_ | refine wP rfl ?_ | refine cx_r rfl ?_ | refine cx_d (by kernel_rfl) rfl ?_ | refine wO rfl rfl ?_))
  refine VS.ret (cx_ok _ _) rfl rfl (fun wz kz bz => ?_)
  exact ⟨_, rfl, PtRd.mk (q1A.kp (by (with_reducible (repeat (first | assumption | exact kU _ | exact kR _ | refine kT ?_ (by assumption)))))) (q1B.kp (by (with_reducible (repeat (first | assumption | exact kU _ | exact kR _ | refine kT ?_ (by assumption)))))) (q1C.kp (by (with_reducible (repeat (first | assumption | exact kU _ | exact kR _ | refine kT ?_ (by assumption)))))) (hv.kp (Kp.of (U := UU) bz)), bz⟩
end Go.Proofs.YtgffhmpnkfejbaaGreat
