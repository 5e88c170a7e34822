/- What whole and works of the statements about rounding compute. -/
import Derived.Test.YtkafabgcdlfhiaaLaw05A
import Derived.Test.YtkafabgcdlfhiaaPlaces
import Derived.Test.YtkafabgcdlfhiaaInt64
set_option linter.all false
namespace Go.Proofs.Ytkafabgcdlfhiaa
open Go.RowKit
attribute [local irreducible] vcOps VS

theorem whole05_ok (v : Value) (X n : Int) (k : Nat) (w : World) (hv : IntIn w v X k) (hX : X = n) (hn : n.natAbs < 4294967296) :
    Calls Try.prog 30 #[v, .int .i64 n] w fun e w' => e = .returned (.bool true) ∧ Beh w w' := by
  subst hX
  obtain ⟨s, p, m, c, rfl⟩ := hv.form
  refine calm_enter (C := cxOf Try.prog w _) (args := [_, _]) Try.func30 rfl Try.ntmps30 (Nat.le_of_ble_eq_true rfl) ?_
  (repeat (first | refine wN ?_ | refine wP rfl ?_ | refine cx_r rfl ?_ | refine cx_d (by kernel_rfl) rfl ?_ | refine wO rfl rfl ?_))
  refine VO.call rfl rfl (fk Try.func59) (fun wa1 ka1 ba1 => (bInt64_any _ X k wa1 hv.k hn).mono ?_)
  rintro e w1 ⟨rfl, hb1⟩
  skip
  refine ⟨_, rfl, hb1, fun kb1 _ bb1 => wV rfl ?_⟩
  (repeat (first | refine wN ?_ | refine wP rfl ?_ | refine cx_r rfl ?_ | refine cx_d (by kernel_rfl) rfl ?_ | refine wO rfl rfl ?_))
  refine VS.ret (cx_ok _ _) rfl rfl (fun wz kz bz => ?_)
  exact ⟨congrArg (fun b => Ending.returned (.bool b)) (by simp), bz⟩
theorem rdPlaces_ok (v : Value) (q : Rat) (k : Nat) (n : Int) (w : World) (hv : RatIn w v q k) (hk : k ≤ 1000000) (c : Int) (hc : pcode n = c) :
    Calls Try.prog 29 #[v, .int .i64 n] w fun e w' => ∃ r, e = .returned (.tuple #[r, .int .i64 c]) ∧ IntOwn w' w.heap.size r (plc q n) ∧ Beh w w' := hc ▸ rdPlaces_any v q k n w hv hk
set_option maxRecDepth 4000 in
set_option maxHeartbeats 4000000 in
theorem works05_any (w : World) : Calls Try.prog 6 #[] w fun e w' => e = .returned (.bool true) ∧ Beh w w' := by
  refine calm_enter (C := cxOf Try.prog w _) (args := []) Try.func6 rfl Try.ntmps6 (Nat.le_of_ble_eq_true rfl) ?_
  (repeat (first | refine wN ?_ | refine wP rfl ?_ | refine cx_r rfl ?_ | refine cx_d (by kernel_rfl) rfl ?_ | refine wO rfl rfl ?_))
  refine VO.call rfl rfl (fk Try.func14) (fun wa1 ka1 ba1 => (of05_any (2) (3) wa1 (by omega) (by omega) (by omega) (by omega)).mono ?_)
  rintro e w1 ⟨r1, rfl, q1, hb1⟩
  obtain ⟨s1, p1, n1, c1, t1, y1, m1, d1, rfl⟩ := q1.form
  refine ⟨_, rfl, hb1, fun kb1 _ bb1 => wV rfl ?_⟩
  (repeat (first | refine wN ?_ | refine wP rfl ?_ | refine cx_r rfl ?_ | refine cx_d (by kernel_rfl) rfl ?_ | refine wO rfl rfl ?_))
  refine VO.call rfl rfl (fk Try.func29) (fun wa2 ka2 ba2 => (rdPlaces_ok _ (Rat.divInt (2) (3)) 2 3 wa2 (q1.ki (i64_rsz (by omega) (by omega) (by omega) (by omega))) (by omega) 0 (by decide)).mono ?_)
  rintro e w2 ⟨r2, rfl, q2, hb2⟩
  obtain ⟨s2, p2, n2, c2, rfl⟩ := q2.form
  refine ⟨_, rfl, hb2, fun kb2 _ bb2 => wV rfl ?_⟩
  (repeat (first | refine wN ?_ | refine wP rfl ?_ | refine cx_r rfl ?_ | refine cx_d (by kernel_rfl) rfl ?_ | refine wO rfl rfl ?_))
  refine VO.call rfl rfl (fk Try.func14) (fun wa3 ka3 ba3 => (of05_any (1) (1) wa3 (by omega) (by omega) (by omega) (by omega)).mono ?_)
  rintro e w3 ⟨r3, rfl, q3, hb3⟩
  obtain ⟨s3, p3, n3, c3, t3, y3, m3, d3, rfl⟩ := q3.form
  refine ⟨_, rfl, hb3, fun kb3 _ bb3 => wV rfl ?_⟩
  (repeat (first | refine wN ?_ | refine wP rfl ?_ | refine cx_r rfl ?_ | refine cx_d (by kernel_rfl) rfl ?_ | refine wO rfl rfl ?_))
  refine VO.call rfl rfl (fk Try.func29) (fun wa4 ka4 ba4 => (rdPlaces_ok _ (Rat.divInt (1) (1)) 2 (-1) wa4 (q3.ki (i64_rsz (by omega) (by omega) (by omega) (by omega))) (by omega) 2 (by decide)).mono ?_)
  rintro e w4 ⟨r4, rfl, q4, hb4⟩
  obtain ⟨s4, p4, n4, c4, rfl⟩ := q4.form
  refine ⟨_, rfl, hb4, fun kb4 _ bb4 => wV rfl ?_⟩
  (repeat (first | refine wN ?_ | refine wP rfl ?_ | refine cx_r rfl ?_ | refine cx_d (by kernel_rfl) rfl ?_ | refine wO rfl rfl ?_))
  refine VO.call rfl rfl (fk Try.func14) (fun wa5 ka5 ba5 => (of05_any (-7) (2) wa5 (by omega) (by omega) (by omega) (by omega)).mono ?_)
  rintro e w5 ⟨r5, rfl, q5, hb5⟩
  obtain ⟨s5, p5, n5, c5, t5, y5, m5, d5, rfl⟩ := q5.form
  refine ⟨_, rfl, hb5, fun kb5 _ bb5 => wV rfl ?_⟩
  (repeat (first | refine wN ?_ | refine wP rfl ?_ | refine cx_r rfl ?_ | refine cx_d (by kernel_rfl) rfl ?_ | refine wO rfl rfl ?_))
  refine VO.call rfl rfl (fk Try.func11) (fun wa6 ka6 ba6 => (rdFloor_any _ (Rat.divInt (-7) (2)) 2 wa6 (q5.ki (i64_rsz (by omega) (by omega) (by omega) (by omega))) (by omega)).mono ?_)
  rintro e w6 ⟨r6, rfl, q6, hb6⟩
  obtain ⟨s6, p6, n6, c6, rfl⟩ := q6.form
  refine ⟨_, rfl, hb6, fun kb6 _ bb6 => wV rfl ?_⟩
  (repeat (first | refine wN ?_ | refine wP rfl ?_ | refine cx_r rfl ?_ | refine cx_d (by kernel_rfl) rfl ?_ | refine wO rfl rfl ?_))
  refine VO.call rfl rfl (fk Try.func30) (fun wa7 ka7 ba7 => (whole05_ok _ ((Rat.divInt (-7) (2)).floor) (-4) 1 wa7 (q6.ki (Sz.small (by decide +kernel))) (by decide +kernel) (by decide)).mono ?_)
  rintro e w7 ⟨rfl, hb7⟩
  skip
  refine ⟨_, rfl, hb7, fun kb7 _ bb7 => wV rfl ?_⟩
  (repeat (first | refine wN ?_ | refine wP rfl ?_ | refine cx_r rfl ?_ | refine cx_d (by kernel_rfl) rfl ?_ | refine wO rfl rfl ?_))
  refine VO.call rfl rfl (fk Try.func14) (fun wa8 ka8 ba8 => (of05_any (-7) (2) wa8 (by omega) (by omega) (by omega) (by omega)).mono ?_)
  rintro e w8 ⟨r8, rfl, q8, hb8⟩
  obtain ⟨s8, p8, n8, c8, t8, y8, m8, d8, rfl⟩ := q8.form
  refine ⟨_, rfl, hb8, fun kb8 _ bb8 => wV rfl ?_⟩
  (repeat (first | refine wN ?_ | refine wP rfl ?_ | refine cx_r rfl ?_ | refine cx_d (by kernel_rfl) rfl ?_ | refine wO rfl rfl ?_))
  refine VO.call rfl rfl (fk Try.func21) (fun wa9 ka9 ba9 => (rdCeil_any _ (Rat.divInt (-7) (2)) 2 wa9 (q8.ki (i64_rsz (by omega) (by omega) (by omega) (by omega))) (by omega)).mono ?_)
  rintro e w9 ⟨r9, rfl, q9, hb9⟩
  obtain ⟨s9, p9, n9, c9, rfl⟩ := q9.form
  refine ⟨_, rfl, hb9, fun kb9 _ bb9 => wV rfl ?_⟩
  (repeat (first | refine wN ?_ | refine wP rfl ?_ | refine cx_r rfl ?_ | refine cx_d (by kernel_rfl) rfl ?_ | refine wO rfl rfl ?_))
  refine VO.call rfl rfl (fk Try.func30) (fun wa10 ka10 ba10 => (whole05_ok _ (cl (Rat.divInt (-7) (2))) (-3) 1 wa10 (q9.ki (Sz.small (by decide +kernel))) (by decide +kernel) (by decide)).mono ?_)
  rintro e w10 ⟨rfl, hb10⟩
  skip
  refine ⟨_, rfl, hb10, fun kb10 _ bb10 => wV rfl ?_⟩
  (repeat (first | refine wN ?_ | refine wP rfl ?_ | refine cx_r rfl ?_ | refine cx_d (by kernel_rfl) rfl ?_ | refine wO rfl rfl ?_))
  refine VO.call rfl rfl (fk Try.func14) (fun wa11 ka11 ba11 => (of05_any (-7) (2) wa11 (by omega) (by omega) (by omega) (by omega)).mono ?_)
  rintro e w11 ⟨r11, rfl, q11, hb11⟩
  obtain ⟨s11, p11, n11, c11, t11, y11, m11, d11, rfl⟩ := q11.form
  refine ⟨_, rfl, hb11, fun kb11 _ bb11 => wV rfl ?_⟩
  (repeat (first | refine wN ?_ | refine wP rfl ?_ | refine cx_r rfl ?_ | refine cx_d (by kernel_rfl) rfl ?_ | refine wO rfl rfl ?_))
  refine VO.call rfl rfl (fk Try.func22) (fun wa12 ka12 ba12 => (rdTrunc_any _ (Rat.divInt (-7) (2)) 2 wa12 (q11.ki (i64_rsz (by omega) (by omega) (by omega) (by omega))) (by omega)).mono ?_)
  rintro e w12 ⟨r12, rfl, q12, hb12⟩
  obtain ⟨s12, p12, n12, c12, rfl⟩ := q12.form
  refine ⟨_, rfl, hb12, fun kb12 _ bb12 => wV rfl ?_⟩
  (repeat (first | refine wN ?_ | refine wP rfl ?_ | refine cx_r rfl ?_ | refine cx_d (by kernel_rfl) rfl ?_ | refine wO rfl rfl ?_))
  refine VO.call rfl rfl (fk Try.func30) (fun wa13 ka13 ba13 => (whole05_ok _ (tr (Rat.divInt (-7) (2))) (-3) 1 wa13 (q12.ki (Sz.small (by decide +kernel))) (by decide +kernel) (by decide)).mono ?_)
  rintro e w13 ⟨rfl, hb13⟩
  skip
  refine ⟨_, rfl, hb13, fun kb13 _ bb13 => wV rfl ?_⟩
  (repeat (first | refine wN ?_ | refine wP rfl ?_ | refine cx_r rfl ?_ | refine cx_d (by kernel_rfl) rfl ?_ | refine wO rfl rfl ?_))
  refine VO.call rfl rfl (fk Try.func14) (fun wa14 ka14 ba14 => (of05_any (-7) (2) wa14 (by omega) (by omega) (by omega) (by omega)).mono ?_)
  rintro e w14 ⟨r14, rfl, q14, hb14⟩
  obtain ⟨s14, p14, n14, c14, t14, y14, m14, d14, rfl⟩ := q14.form
  refine ⟨_, rfl, hb14, fun kb14 _ bb14 => wV rfl ?_⟩
  (repeat (first | refine wN ?_ | refine wP rfl ?_ | refine cx_r rfl ?_ | refine cx_d (by kernel_rfl) rfl ?_ | refine wO rfl rfl ?_))
  refine VO.call rfl rfl (fk Try.func15) (fun wa15 ka15 ba15 => (rdHalf_any _ (Rat.divInt (-7) (2)) 2 wa15 (q14.ki (i64_rsz (by omega) (by omega) (by omega) (by omega))) (by omega)).mono ?_)
  rintro e w15 ⟨r15, rfl, q15, hb15⟩
  obtain ⟨s15, p15, n15, c15, rfl⟩ := q15.form
  refine ⟨_, rfl, hb15, fun kb15 _ bb15 => wV rfl ?_⟩
  (repeat (first | refine wN ?_ | refine wP rfl ?_ | refine cx_r rfl ?_ | refine cx_d (by kernel_rfl) rfl ?_ | refine wO rfl rfl ?_))
  refine VO.call rfl rfl (fk Try.func30) (fun wa16 ka16 ba16 => (whole05_ok _ (hf (Rat.divInt (-7) (2))) (-4) 1 wa16 (q15.ki (Sz.small (by decide +kernel))) (by decide +kernel) (by decide)).mono ?_)
  rintro e w16 ⟨rfl, hb16⟩
  skip
  refine ⟨_, rfl, hb16, fun kb16 _ bb16 => wV rfl ?_⟩
  (repeat (first | refine wN ?_ | refine wP rfl ?_ | refine cx_r rfl ?_ | refine cx_d (by kernel_rfl) rfl ?_ | refine wO rfl rfl ?_))
  refine VO.call rfl rfl (fk Try.func14) (fun wa17 ka17 ba17 => (of05_any (5) (2) wa17 (by omega) (by omega) (by omega) (by omega)).mono ?_)
  rintro e w17 ⟨r17, rfl, q17, hb17⟩
  obtain ⟨s17, p17, n17, c17, t17, y17, m17, d17, rfl⟩ := q17.form
  refine ⟨_, rfl, hb17, fun kb17 _ bb17 => wV rfl ?_⟩
  (repeat (first | refine wN ?_ | refine wP rfl ?_ | refine cx_r rfl ?_ | refine cx_d (by kernel_rfl) rfl ?_ | refine wO rfl rfl ?_))
  refine VO.call rfl rfl (fk Try.func15) (fun wa18 ka18 ba18 => (rdHalf_any _ (Rat.divInt (5) (2)) 2 wa18 (q17.ki (i64_rsz (by omega) (by omega) (by omega) (by omega))) (by omega)).mono ?_)
  rintro e w18 ⟨r18, rfl, q18, hb18⟩
  obtain ⟨s18, p18, n18, c18, rfl⟩ := q18.form
  refine ⟨_, rfl, hb18, fun kb18 _ bb18 => wV rfl ?_⟩
  (repeat (first | refine wN ?_ | refine wP rfl ?_ | refine cx_r rfl ?_ | refine cx_d (by kernel_rfl) rfl ?_ | refine wO rfl rfl ?_))
  refine VO.call rfl rfl (fk Try.func30) (fun wa19 ka19 ba19 => (whole05_ok _ (hf (Rat.divInt (5) (2))) (2) 1 wa19 (q18.ki (Sz.small (by decide +kernel))) (by decide +kernel) (by decide)).mono ?_)
  rintro e w19 ⟨rfl, hb19⟩
  skip
  refine ⟨_, rfl, hb19, fun kb19 _ bb19 => wV rfl ?_⟩
  (repeat (first | refine wN ?_ | refine wP rfl ?_ | refine cx_r rfl ?_ | refine cx_d (by kernel_rfl) rfl ?_ | refine wO rfl rfl ?_))
  refine VO.call rfl rfl (fk Try.func14) (fun wa20 ka20 ba20 => (of05_any (7) (2) wa20 (by omega) (by omega) (by omega) (by omega)).mono ?_)
  rintro e w20 ⟨r20, rfl, q20, hb20⟩
  obtain ⟨s20, p20, n20, c20, t20, y20, m20, d20, rfl⟩ := q20.form
  refine ⟨_, rfl, hb20, fun kb20 _ bb20 => wV rfl ?_⟩
  (repeat (first | refine wN ?_ | refine wP rfl ?_ | refine cx_r rfl ?_ | refine cx_d (by kernel_rfl) rfl ?_ | refine wO rfl rfl ?_))
  refine VO.call rfl rfl (fk Try.func15) (fun wa21 ka21 ba21 => (rdHalf_any _ (Rat.divInt (7) (2)) 2 wa21 (q20.ki (i64_rsz (by omega) (by omega) (by omega) (by omega))) (by omega)).mono ?_)
  rintro e w21 ⟨r21, rfl, q21, hb21⟩
  obtain ⟨s21, p21, n21, c21, rfl⟩ := q21.form
  refine ⟨_, rfl, hb21, fun kb21 _ bb21 => wV rfl ?_⟩
  (repeat (first | refine wN ?_ | refine wP rfl ?_ | refine cx_r rfl ?_ | refine cx_d (by kernel_rfl) rfl ?_ | refine wO rfl rfl ?_))
  refine VO.call rfl rfl (fk Try.func30) (fun wa22 ka22 ba22 => (whole05_ok _ (hf (Rat.divInt (7) (2))) (4) 1 wa22 (q21.ki (Sz.small (by decide +kernel))) (by decide +kernel) (by decide)).mono ?_)
  rintro e w22 ⟨rfl, hb22⟩
  skip
  refine ⟨_, rfl, hb22, fun kb22 _ bb22 => wV rfl ?_⟩
  (repeat (first | refine wN ?_ | refine wP rfl ?_ | refine cx_r rfl ?_ | refine cx_d (by kernel_rfl) rfl ?_ | refine wO rfl rfl ?_))
  refine VO.call rfl rfl (fk Try.func14) (fun wa23 ka23 ba23 => (of05_any (8) (3) wa23 (by omega) (by omega) (by omega) (by omega)).mono ?_)
  rintro e w23 ⟨r23, rfl, q23, hb23⟩
  obtain ⟨s23, p23, n23, c23, t23, y23, m23, d23, rfl⟩ := q23.form
  refine ⟨_, rfl, hb23, fun kb23 _ bb23 => wV rfl ?_⟩
  (repeat (first | refine wN ?_ | refine wP rfl ?_ | refine cx_r rfl ?_ | refine cx_d (by kernel_rfl) rfl ?_ | refine wO rfl rfl ?_))
  refine VO.call rfl rfl (fk Try.func15) (fun wa24 ka24 ba24 => (rdHalf_any _ (Rat.divInt (8) (3)) 2 wa24 (q23.ki (i64_rsz (by omega) (by omega) (by omega) (by omega))) (by omega)).mono ?_)
  rintro e w24 ⟨r24, rfl, q24, hb24⟩
  obtain ⟨s24, p24, n24, c24, rfl⟩ := q24.form
  refine ⟨_, rfl, hb24, fun kb24 _ bb24 => wV rfl ?_⟩
  (repeat (first | refine wN ?_ | refine wP rfl ?_ | refine cx_r rfl ?_ | refine cx_d (by kernel_rfl) rfl ?_ | refine wO rfl rfl ?_))
  refine VO.call rfl rfl (fk Try.func30) (fun wa25 ka25 ba25 => (whole05_ok _ (hf (Rat.divInt (8) (3))) (3) 1 wa25 (q24.ki (Sz.small (by decide +kernel))) (by decide +kernel) (by decide)).mono ?_)
  rintro e w25 ⟨rfl, hb25⟩
  skip
  refine ⟨_, rfl, hb25, fun kb25 _ bb25 => wV rfl ?_⟩
  (repeat (first | refine wN ?_ | refine wP rfl ?_ | refine cx_r rfl ?_ | refine cx_d (by kernel_rfl) rfl ?_ | refine wO rfl rfl ?_))
  refine VO.call rfl rfl (fk Try.func14) (fun wa26 ka26 ba26 => (of05_any (-7) (2) wa26 (by omega) (by omega) (by omega) (by omega)).mono ?_)
  rintro e w26 ⟨r26, rfl, q26, hb26⟩
  obtain ⟨s26, p26, n26, c26, t26, y26, m26, d26, rfl⟩ := q26.form
  refine ⟨_, rfl, hb26, fun kb26 _ bb26 => wV rfl ?_⟩
  (repeat (first | refine wN ?_ | refine wP rfl ?_ | refine cx_r rfl ?_ | refine cx_d (by kernel_rfl) rfl ?_ | refine wO rfl rfl ?_))
  refine VO.call rfl rfl (fk Try.func7) (fun wa27 ka27 ba27 => (rdFrac_any _ (Rat.divInt (-7) (2)) 2 wa27 (q26.ki (i64_rsz (by omega) (by omega) (by omega) (by omega))) (by omega)).mono ?_)
  rintro e w27 ⟨r27, rfl, q27, hb27⟩
  obtain ⟨s27, p27, n27, c27, t27, y27, m27, d27, rfl⟩ := q27.form
  refine ⟨_, rfl, hb27, fun kb27 _ bb27 => wV rfl ?_⟩
  (repeat (first | refine wN ?_ | refine wP rfl ?_ | refine cx_r rfl ?_ | refine cx_d (by kernel_rfl) rfl ?_ | refine wO rfl rfl ?_))
  refine VO.call rfl rfl (fk Try.func14) (fun wa28 ka28 ba28 => (of05_any (1) (2) wa28 (by omega) (by omega) (by omega) (by omega)).mono ?_)
  rintro e w28 ⟨r28, rfl, q28, hb28⟩
  obtain ⟨s28, p28, n28, c28, t28, y28, m28, d28, rfl⟩ := q28.form
  refine ⟨_, rfl, hb28, fun kb28 _ bb28 => wV rfl ?_⟩
  (repeat (first | refine wN ?_ | refine wP rfl ?_ | refine cx_r rfl ?_ | refine cx_d (by kernel_rfl) rfl ?_ | refine wO rfl rfl ?_))
  refine VO.call rfl rfl (fk Try.func8) (fun wa29 ka29 ba29 => (ratSame_ok _ _ (frac (Rat.divInt (-7) (2))) (Rat.divInt (1) (2)) 2 2 wa29 (q27.ki (show RSz _ _ from (by decide +kernel : frac (Rat.divInt (-7) (2)) = Rat.divInt (1) (2)) ▸ i64_rsz (by omega) (by omega) (by omega) (by omega))) (q28.ki (i64_rsz (by omega) (by omega) (by omega) (by omega))) (by omega) (by omega) true (by decide +kernel)).mono ?_)
  rintro e w29 ⟨rfl, hb29⟩
  skip
  refine ⟨_, rfl, hb29, fun kb29 _ bb29 => wV rfl ?_⟩
  (repeat (first | refine wN ?_ | refine wP rfl ?_ | refine cx_r rfl ?_ | refine cx_d (by kernel_rfl) rfl ?_ | refine wO rfl rfl ?_))
  refine VO.call rfl rfl (fk Try.func14) (fun wa30 ka30 ba30 => (of05_any (1) (3) wa30 (by omega) (by omega) (by omega) (by omega)).mono ?_)
  rintro e w30 ⟨r30, rfl, q30, hb30⟩
  obtain ⟨s30, p30, n30, c30, t30, y30, m30, d30, rfl⟩ := q30.form
  refine ⟨_, rfl, hb30, fun kb30 _ bb30 => wV rfl ?_⟩
  (repeat (first | refine wN ?_ | refine wP rfl ?_ | refine cx_r rfl ?_ | refine cx_d (by kernel_rfl) rfl ?_ | refine wO rfl rfl ?_))
  refine VO.call rfl rfl (fk Try.func23) (fun wa31 ka31 ba31 => (rdCents_any _ (Rat.divInt (1) (3)) 2 wa31 (q30.ki (i64_rsz (by omega) (by omega) (by omega) (by omega))) (by omega)).mono ?_)
  rintro e w31 ⟨r31, rfl, q31, hb31⟩
  obtain ⟨s31, p31, n31, c31, rfl⟩ := q31.form
  refine ⟨_, rfl, hb31, fun kb31 _ bb31 => wV rfl ?_⟩
  (repeat (first | refine wN ?_ | refine wP rfl ?_ | refine cx_r rfl ?_ | refine cx_d (by kernel_rfl) rfl ?_ | refine wO rfl rfl ?_))
  refine VO.call rfl rfl (fk Try.func30) (fun wa32 ka32 ba32 => (whole05_ok _ (hf (Rat.divInt (1) (3) * ((100 : Int) : Rat))) (33) 1 wa32 (q31.ki (Sz.small (by decide +kernel))) (by decide +kernel) (by decide)).mono ?_)
  rintro e w32 ⟨rfl, hb32⟩
  skip
  refine ⟨_, rfl, hb32, fun kb32 _ bb32 => wV rfl ?_⟩
  (repeat (first | refine wN ?_ | refine wP rfl ?_ | refine cx_r rfl ?_ | refine cx_d (by kernel_rfl) rfl ?_ | refine wO rfl rfl ?_))
  refine VO.call rfl rfl (fk Try.func14) (fun wa33 ka33 ba33 => (of05_any (1) (200) wa33 (by omega) (by omega) (by omega) (by omega)).mono ?_)
  rintro e w33 ⟨r33, rfl, q33, hb33⟩
  obtain ⟨s33, p33, n33, c33, t33, y33, m33, d33, rfl⟩ := q33.form
  refine ⟨_, rfl, hb33, fun kb33 _ bb33 => wV rfl ?_⟩
  (repeat (first | refine wN ?_ | refine wP rfl ?_ | refine cx_r rfl ?_ | refine cx_d (by kernel_rfl) rfl ?_ | refine wO rfl rfl ?_))
  refine VO.call rfl rfl (fk Try.func23) (fun wa34 ka34 ba34 => (rdCents_any _ (Rat.divInt (1) (200)) 2 wa34 (q33.ki (i64_rsz (by omega) (by omega) (by omega) (by omega))) (by omega)).mono ?_)
  rintro e w34 ⟨r34, rfl, q34, hb34⟩
  obtain ⟨s34, p34, n34, c34, rfl⟩ := q34.form
  refine ⟨_, rfl, hb34, fun kb34 _ bb34 => wV rfl ?_⟩
  (repeat (first | refine wN ?_ | refine wP rfl ?_ | refine cx_r rfl ?_ | refine cx_d (by kernel_rfl) rfl ?_ | refine wO rfl rfl ?_))
  refine VO.call rfl rfl (fk Try.func30) (fun wa35 ka35 ba35 => (whole05_ok _ (hf (Rat.divInt (1) (200) * ((100 : Int) : Rat))) (0) 1 wa35 (q34.ki (Sz.small (by decide +kernel))) (by decide +kernel) (by decide)).mono ?_)
  rintro e w35 ⟨rfl, hb35⟩
  skip
  refine ⟨_, rfl, hb35, fun kb35 _ bb35 => wV rfl ?_⟩
  (repeat (first | refine wN ?_ | refine wP rfl ?_ | refine cx_r rfl ?_ | refine cx_d (by kernel_rfl) rfl ?_ | refine wO rfl rfl ?_))
  refine VO.call rfl rfl (fk Try.func14) (fun wa36 ka36 ba36 => (of05_any (3) (200) wa36 (by omega) (by omega) (by omega) (by omega)).mono ?_)
  rintro e w36 ⟨r36, rfl, q36, hb36⟩
  obtain ⟨s36, p36, n36, c36, t36, y36, m36, d36, rfl⟩ := q36.form
  refine ⟨_, rfl, hb36, fun kb36 _ bb36 => wV rfl ?_⟩
  (repeat (first | refine wN ?_ | refine wP rfl ?_ | refine cx_r rfl ?_ | refine cx_d (by kernel_rfl) rfl ?_ | refine wO rfl rfl ?_))
  refine VO.call rfl rfl (fk Try.func23) (fun wa37 ka37 ba37 => (rdCents_any _ (Rat.divInt (3) (200)) 2 wa37 (q36.ki (i64_rsz (by omega) (by omega) (by omega) (by omega))) (by omega)).mono ?_)
  rintro e w37 ⟨r37, rfl, q37, hb37⟩
  obtain ⟨s37, p37, n37, c37, rfl⟩ := q37.form
  refine ⟨_, rfl, hb37, fun kb37 _ bb37 => wV rfl ?_⟩
  (repeat (first | refine wN ?_ | refine wP rfl ?_ | refine cx_r rfl ?_ | refine cx_d (by kernel_rfl) rfl ?_ | refine wO rfl rfl ?_))
  refine VO.call rfl rfl (fk Try.func30) (fun wa38 ka38 ba38 => (whole05_ok _ (hf (Rat.divInt (3) (200) * ((100 : Int) : Rat))) (2) 1 wa38 (q37.ki (Sz.small (by decide +kernel))) (by decide +kernel) (by decide)).mono ?_)
  rintro e w38 ⟨rfl, hb38⟩
  skip
  refine ⟨_, rfl, hb38, fun kb38 _ bb38 => wV rfl ?_⟩
  (repeat (first | refine wN ?_ | refine wP rfl ?_ | refine cx_r rfl ?_ | refine cx_d (by kernel_rfl) rfl ?_ | refine wO rfl rfl ?_))
  refine VO.call rfl rfl (fk Try.func31) (fun wa39 ka39 ba39 => (bOf_any (-150) wa39 (by omega) (by omega)).mono ?_)
  rintro e w39 ⟨r39, rfl, q39, hb39⟩
  obtain ⟨s39, p39, n39, c39, rfl⟩ := q39.form
  refine ⟨_, rfl, hb39, fun kb39 _ bb39 => wV rfl ?_⟩
  (repeat (first | refine wN ?_ | refine wP rfl ?_ | refine cx_r rfl ?_ | refine cx_d (by kernel_rfl) rfl ?_ | refine wO rfl rfl ?_))
  refine VO.call rfl rfl (fk Try.func24) (fun wa40 ka40 ba40 => (rdFromCents_any _ (-150) 1 wa40 (q39.ki (Sz.small (by decide))) (by omega)).mono ?_)
  rintro e w40 ⟨r40, rfl, q40, hb40⟩
  obtain ⟨s40, p40, n40, c40, t40, y40, m40, d40, rfl⟩ := q40.form
  refine ⟨_, rfl, hb40, fun kb40 _ bb40 => wV rfl ?_⟩
  (repeat (first | refine wN ?_ | refine wP rfl ?_ | refine cx_r rfl ?_ | refine cx_d (by kernel_rfl) rfl ?_ | refine wO rfl rfl ?_))
  refine VO.call rfl rfl (fk Try.func14) (fun wa41 ka41 ba41 => (of05_any (-3) (2) wa41 (by omega) (by omega) (by omega) (by omega)).mono ?_)
  rintro e w41 ⟨r41, rfl, q41, hb41⟩
  obtain ⟨s41, p41, n41, c41, t41, y41, m41, d41, rfl⟩ := q41.form
  refine ⟨_, rfl, hb41, fun kb41 _ bb41 => wV rfl ?_⟩
  (repeat (first | refine wN ?_ | refine wP rfl ?_ | refine cx_r rfl ?_ | refine cx_d (by kernel_rfl) rfl ?_ | refine wO rfl rfl ?_))
  refine VO.call rfl rfl (fk Try.func8) (fun wa42 ka42 ba42 => (ratSame_ok _ _ (Rat.divInt (-150) 100) (Rat.divInt (-3) (2)) 2 2 wa42 (q40.ki (i64_rsz (by omega) (by omega) (by omega) (by omega))) (q41.ki (i64_rsz (by omega) (by omega) (by omega) (by omega))) (by omega) (by omega) true (by decide +kernel)).mono ?_)
  rintro e w42 ⟨rfl, hb42⟩
  skip
  refine ⟨_, rfl, hb42, fun kb42 _ bb42 => wV rfl ?_⟩
  (repeat (first | refine wN ?_ | refine wP rfl ?_ | refine cx_r rfl ?_ | refine cx_d (by kernel_rfl) rfl ?_ | refine wO rfl rfl ?_))
  refine VO.call rfl rfl (fk Try.func30) (fun wa43 ka43 ba43 => (whole05_ok _ (plc (Rat.divInt (2) (3)) 3) 667 1 wa43 (q2.ki (Sz.small (by decide +kernel))) (by decide +kernel) (by decide)).mono ?_)
  rintro e w43 ⟨rfl, hb43⟩
  skip
  refine ⟨_, rfl, hb43, fun kb43 _ bb43 => wV rfl ?_⟩
  (repeat (first | refine wN ?_ | refine wP rfl ?_ | refine cx_r rfl ?_ | refine cx_d (by kernel_rfl) rfl ?_ | refine wO rfl rfl ?_))
  refine VS.ret (cx_ok _ _) rfl rfl (fun wz kz bz => ?_)
  exact ⟨rfl, bz⟩
end Go.Proofs.Ytkafabgcdlfhiaa
