/- RoundNear: what this statement's function answers. -/
import Derived.Test.YtkafabgcdlfhiaaLaw05B
set_option linter.all false
namespace Go.Proofs.Ytkafabgcdlfhiaa
open Go.RowKit
attribute [local irreducible] vcOps VS

theorem bcmp_ok (v u : Value) (X Y : Int) (j k : Nat) (w : World) (hv : IntIn w v X j) (hu : IntIn w u Y k) (hj : j ≤ 1073741824) (hk : k ≤ 1073741824) (c : Int) (hc : (X - Y).sign = c) :
    Calls Try.prog 19 #[v, u] w fun e w' => e = .returned (.int .i64 c) ∧ Beh w w' := hc ▸ bcmp_any v u X Y j k w hv hu hj hk
theorem Sz.hf2 {q : Rat} {k : Nat} (h : RSz q k) : Sz (hf q) (up1 k + 1) := by
  have h0 : Sz q.floor (up1 k) := (Sz.floor h).mono (by unfold up1; omega)
  have h1 : Sz (q.floor + 1) (up1 k + 1) := Sz.add h0 (Sz.small (by decide) : Sz 1 1) (Nat.le_refl _) (by unfold up1; omega)
  unfold Proofs.Ytkafabgcdlfhiaa.hf
  split
  · exact h0.mono (by omega)
  · split
    · exact h1
    · split
      · exact h0.mono (by omega)
      · exact h1
theorem Sz.cl2 {q : Rat} {k : Nat} (h : RSz q k) : Sz (Proofs.Ytkafabgcdlfhiaa.cl q) k := (Sz.floor h.neg).neg
theorem Sz.tr2 {q : Rat} {k : Nat} (h : RSz q k) : Sz (tr q) k := by
  unfold Proofs.Ytkafabgcdlfhiaa.tr
  split
  · exact Sz.cl2 h
  · exact Sz.floor h
theorem RSz.whole2 {X : Int} {k : Nat} (h : Sz X k) : RSz (X : Rat) (up1 k) := ⟨h.mono (by unfold up1; omega), Sz.mono (Sz.small (by decide) : Sz ((1 : Nat) : Int) 1) (by unfold up1; omega)⟩
theorem sgn_le {X Y : Int} (h : X ≤ Y) : ¬ (X - Y).sign > 0 := by
  rcases Int.lt_or_eq_of_le h with e | e
  · rw [sign_neg (by omega)]; omega
  · rw [e, Int.sub_self]; decide
theorem near_max (q : Rat) : rcmp (rbest rmore ((hf q : Rat) - q) [-((hf q : Rat) - q)]) (Rat.divInt 1 2) ≤ 0 := by
  obtain ⟨a, b⟩ := hf_near q
  have e : rbest rmore ((hf q : Rat) - q) [-((hf q : Rat) - q)] = if rmore (-((hf q : Rat) - q)) ((hf q : Rat) - q) = true then -((hf q : Rat) - q) else (hf q : Rat) - q := rfl
  have h2 : Rat.divInt 1 2 = 1 / 2 := by decide +kernel
  rw [e, h2]
  refine rcmp_le.2 ?_
  split
  · exact b
  · exact a
set_option maxRecDepth 8000 in
set_option maxHeartbeats 8000000 in
theorem roundNear_any (s t s' t' : Bool) (xs ys xs' ys' : List Nat) (v u : Value) (w : World) (hv : RatRaw w v s xs t ys) (hu : RatRaw w u s' xs' t' ys') :
    Calls Try.prog 3 #[v, u] w fun e w' => e = .returned (.bool true) ∧ Beh w w' := by
  have hv0 := hv
  have hu0 := hu
  obtain ⟨px, cx, rx, dx, rfl, hnx, _⟩ := hv
  obtain ⟨py, cy, ry, dy, rfl, _, _⟩ := hu
  refine calm_enter (C := cxOf Try.prog w _) (args := [_, _]) Try.func3 rfl Try.ntmps3 (Nat.le_of_ble_eq_true rfl) ?_
  (repeat (first | refine wN ?_ | refine wP rfl ?_ | refine cx_r rfl ?_ | refine cx_d (by kernel_rfl) rfl ?_ | refine wO rfl rfl ?_))
  refine VO.call rfl rfl (fk Try.func4) (fun wa1 ka1 ba1 => (few05_any s t xs ys _ 12 wa1 (hv0.kp ka1)).mono ?_)
  rintro e w1 ⟨rfl, hb1⟩
  by_cases hf1 : xs.length ≤ 12 ∧ ys.length ≤ 12
  rotate_left
  · rw [decide_eq_false hf1]
    refine ⟨_, rfl, hb1, fun kb1 _ bb1 => wV rfl ?_⟩
    (repeat (first | refine wN ?_ | refine wP rfl ?_ | refine cx_r rfl ?_ | refine cx_d (by kernel_rfl) rfl ?_ | refine wO rfl rfl ?_))
    refine VO.call rfl rfl (fk Try.func6) (fun wa2 ka2 ba2 => (works05_any wa2).mono ?_)
    rintro e w2 ⟨rfl, hb2⟩
    skip
    refine ⟨_, rfl, hb2, fun kb2 _ bb2 => wV rfl ?_⟩
    (repeat (first | refine wN ?_ | refine wP rfl ?_ | refine cx_r rfl ?_ | refine cx_d (by kernel_rfl) rfl ?_ | refine wO rfl rfl ?_))
    refine VS.ret (cx_ok _ _) rfl rfl (fun wz kz bz => ?_)
    exact ⟨rfl, bz⟩
  rw [decide_eq_true hf1]
  refine ⟨_, rfl, hb1, fun kb1 _ bb1 => wV rfl ?_⟩
  (repeat (first | refine wN ?_ | refine wP rfl ?_ | refine cx_r rfl ?_ | refine cx_d (by kernel_rfl) rfl ?_ | refine wO rfl rfl ?_))
  refine VO.call rfl rfl (fk Try.func4) (fun wa2 ka2 ba2 => (few05_any s' t' xs' ys' _ 12 wa2 (hu0.kp (by (with_reducible (repeat (first | assumption | exact kU _ | exact kR _ | exact Kp.of (U := UU) (by assumption) | exact KpS.of (by assumption) | refine kT ?_ (by assumption))))))).mono ?_)
  rintro e w2 ⟨rfl, hb2⟩
  by_cases hf2 : xs'.length ≤ 12 ∧ ys'.length ≤ 12
  rotate_left
  · rw [decide_eq_false hf2]
    refine ⟨_, rfl, hb2, fun kb2 _ bb2 => wV rfl ?_⟩
    (repeat (first | refine wN ?_ | refine wP rfl ?_ | refine cx_r rfl ?_ | refine cx_d (by kernel_rfl) rfl ?_ | refine wO rfl rfl ?_))
    refine VO.call rfl rfl (fk Try.func6) (fun wa3 ka3 ba3 => (works05_any wa3).mono ?_)
    rintro e w3 ⟨rfl, hb3⟩
    skip
    refine ⟨_, rfl, hb3, fun kb3 _ bb3 => wV rfl ?_⟩
    (repeat (first | refine wN ?_ | refine wP rfl ?_ | refine cx_r rfl ?_ | refine cx_d (by kernel_rfl) rfl ?_ | refine wO rfl rfl ?_))
    refine VS.ret (cx_ok _ _) rfl rfl (fun wz kz bz => ?_)
    exact ⟨rfl, bz⟩
  rw [decide_eq_true hf2]
  refine ⟨_, rfl, hb2, fun kb2 _ bb2 => wV rfl ?_⟩
  (repeat (first | refine wN ?_ | refine wP rfl ?_ | refine cx_r rfl ?_ | refine cx_d (by kernel_rfl) rfl ?_ | refine wO rfl rfl ?_))
  refine VO.call rfl rfl (fk Try.func5) (fun wa3 ka3 ba3 => (ratRight_any s t xs ys _ wa3 (hv0.kp (by (with_reducible (repeat (first | assumption | exact kU _ | exact kR _ | exact Kp.of (U := UU) (by assumption) | exact KpS.of (by assumption) | refine kT ?_ (by assumption)))))) (by omega) (by omega)).mono ?_)
  rintro e w3 ⟨rfl, hb3⟩
  cases hr1 : rtB s xs t ys
  · refine ⟨_, rfl, hb3, fun kb3 _ bb3 => wV rfl ?_⟩
    (repeat (first | refine wN ?_ | refine wP rfl ?_ | refine cx_r rfl ?_ | refine cx_d (by kernel_rfl) rfl ?_ | refine wO rfl rfl ?_))
    refine VO.call rfl rfl (fk Try.func6) (fun wa4 ka4 ba4 => (works05_any wa4).mono ?_)
    rintro e w4 ⟨rfl, hb4⟩
    skip
    refine ⟨_, rfl, hb4, fun kb4 _ bb4 => wV rfl ?_⟩
    (repeat (first | refine wN ?_ | refine wP rfl ?_ | refine cx_r rfl ?_ | refine cx_d (by kernel_rfl) rfl ?_ | refine wO rfl rfl ?_))
    refine VS.ret (cx_ok _ _) rfl rfl (fun wz kz bz => ?_)
    exact ⟨rfl, bz⟩
  refine ⟨_, rfl, hb3, fun kb3 _ bb3 => wV rfl ?_⟩
  (repeat (first | refine wN ?_ | refine wP rfl ?_ | refine cx_r rfl ?_ | refine cx_d (by kernel_rfl) rfl ?_ | refine wO rfl rfl ?_))
  refine VO.call rfl rfl (fk Try.func5) (fun wa4 ka4 ba4 => (ratRight_any s' t' xs' ys' _ wa4 (hu0.kp (by (with_reducible (repeat (first | assumption | exact kU _ | exact kR _ | exact Kp.of (U := UU) (by assumption) | exact KpS.of (by assumption) | refine kT ?_ (by assumption)))))) (by omega) (by omega)).mono ?_)
  rintro e w4 ⟨rfl, hb4⟩
  cases hr2 : rtB s' xs' t' ys'
  · refine ⟨_, rfl, hb4, fun kb4 _ bb4 => wV rfl ?_⟩
    (repeat (first | refine wN ?_ | refine wP rfl ?_ | refine cx_r rfl ?_ | refine cx_d (by kernel_rfl) rfl ?_ | refine wO rfl rfl ?_))
    refine VO.call rfl rfl (fk Try.func6) (fun wa5 ka5 ba5 => (works05_any wa5).mono ?_)
    rintro e w5 ⟨rfl, hb5⟩
    skip
    refine ⟨_, rfl, hb5, fun kb5 _ bb5 => wV rfl ?_⟩
    (repeat (first | refine wN ?_ | refine wP rfl ?_ | refine cx_r rfl ?_ | refine cx_d (by kernel_rfl) rfl ?_ | refine wO rfl rfl ?_))
    refine VS.ret (cx_ok _ _) rfl rfl (fun wz kz bz => ?_)
    exact ⟨rfl, bz⟩
  refine ⟨_, rfl, hb4, fun kb4 _ bb4 => wV rfl ?_⟩
  (repeat (first | refine wN ?_ | refine wP rfl ?_ | refine cx_r rfl ?_ | refine cx_d (by kernel_rfl) rfl ?_ | refine wO rfl rfl ?_))
  have hq := hv0.in hf1.1 hf1.2
  have hr := hu0.in hf2.1 hf2.2
  obtain ⟨q, hqq⟩ : ∃ q, q = rq s xs t ys := ⟨_, rfl⟩
  obtain ⟨r, hrr⟩ : ∃ r, r = rq s' xs' t' ys' := ⟨_, rfl⟩
  rw [← hqq] at hq
  rw [← hrr] at hr
  have hqs : RSz q 12 := hq.sz (by omega)
  have hrs : RSz r 12 := hr.sz (by omega)
  have hfr : RSz (frac q) 12 := by
    rw [← frac_div]
    exact divInt_sz (Sz.left hqs) hqs.2 (by have := den_pos q; omega)
  have hwq : RSz ((q.floor : Rat) + frac q) 12 := (whole_frac q).symm ▸ hqs
  have zf : Sz q.floor 12 := Sz.floor hqs
  have zh : Sz (hf q) 13 := (Sz.hf2 hqs).mono (by unfold up1; omega)
  have zhr : Sz (hf r) 13 := (Sz.hf2 hrs).mono (by unfold up1; omega)
  have hwf : RSz (q.floor : Rat) 12 := RSz.whole2 zf
  have hwh : RSz (hf q : Rat) 13 := RSz.whole2 zh
  refine VO.call rfl rfl (fk Try.func7) (fun wa5 ka5 ba5 => (rdFrac_any _ q 12 wa5 hq.k (by omega)).mono ?_)
  rintro e w5 ⟨r5, rfl, q5, hb5⟩
  obtain ⟨s5, p5, n5, c5, t5, y5, m5, d5, rfl⟩ := q5.form
  refine ⟨_, rfl, hb5, fun kb5 _ bb5 => wV rfl ?_⟩
  (repeat (first | refine wN ?_ | refine wP rfl ?_ | refine cx_r rfl ?_ | refine cx_d (by kernel_rfl) rfl ?_ | refine wO rfl rfl ?_))
  refine VO.call rfl rfl (fk Try.func11) (fun wa6 ka6 ba6 => (rdFloor_any _ q 12 wa6 hq.k (by omega)).mono ?_)
  rintro e w6 ⟨r6, rfl, q6, hb6⟩
  obtain ⟨s6, p6, n6, c6, rfl⟩ := q6.form
  refine ⟨_, rfl, hb6, fun kb6 _ bb6 => wV rfl ?_⟩
  (repeat (first | refine wN ?_ | refine wP rfl ?_ | refine cx_r rfl ?_ | refine cx_d (by kernel_rfl) rfl ?_ | refine wO rfl rfl ?_))
  refine VO.call rfl rfl (fk Try.func10) (fun wa7 ka7 ba7 => (rdWhole_any _ q.floor 12 wa7 (q6.ki zf) (by omega)).mono ?_)
  rintro e w7 ⟨r7, rfl, q7, hb7⟩
  obtain ⟨s7, p7, n7, c7, t7, y7, m7, d7, rfl⟩ := q7.form
  refine ⟨_, rfl, hb7, fun kb7 _ bb7 => wV rfl ?_⟩
  (repeat (first | refine wN ?_ | refine wP rfl ?_ | refine cx_r rfl ?_ | refine cx_d (by kernel_rfl) rfl ?_ | refine wO rfl rfl ?_))
  refine VO.call rfl rfl (fk Try.func9) (fun wa8 ka8 ba8 => (ratAdd_any _ _ (q.floor : Rat) (frac q) 12 12 wa8 (q7.ki hwf) (q5.ki hfr) (by omega) (by omega)).mono ?_)
  rintro e w8 ⟨r8, rfl, q8, hb8⟩
  obtain ⟨s8, p8, n8, c8, t8, y8, m8, d8, rfl⟩ := q8.form
  refine ⟨_, rfl, hb8, fun kb8 _ bb8 => wV rfl ?_⟩
  (repeat (first | refine wN ?_ | refine wP rfl ?_ | refine cx_r rfl ?_ | refine cx_d (by kernel_rfl) rfl ?_ | refine wO rfl rfl ?_))
  refine VO.call rfl rfl (fk Try.func8) (fun wa9 ka9 ba9 => (ratSame_ok _ _ ((q.floor : Rat) + frac q) q 12 12 wa9 (q8.ki hwq) hq.k (by omega) (by omega) true (decide_eq_true (whole_frac q))).mono ?_)
  rintro e w9 ⟨rfl, hb9⟩
  skip
  refine ⟨_, rfl, hb9, fun kb9 _ bb9 => wV rfl ?_⟩
  (repeat (first | refine wN ?_ | refine wP rfl ?_ | refine cx_r rfl ?_ | refine cx_d (by kernel_rfl) rfl ?_ | refine wO rfl rfl ?_))
  refine VO.call rfl rfl (fk Try.func12) (fun wa10 ka10 ba10 => (ratSign_any _ (frac q) 12 wa10 (q5.ki hfr) (by omega)).mono ?_)
  rintro e w10 ⟨rfl, hb10⟩
  skip
  refine ⟨_, rfl, hb10, fun kb10 _ bb10 => wV rfl ?_⟩
  (repeat (first | refine wN ?_ | refine wP rfl ?_ | refine cx_r rfl ?_ | refine cx_d (by kernel_rfl) rfl ?_ | refine wO rfl rfl ?_))
  refine VO.fix 42 rfl (congrArg (fun b => AV.val (.bool b)) (decide_eq_false (show ¬ rcmp (frac q) 0 < 0 from fun e => by have := rcmp_ge.2 (frac_nonneg q); omega))) ?_
  (repeat (first | refine wN ?_ | refine wP rfl ?_ | refine cx_r rfl ?_ | refine cx_d (by kernel_rfl) rfl ?_ | refine wO rfl rfl ?_))
  refine VO.call rfl rfl (fk Try.func14) (fun wa11 ka11 ba11 => (of05_any 1 1 wa11 (by omega) (by omega) (by omega) (by omega)).mono ?_)
  rintro e w11 ⟨r11, rfl, q11, hb11⟩
  obtain ⟨s11, p11, n11, c11, t11, y11, m11, d11, rfl⟩ := q11.form
  refine ⟨_, rfl, hb11, fun kb11 _ bb11 => wV rfl ?_⟩
  (repeat (first | refine wN ?_ | refine wP rfl ?_ | refine cx_r rfl ?_ | refine cx_d (by kernel_rfl) rfl ?_ | refine wO rfl rfl ?_))
  refine VO.call rfl rfl (fk Try.func13) (fun wa12 ka12 ba12 => (ratCmp_any _ _ (frac q) (Rat.divInt 1 1) 12 2 wa12 (q5.ki hfr) (q11.ki (i64_rsz (by omega) (by omega) (by omega) (by omega))) (by omega) (by omega)).mono ?_)
  rintro e w12 ⟨rfl, hb12⟩
  skip
  refine ⟨_, rfl, hb12, fun kb12 _ bb12 => wV rfl ?_⟩
  (repeat (first | refine wN ?_ | refine wP rfl ?_ | refine cx_r rfl ?_ | refine cx_d (by kernel_rfl) rfl ?_ | refine wO rfl rfl ?_))
  have h11 : Rat.divInt 1 1 = 1 := by decide +kernel
  refine VS.condN rfl (decide_eq_false (show ¬ rcmp (frac q) (Rat.divInt 1 1) ≥ 0 from fun e => by have h1 := rcmp_ge.1 e; have h2 := frac_lt q; rw [h11] at h1; exact absurd h2 (Rat.not_lt.2 h1))) ?_
  (repeat (first | refine wN ?_ | refine wP rfl ?_ | refine cx_r rfl ?_ | refine cx_d (by kernel_rfl) rfl ?_ | refine wO rfl rfl ?_))
  refine VO.call rfl rfl (fk Try.func15) (fun wa13 ka13 ba13 => (rdHalf_any _ q 12 wa13 hq.k (by omega)).mono ?_)
  rintro e w13 ⟨r13, rfl, q13, hb13⟩
  obtain ⟨s13, p13, n13, c13, rfl⟩ := q13.form
  refine ⟨_, rfl, hb13, fun kb13 _ bb13 => wV rfl ?_⟩
  (repeat (first | refine wN ?_ | refine wP rfl ?_ | refine cx_r rfl ?_ | refine cx_d (by kernel_rfl) rfl ?_ | refine wO rfl rfl ?_))
  refine VO.call rfl rfl (fk Try.func10) (fun wa14 ka14 ba14 => (rdWhole_any _ (hf q) 13 wa14 (q13.ki zh) (by omega)).mono ?_)
  rintro e w14 ⟨r14, rfl, q14, hb14⟩
  obtain ⟨s14, p14, n14, c14, t14, y14, m14, d14, rfl⟩ := q14.form
  refine ⟨_, rfl, hb14, fun kb14 _ bb14 => wV rfl ?_⟩
  (repeat (first | refine wN ?_ | refine wP rfl ?_ | refine cx_r rfl ?_ | refine cx_d (by kernel_rfl) rfl ?_ | refine wO rfl rfl ?_))
  refine VO.call rfl rfl (fk Try.func16) (fun wa15 ka15 ba15 => (ratSub_any _ _ (hf q : Rat) q 13 12 wa15 (q14.ki hwh) hq.k (by omega) (by omega)).mono ?_)
  rintro e w15 ⟨r15, rfl, q15, hb15⟩
  obtain ⟨s15, p15, n15, c15, t15, y15, m15, d15, rfl⟩ := q15.form
  refine ⟨_, rfl, hb15, fun kb15 _ bb15 => wV rfl ?_⟩
  (repeat (first | refine wN ?_ | refine wP rfl ?_ | refine cx_r rfl ?_ | refine wO rfl rfl ?_))
  refine cxR (fun wS hwS kS => wV rfl ?_) (by kernel_rfl)
  (repeat (first | refine wN ?_ | refine wP rfl ?_ | refine cx_r rfl ?_ | refine cx_d (by kernel_rfl) rfl ?_ | refine wO rfl rfl ?_))
  have hds : RSz ((hf q : Rat) - q) 26 := (hwh.sub hqs)
  refine VO.call rfl rfl (fk Try.func18) (fun wa16 ka16 ba16 => (ratNeg_any _ ((hf q : Rat) - q) 26 wa16 (q15.ki hds) (by omega)).mono ?_)
  rintro e w16 ⟨r16, rfl, q16, hb16⟩
  obtain ⟨s16, p16, n16, c16, t16, y16, m16, d16, rfl⟩ := q16.form
  refine ⟨_, rfl, hb16, fun kb16 _ bb16 => wV rfl ?_⟩
  (repeat (first | refine wN ?_ | refine wP rfl ?_ | refine cx_r rfl ?_ | refine cx_d (by kernel_rfl) rfl ?_ | refine wO rfl rfl ?_))
  refine VO.callF rfl (fk Try.func17) (fun wa17 β ka17 ba17 ho => (ratMax_any _ _ ((hf q : Rat) - q) [-((hf q : Rat) - q)] 26 wa17 (q15.ki hds) (ownV_sl (ratE_ok 26) (ho.own 57 (.base (by simp [idsOf, AV.ids])) _ _ rfl) [] (vs := [[.bool s16, .slice p16 n16 c16, .bool t16, .slice y16 m16 d16]]) rfl (.cons ⟨_, _, _, _, _, _, _, _, rfl, q16.ki hds.neg⟩ .nil) rfl (Nat.le_refl _) (show (1 : Nat) ≤ 9223372036854775807 by omega)).rats (by omega) (show (1 : Nat) < 9223372036854775807 by omega)).mono ?_)
  rintro e w17 ⟨r17, rfl, q17, z17, hb17⟩
  obtain ⟨s17, p17, n17, c17, t17, y17, m17, d17, rfl⟩ := q17.form
  refine ⟨_, rfl, hb17, fun kb17 _ bb17 => wV rfl ?_⟩
  (repeat (first | refine wN ?_ | refine wP rfl ?_ | refine cx_r rfl ?_ | refine cx_d (by kernel_rfl) rfl ?_ | refine wO rfl rfl ?_))
  refine VO.call rfl rfl (fk Try.func14) (fun wa18 ka18 ba18 => (of05_any 1 2 wa18 (by omega) (by omega) (by omega) (by omega)).mono ?_)
  rintro e w18 ⟨r18, rfl, q18, hb18⟩
  obtain ⟨s18, p18, n18, c18, t18, y18, m18, d18, rfl⟩ := q18.form
  refine ⟨_, rfl, hb18, fun kb18 _ bb18 => wV rfl ?_⟩
  (repeat (first | refine wN ?_ | refine wP rfl ?_ | refine cx_r rfl ?_ | refine cx_d (by kernel_rfl) rfl ?_ | refine wO rfl rfl ?_))
  refine VO.call rfl rfl (fk Try.func13) (fun wa19 ka19 ba19 => (ratCmp_any _ _ (rbest rmore ((hf q : Rat) - q) [-((hf q : Rat) - q)]) (Rat.divInt 1 2) 26 2 wa19 (q17.ki z17) (q18.ki (i64_rsz (by omega) (by omega) (by omega) (by omega))) (by omega) (by omega)).mono ?_)
  rintro e w19 ⟨rfl, hb19⟩
  skip
  refine ⟨_, rfl, hb19, fun kb19 _ bb19 => wV rfl ?_⟩
  (repeat (first | refine wN ?_ | refine wP rfl ?_ | refine cx_r rfl ?_ | refine cx_d (by kernel_rfl) rfl ?_ | refine wO rfl rfl ?_))
  refine VO.fix 62 rfl (congrArg (fun b => AV.val (.bool b)) (decide_eq_false (show ¬ rcmp (rbest rmore ((hf q : Rat) - q) [-((hf q : Rat) - q)]) (Rat.divInt 1 2) > 0 from fun e => by have := near_max q; omega))) ?_
  (repeat (first | refine wN ?_ | refine wP rfl ?_ | refine cx_r rfl ?_ | refine cx_d (by kernel_rfl) rfl ?_ | refine wO rfl rfl ?_))
  refine VO.call rfl rfl (fk Try.func14) (fun wa20 ka20 ba20 => (of05_any 1 2 wa20 (by omega) (by omega) (by omega) (by omega)).mono ?_)
  rintro e w20 ⟨r20, rfl, q20, hb20⟩
  obtain ⟨s20, p20, n20, c20, t20, y20, m20, d20, rfl⟩ := q20.form
  refine ⟨_, rfl, hb20, fun kb20 _ bb20 => wV rfl ?_⟩
  (repeat (first | refine wN ?_ | refine wP rfl ?_ | refine cx_r rfl ?_ | refine cx_d (by kernel_rfl) rfl ?_ | refine wO rfl rfl ?_))
  refine VO.call rfl rfl (fk Try.func8) (fun wa21 ka21 ba21 => (ratSame_any _ _ (frac q) (Rat.divInt 1 2) 12 2 wa21 (q5.ki hfr) (q20.ki (i64_rsz (by omega) (by omega) (by omega) (by omega))) (by omega) (by omega)).mono ?_)
  rintro e w21 ⟨rfl, hb21⟩
  have hxn : IntIn w (.agg #[.bool s, .slice px xs.length cx]) (numOf s xs) 12 := ⟨s, xs, hnx, rfl, hf1.1⟩
  have hX : Sz (numOf s xs) 12 := numOf_sz hnx.lim hf1.1
  have hcs : RSz (Rat.divInt (numOf s xs) 100) 13 := by
    obtain ⟨a, b⟩ := divInt_sz hX (Sz.small (by decide) : Sz 100 1) (by decide)
    exact ⟨a.mono (by omega), b.mono (by omega)⟩
  have h12 : Rat.divInt 1 2 = 1 / 2 := by decide +kernel
  by_cases hh : frac q = Rat.divInt 1 2
  · rw [decide_eq_true hh]
    refine ⟨_, rfl, hb21, fun kb21 _ bb21 => wV rfl ?_⟩
    (repeat (first | refine wN ?_ | refine wP rfl ?_ | refine cx_r rfl ?_ | refine cx_d (by kernel_rfl) rfl ?_ | refine wO rfl rfl ?_))
    have hev : hf q % 2 = 0 := hf_even (hh.trans h12)
    obtain ⟨hn13, hrd13, -⟩ := q13.rd.parts
    by_cases h0 : n13 = 0
    · refine VO.fix 72 rfl (congrArg (fun b => AV.val (.bool b)) (decide_eq_false (show ¬ (n13 : Int) > 0 by omega))) ?_
      (repeat (first | refine wN ?_ | refine wP rfl ?_ | refine cx_r rfl ?_ | refine cx_d (by kernel_rfl) rfl ?_ | refine wO rfl rfl ?_))
      refine VO.call rfl rfl (fk Try.func18) (fun wa22 ka22 ba22 => (ratNeg_any _ q 12 wa22 hq.k (by omega)).mono ?_)
      rintro e w22 ⟨r22, rfl, q22, hb22⟩
      obtain ⟨s22, p22, n22, c22, t22, y22, m22, d22, rfl⟩ := q22.form
      refine ⟨_, rfl, hb22, fun kb22 _ bb22 => wV rfl ?_⟩
      (repeat (first | refine wN ?_ | refine wP rfl ?_ | refine cx_r rfl ?_ | refine cx_d (by kernel_rfl) rfl ?_ | refine wO rfl rfl ?_))
      refine VO.call rfl rfl (fk Try.func15) (fun wa23 ka23 ba23 => (rdHalf_any _ (-q) 12 wa23 (q22.ki hqs.neg) (by omega)).mono ?_)
      rintro e w23 ⟨r23, rfl, q23, hb23⟩
      obtain ⟨s23, p23, n23, c23, rfl⟩ := q23.form
      refine ⟨_, rfl, hb23, fun kb23 _ bb23 => wV rfl ?_⟩
      (repeat (first | refine wN ?_ | refine wP rfl ?_ | refine cx_r rfl ?_ | refine cx_d (by kernel_rfl) rfl ?_ | refine wO rfl rfl ?_))
      refine VO.call rfl rfl (fk Try.func20) (fun wa24 ka24 ba24 => (bneg_any _ (hf q) 13 wa24 (q13.ki zh) (by omega)).mono ?_)
      rintro e w24 ⟨r24, rfl, q24, hb24⟩
      obtain ⟨s24, p24, n24, c24, rfl⟩ := q24.form
      refine ⟨_, rfl, hb24, fun kb24 _ bb24 => wV rfl ?_⟩
      (repeat (first | refine wN ?_ | refine wP rfl ?_ | refine cx_r rfl ?_ | refine cx_d (by kernel_rfl) rfl ?_ | refine wO rfl rfl ?_))
      refine VO.call rfl rfl (fk Try.func19) (fun wa25 ka25 ba25 => (bcmp_ok _ _ (hf (-q)) (-hf q) 13 13 wa25 (q23.ki ((hf_neg q).symm ▸ zh.neg)) (q24.ki zh.neg) (by omega) (by omega) 0 (by rw [hf_neg, Int.sub_self]; rfl)).mono ?_)
      rintro e w25 ⟨rfl, hb25⟩
      skip
      refine ⟨_, rfl, hb25, fun kb25 _ bb25 => wV rfl ?_⟩
      (repeat (first | refine wN ?_ | refine wP rfl ?_ | refine cx_r rfl ?_ | refine cx_d (by kernel_rfl) rfl ?_ | refine wO rfl rfl ?_))
      refine VO.call rfl rfl (fk Try.func13) (fun wa26 ka26 ba26 => (ratCmp_any _ _ q r 12 12 wa26 hq.k hr.k (by omega) (by omega)).mono ?_)
      rintro e w26 ⟨rfl, hb26⟩
      refine ⟨_, rfl, hb26, fun kb26 _ bb26 => wV rfl ?_⟩
      (repeat (first | refine wN ?_ | refine wP rfl ?_ | refine cx_r rfl ?_ | refine cx_d (by kernel_rfl) rfl ?_ | refine wO rfl rfl ?_))
      by_cases hle : rcmp q r ≤ 0
      · have hqr : q ≤ r := rcmp_le.1 hle
        refine VO.fix 94 rfl (congrArg (fun b => AV.val (.bool b)) (decide_eq_true hle)) ?_
        (repeat (first | refine wN ?_ | refine wP rfl ?_ | refine cx_r rfl ?_ | refine cx_d (by kernel_rfl) rfl ?_ | refine wO rfl rfl ?_))
        refine VO.call rfl rfl (fk Try.func15) (fun wa27 ka27 ba27 => (rdHalf_any _ r 12 wa27 hr.k (by omega)).mono ?_)
        rintro e w27 ⟨r27, rfl, q27, hb27⟩
        obtain ⟨s27, p27, n27, c27, rfl⟩ := q27.form
        refine ⟨_, rfl, hb27, fun kb27 _ bb27 => wV rfl ?_⟩
        (repeat (first | refine wN ?_ | refine wP rfl ?_ | refine cx_r rfl ?_ | refine cx_d (by kernel_rfl) rfl ?_ | refine wO rfl rfl ?_))
        refine VO.call rfl rfl (fk Try.func19) (fun wa28 ka28 ba28 => (bcmp_any _ _ (hf q) (hf r) 13 13 wa28 (q13.ki zh) (q27.ki zhr) (by omega) (by omega)).mono ?_)
        rintro e w28 ⟨rfl, hb28⟩
        skip
        refine ⟨_, rfl, hb28, fun kb28 _ bb28 => wV rfl ?_⟩
        (repeat (first | refine wN ?_ | refine wP rfl ?_ | refine cx_r rfl ?_ | refine cx_d (by kernel_rfl) rfl ?_ | refine wO rfl rfl ?_))
        refine VO.fix 100 rfl (congrArg (fun b => AV.val (.bool b)) (decide_eq_false (sgn_le (hf_mono hqr)))) ?_
        (repeat (first | refine wN ?_ | refine wP rfl ?_ | refine cx_r rfl ?_ | refine cx_d (by kernel_rfl) rfl ?_ | refine wO rfl rfl ?_))
        refine VO.call rfl rfl (fk Try.func11) (fun wa29 ka29 ba29 => (rdFloor_any _ q 12 wa29 hq.k (by omega)).mono ?_)
        rintro e w29 ⟨r29, rfl, q29, hb29⟩
        obtain ⟨s29, p29, n29, c29, rfl⟩ := q29.form
        refine ⟨_, rfl, hb29, fun kb29 _ bb29 => wV rfl ?_⟩
        (repeat (first | refine wN ?_ | refine wP rfl ?_ | refine cx_r rfl ?_ | refine cx_d (by kernel_rfl) rfl ?_ | refine wO rfl rfl ?_))
        refine VO.call rfl rfl (fk Try.func11) (fun wa30 ka30 ba30 => (rdFloor_any _ r 12 wa30 hr.k (by omega)).mono ?_)
        rintro e w30 ⟨r30, rfl, q30, hb30⟩
        obtain ⟨s30, p30, n30, c30, rfl⟩ := q30.form
        refine ⟨_, rfl, hb30, fun kb30 _ bb30 => wV rfl ?_⟩
        (repeat (first | refine wN ?_ | refine wP rfl ?_ | refine cx_r rfl ?_ | refine cx_d (by kernel_rfl) rfl ?_ | refine wO rfl rfl ?_))
        refine VO.call rfl rfl (fk Try.func19) (fun wa31 ka31 ba31 => (bcmp_any _ _ q.floor r.floor 12 12 wa31 (q29.ki zf) (q30.ki (Sz.floor hrs)) (by omega) (by omega)).mono ?_)
        rintro e w31 ⟨rfl, hb31⟩
        skip
        refine ⟨_, rfl, hb31, fun kb31 _ bb31 => wV rfl ?_⟩
        (repeat (first | refine wN ?_ | refine wP rfl ?_ | refine cx_r rfl ?_ | refine cx_d (by kernel_rfl) rfl ?_ | refine wO rfl rfl ?_))
        refine VO.fix 108 rfl (congrArg (fun b => AV.val (.bool b)) (decide_eq_false (sgn_le (Rat.floor_monotone hqr)))) ?_
        (repeat (first | refine wN ?_ | refine wP rfl ?_ | refine cx_r rfl ?_ | refine cx_d (by kernel_rfl) rfl ?_ | refine wO rfl rfl ?_))
        refine VO.call rfl rfl (fk Try.func21) (fun wa32 ka32 ba32 => (rdCeil_any _ q 12 wa32 hq.k (by omega)).mono ?_)
        rintro e w32 ⟨r32, rfl, q32, hb32⟩
        obtain ⟨s32, p32, n32, c32, rfl⟩ := q32.form
        refine ⟨_, rfl, hb32, fun kb32 _ bb32 => wV rfl ?_⟩
        (repeat (first | refine wN ?_ | refine wP rfl ?_ | refine cx_r rfl ?_ | refine cx_d (by kernel_rfl) rfl ?_ | refine wO rfl rfl ?_))
        refine VO.call rfl rfl (fk Try.func21) (fun wa33 ka33 ba33 => (rdCeil_any _ r 12 wa33 hr.k (by omega)).mono ?_)
        rintro e w33 ⟨r33, rfl, q33, hb33⟩
        obtain ⟨s33, p33, n33, c33, rfl⟩ := q33.form
        refine ⟨_, rfl, hb33, fun kb33 _ bb33 => wV rfl ?_⟩
        (repeat (first | refine wN ?_ | refine wP rfl ?_ | refine cx_r rfl ?_ | refine cx_d (by kernel_rfl) rfl ?_ | refine wO rfl rfl ?_))
        refine VO.call rfl rfl (fk Try.func19) (fun wa34 ka34 ba34 => (bcmp_any _ _ (cl q) (cl r) 12 12 wa34 (q32.ki (Sz.cl2 hqs)) (q33.ki (Sz.cl2 hrs)) (by omega) (by omega)).mono ?_)
        rintro e w34 ⟨rfl, hb34⟩
        skip
        refine ⟨_, rfl, hb34, fun kb34 _ bb34 => wV rfl ?_⟩
        (repeat (first | refine wN ?_ | refine wP rfl ?_ | refine cx_r rfl ?_ | refine cx_d (by kernel_rfl) rfl ?_ | refine wO rfl rfl ?_))
        refine VO.fix 116 rfl (congrArg (fun b => AV.val (.bool b)) (decide_eq_false (sgn_le (cl_mono hqr)))) ?_
        (repeat (first | refine wN ?_ | refine wP rfl ?_ | refine cx_r rfl ?_ | refine cx_d (by kernel_rfl) rfl ?_ | refine wO rfl rfl ?_))
        refine VO.call rfl rfl (fk Try.func22) (fun wa35 ka35 ba35 => (rdTrunc_any _ q 12 wa35 hq.k (by omega)).mono ?_)
        rintro e w35 ⟨r35, rfl, q35, hb35⟩
        obtain ⟨s35, p35, n35, c35, rfl⟩ := q35.form
        refine ⟨_, rfl, hb35, fun kb35 _ bb35 => wV rfl ?_⟩
        (repeat (first | refine wN ?_ | refine wP rfl ?_ | refine cx_r rfl ?_ | refine cx_d (by kernel_rfl) rfl ?_ | refine wO rfl rfl ?_))
        refine VO.call rfl rfl (fk Try.func22) (fun wa36 ka36 ba36 => (rdTrunc_any _ r 12 wa36 hr.k (by omega)).mono ?_)
        rintro e w36 ⟨r36, rfl, q36, hb36⟩
        obtain ⟨s36, p36, n36, c36, rfl⟩ := q36.form
        refine ⟨_, rfl, hb36, fun kb36 _ bb36 => wV rfl ?_⟩
        (repeat (first | refine wN ?_ | refine wP rfl ?_ | refine cx_r rfl ?_ | refine cx_d (by kernel_rfl) rfl ?_ | refine wO rfl rfl ?_))
        refine VO.call rfl rfl (fk Try.func19) (fun wa37 ka37 ba37 => (bcmp_any _ _ (tr q) (tr r) 12 12 wa37 (q35.ki (Sz.tr2 hqs)) (q36.ki (Sz.tr2 hrs)) (by omega) (by omega)).mono ?_)
        rintro e w37 ⟨rfl, hb37⟩
        skip
        refine ⟨_, rfl, hb37, fun kb37 _ bb37 => wV rfl ?_⟩
        (repeat (first | refine wN ?_ | refine wP rfl ?_ | refine cx_r rfl ?_ | refine cx_d (by kernel_rfl) rfl ?_ | refine wO rfl rfl ?_))
        refine VS.condN rfl (decide_eq_false (sgn_le (tr_mono hqr))) ?_
        (repeat (first | refine wN ?_ | refine wP rfl ?_ | refine cx_r rfl ?_ | refine cx_d (by kernel_rfl) rfl ?_ | refine wO rfl rfl ?_))
        refine VO.call rfl rfl (fk Try.func24) (fun wa40 ka40 ba40 => (rdFromCents_any _ (numOf s xs) 12 wa40 hxn.k (by omega)).mono ?_)
        rintro e w40 ⟨r40, rfl, q40, hb40⟩
        obtain ⟨s40, p40, n40, c40, t40, y40, m40, d40, rfl⟩ := q40.form
        refine ⟨_, rfl, hb40, fun kb40 _ bb40 => wV rfl ?_⟩
        (repeat (first | refine wN ?_ | refine wP rfl ?_ | refine cx_r rfl ?_ | refine cx_d (by kernel_rfl) rfl ?_ | refine wO rfl rfl ?_))
        refine VO.call rfl rfl (fk Try.func23) (fun wa41 ka41 ba41 => (rdCents_any _ (Rat.divInt (numOf s xs) 100) 13 wa41 (q40.ki hcs) (by omega)).mono ?_)
        rintro e w41 ⟨r41, rfl, q41, hb41⟩
        obtain ⟨s41, p41, n41, c41, rfl⟩ := q41.form
        refine ⟨_, rfl, hb41, fun kb41 _ bb41 => wV rfl ?_⟩
        (repeat (first | refine wN ?_ | refine wP rfl ?_ | refine cx_r rfl ?_ | refine cx_d (by kernel_rfl) rfl ?_ | refine wO rfl rfl ?_))
        refine VO.call rfl rfl (fk Try.func19) (fun wa42 ka42 ba42 => (bcmp_ok _ _ (numOf s xs) (numOf s xs) 12 12 wa42 ((q41.cast (cents_back (numOf s xs))).ki hX) hxn.k (by omega) (by omega) 0 (by rw [Int.sub_self]; rfl)).mono ?_)
        rintro e w42 ⟨rfl, hb42⟩
        skip
        refine ⟨_, rfl, hb42, fun kb42 _ bb42 => wV rfl ?_⟩
        (repeat (first | refine wN ?_ | refine wP rfl ?_ | refine cx_r rfl ?_ | refine cx_d (by kernel_rfl) rfl ?_ | refine wO rfl rfl ?_))
        refine VO.call rfl rfl (fk Try.func6) (fun wa43 ka43 ba43 => (works05_any wa43).mono ?_)
        rintro e w43 ⟨rfl, hb43⟩
        skip
        refine ⟨_, rfl, hb43, fun kb43 _ bb43 => wV rfl ?_⟩
        (repeat (first | refine wN ?_ | refine wP rfl ?_ | refine cx_r rfl ?_ | refine cx_d (by kernel_rfl) rfl ?_ | refine wO rfl rfl ?_))
        refine VS.ret (cx_ok _ _) rfl rfl (fun wz kz bz => ?_)
        exact ⟨rfl, bz⟩
      · refine VO.fix 94 rfl (congrArg (fun b => AV.val (.bool b)) (decide_eq_false hle)) ?_
        (repeat (first | refine wN ?_ | refine wP rfl ?_ | refine cx_r rfl ?_ | refine cx_d (by kernel_rfl) rfl ?_ | refine wO rfl rfl ?_))
        refine VO.call rfl rfl (fk Try.func24) (fun wa40 ka40 ba40 => (rdFromCents_any _ (numOf s xs) 12 wa40 hxn.k (by omega)).mono ?_)
        rintro e w40 ⟨r40, rfl, q40, hb40⟩
        obtain ⟨s40, p40, n40, c40, t40, y40, m40, d40, rfl⟩ := q40.form
        refine ⟨_, rfl, hb40, fun kb40 _ bb40 => wV rfl ?_⟩
        (repeat (first | refine wN ?_ | refine wP rfl ?_ | refine cx_r rfl ?_ | refine cx_d (by kernel_rfl) rfl ?_ | refine wO rfl rfl ?_))
        refine VO.call rfl rfl (fk Try.func23) (fun wa41 ka41 ba41 => (rdCents_any _ (Rat.divInt (numOf s xs) 100) 13 wa41 (q40.ki hcs) (by omega)).mono ?_)
        rintro e w41 ⟨r41, rfl, q41, hb41⟩
        obtain ⟨s41, p41, n41, c41, rfl⟩ := q41.form
        refine ⟨_, rfl, hb41, fun kb41 _ bb41 => wV rfl ?_⟩
        (repeat (first | refine wN ?_ | refine wP rfl ?_ | refine cx_r rfl ?_ | refine cx_d (by kernel_rfl) rfl ?_ | refine wO rfl rfl ?_))
        refine VO.call rfl rfl (fk Try.func19) (fun wa42 ka42 ba42 => (bcmp_ok _ _ (numOf s xs) (numOf s xs) 12 12 wa42 ((q41.cast (cents_back (numOf s xs))).ki hX) hxn.k (by omega) (by omega) 0 (by rw [Int.sub_self]; rfl)).mono ?_)
        rintro e w42 ⟨rfl, hb42⟩
        skip
        refine ⟨_, rfl, hb42, fun kb42 _ bb42 => wV rfl ?_⟩
        (repeat (first | refine wN ?_ | refine wP rfl ?_ | refine cx_r rfl ?_ | refine cx_d (by kernel_rfl) rfl ?_ | refine wO rfl rfl ?_))
        refine VO.call rfl rfl (fk Try.func6) (fun wa43 ka43 ba43 => (works05_any wa43).mono ?_)
        rintro e w43 ⟨rfl, hb43⟩
        skip
        refine ⟨_, rfl, hb43, fun kb43 _ bb43 => wV rfl ?_⟩
        (repeat (first | refine wN ?_ | refine wP rfl ?_ | refine cx_r rfl ?_ | refine cx_d (by kernel_rfl) rfl ?_ | refine wO rfl rfl ?_))
        refine VS.ret (cx_ok _ _) rfl rfl (fun wz kz bz => ?_)
        exact ⟨rfl, bz⟩
    · obtain ⟨b2, o2, x, rfl, hb2', hxk, hcx⟩ := hrd13.cellAt (show 0 < n13 by omega)
      refine VO.fix 72 rfl (congrArg (fun b => AV.val (.bool b)) (decide_eq_true (show (n13 : Int) > 0 by omega))) ?_
      (repeat (first | refine wN ?_ | refine wP rfl ?_ | refine cx_r rfl ?_ | refine cx_d (by kernel_rfl) rfl ?_ | refine wO rfl rfl ?_))
      refine VO.cond rfl ⟨by omega, by omega⟩ (wV rfl ?_)
      have hcS := KpS.cell (K := KU UU) (show KpS (KU UU) w13 wS by (with_reducible (repeat (first | assumption | exact kU _ | exact kR _ | exact Kp.of (U := UU) (by assumption) | exact KpS.of (by assumption) | refine kT ?_ (by assumption))))) _ _ trivial hcx
      refine VO.readAt rfl [.int .u32 (x : Int)] rfl (fun j u hj w1 hw1 => read1 rfl (hw1.2.cell _ _ trivial hcS) j u hj) (wV rfl ?_)
      have hx2 : x % 2 = 0 := by
        have := (int_even (hf q)).1 hev
        rw [List.getD_eq_getElem?_getD, hxk] at this
        exact this
      (repeat (first | refine wN ?_ | refine wP rfl ?_ | refine cx_r rfl ?_ | refine cx_d (by kernel_rfl) rfl ?_ | refine wO rfl rfl ?_))
      refine VO.fix 81 rfl (congrArg (fun b => AV.val (.bool b)) (show (((x : Int).tmod 2) != 0) = false by rw [Int.tmod_eq_emod_of_nonneg (by omega)]; simp; omega)) ?_
      (repeat (first | refine wN ?_ | refine wP rfl ?_ | refine cx_r rfl ?_ | refine cx_d (by kernel_rfl) rfl ?_ | refine wO rfl rfl ?_))
      refine VO.call rfl rfl (fk Try.func18) (fun wa22 ka22 ba22 => (ratNeg_any _ q 12 wa22 hq.k (by omega)).mono ?_)
      rintro e w22 ⟨r22, rfl, q22, hb22⟩
      obtain ⟨s22, p22, n22, c22, t22, y22, m22, d22, rfl⟩ := q22.form
      refine ⟨_, rfl, hb22, fun kb22 _ bb22 => wV rfl ?_⟩
      (repeat (first | refine wN ?_ | refine wP rfl ?_ | refine cx_r rfl ?_ | refine cx_d (by kernel_rfl) rfl ?_ | refine wO rfl rfl ?_))
      refine VO.call rfl rfl (fk Try.func15) (fun wa23 ka23 ba23 => (rdHalf_any _ (-q) 12 wa23 (q22.ki hqs.neg) (by omega)).mono ?_)
      rintro e w23 ⟨r23, rfl, q23, hb23⟩
      obtain ⟨s23, p23, n23, c23, rfl⟩ := q23.form
      refine ⟨_, rfl, hb23, fun kb23 _ bb23 => wV rfl ?_⟩
      (repeat (first | refine wN ?_ | refine wP rfl ?_ | refine cx_r rfl ?_ | refine cx_d (by kernel_rfl) rfl ?_ | refine wO rfl rfl ?_))
      refine VO.call rfl rfl (fk Try.func20) (fun wa24 ka24 ba24 => (bneg_any _ (hf q) 13 wa24 (q13.ki zh) (by omega)).mono ?_)
      rintro e w24 ⟨r24, rfl, q24, hb24⟩
      obtain ⟨s24, p24, n24, c24, rfl⟩ := q24.form
      refine ⟨_, rfl, hb24, fun kb24 _ bb24 => wV rfl ?_⟩
      (repeat (first | refine wN ?_ | refine wP rfl ?_ | refine cx_r rfl ?_ | refine cx_d (by kernel_rfl) rfl ?_ | refine wO rfl rfl ?_))
      refine VO.call rfl rfl (fk Try.func19) (fun wa25 ka25 ba25 => (bcmp_ok _ _ (hf (-q)) (-hf q) 13 13 wa25 (q23.ki ((hf_neg q).symm ▸ zh.neg)) (q24.ki zh.neg) (by omega) (by omega) 0 (by rw [hf_neg, Int.sub_self]; rfl)).mono ?_)
      rintro e w25 ⟨rfl, hb25⟩
      skip
      refine ⟨_, rfl, hb25, fun kb25 _ bb25 => wV rfl ?_⟩
      (repeat (first | refine wN ?_ | refine wP rfl ?_ | refine cx_r rfl ?_ | refine cx_d (by kernel_rfl) rfl ?_ | refine wO rfl rfl ?_))
      refine VO.call rfl rfl (fk Try.func13) (fun wa26 ka26 ba26 => (ratCmp_any _ _ q r 12 12 wa26 hq.k hr.k (by omega) (by omega)).mono ?_)
      rintro e w26 ⟨rfl, hb26⟩
      refine ⟨_, rfl, hb26, fun kb26 _ bb26 => wV rfl ?_⟩
      (repeat (first | refine wN ?_ | refine wP rfl ?_ | refine cx_r rfl ?_ | refine cx_d (by kernel_rfl) rfl ?_ | refine wO rfl rfl ?_))
      by_cases hle : rcmp q r ≤ 0
      · have hqr : q ≤ r := rcmp_le.1 hle
        refine VO.fix 94 rfl (congrArg (fun b => AV.val (.bool b)) (decide_eq_true hle)) ?_
        (repeat (first | refine wN ?_ | refine wP rfl ?_ | refine cx_r rfl ?_ | refine cx_d (by kernel_rfl) rfl ?_ | refine wO rfl rfl ?_))
        refine VO.call rfl rfl (fk Try.func15) (fun wa27 ka27 ba27 => (rdHalf_any _ r 12 wa27 hr.k (by omega)).mono ?_)
        rintro e w27 ⟨r27, rfl, q27, hb27⟩
        obtain ⟨s27, p27, n27, c27, rfl⟩ := q27.form
        refine ⟨_, rfl, hb27, fun kb27 _ bb27 => wV rfl ?_⟩
        (repeat (first | refine wN ?_ | refine wP rfl ?_ | refine cx_r rfl ?_ | refine cx_d (by kernel_rfl) rfl ?_ | refine wO rfl rfl ?_))
        refine VO.call rfl rfl (fk Try.func19) (fun wa28 ka28 ba28 => (bcmp_any _ _ (hf q) (hf r) 13 13 wa28 (q13.ki zh) (q27.ki zhr) (by omega) (by omega)).mono ?_)
        rintro e w28 ⟨rfl, hb28⟩
        skip
        refine ⟨_, rfl, hb28, fun kb28 _ bb28 => wV rfl ?_⟩
        (repeat (first | refine wN ?_ | refine wP rfl ?_ | refine cx_r rfl ?_ | refine cx_d (by kernel_rfl) rfl ?_ | refine wO rfl rfl ?_))
        refine VO.fix 100 rfl (congrArg (fun b => AV.val (.bool b)) (decide_eq_false (sgn_le (hf_mono hqr)))) ?_
        (repeat (first | refine wN ?_ | refine wP rfl ?_ | refine cx_r rfl ?_ | refine cx_d (by kernel_rfl) rfl ?_ | refine wO rfl rfl ?_))
        refine VO.call rfl rfl (fk Try.func11) (fun wa29 ka29 ba29 => (rdFloor_any _ q 12 wa29 hq.k (by omega)).mono ?_)
        rintro e w29 ⟨r29, rfl, q29, hb29⟩
        obtain ⟨s29, p29, n29, c29, rfl⟩ := q29.form
        refine ⟨_, rfl, hb29, fun kb29 _ bb29 => wV rfl ?_⟩
        (repeat (first | refine wN ?_ | refine wP rfl ?_ | refine cx_r rfl ?_ | refine cx_d (by kernel_rfl) rfl ?_ | refine wO rfl rfl ?_))
        refine VO.call rfl rfl (fk Try.func11) (fun wa30 ka30 ba30 => (rdFloor_any _ r 12 wa30 hr.k (by omega)).mono ?_)
        rintro e w30 ⟨r30, rfl, q30, hb30⟩
        obtain ⟨s30, p30, n30, c30, rfl⟩ := q30.form
        refine ⟨_, rfl, hb30, fun kb30 _ bb30 => wV rfl ?_⟩
        (repeat (first | refine wN ?_ | refine wP rfl ?_ | refine cx_r rfl ?_ | refine cx_d (by kernel_rfl) rfl ?_ | refine wO rfl rfl ?_))
        refine VO.call rfl rfl (fk Try.func19) (fun wa31 ka31 ba31 => (bcmp_any _ _ q.floor r.floor 12 12 wa31 (q29.ki zf) (q30.ki (Sz.floor hrs)) (by omega) (by omega)).mono ?_)
        rintro e w31 ⟨rfl, hb31⟩
        skip
        refine ⟨_, rfl, hb31, fun kb31 _ bb31 => wV rfl ?_⟩
        (repeat (first | refine wN ?_ | refine wP rfl ?_ | refine cx_r rfl ?_ | refine cx_d (by kernel_rfl) rfl ?_ | refine wO rfl rfl ?_))
        refine VO.fix 108 rfl (congrArg (fun b => AV.val (.bool b)) (decide_eq_false (sgn_le (Rat.floor_monotone hqr)))) ?_
        (repeat (first | refine wN ?_ | refine wP rfl ?_ | refine cx_r rfl ?_ | refine cx_d (by kernel_rfl) rfl ?_ | refine wO rfl rfl ?_))
        refine VO.call rfl rfl (fk Try.func21) (fun wa32 ka32 ba32 => (rdCeil_any _ q 12 wa32 hq.k (by omega)).mono ?_)
        rintro e w32 ⟨r32, rfl, q32, hb32⟩
        obtain ⟨s32, p32, n32, c32, rfl⟩ := q32.form
        refine ⟨_, rfl, hb32, fun kb32 _ bb32 => wV rfl ?_⟩
        (repeat (first | refine wN ?_ | refine wP rfl ?_ | refine cx_r rfl ?_ | refine cx_d (by kernel_rfl) rfl ?_ | refine wO rfl rfl ?_))
        refine VO.call rfl rfl (fk Try.func21) (fun wa33 ka33 ba33 => (rdCeil_any _ r 12 wa33 hr.k (by omega)).mono ?_)
        rintro e w33 ⟨r33, rfl, q33, hb33⟩
        obtain ⟨s33, p33, n33, c33, rfl⟩ := q33.form
        refine ⟨_, rfl, hb33, fun kb33 _ bb33 => wV rfl ?_⟩
        (repeat (first | refine wN ?_ | refine wP rfl ?_ | refine cx_r rfl ?_ | refine cx_d (by kernel_rfl) rfl ?_ | refine wO rfl rfl ?_))
        refine VO.call rfl rfl (fk Try.func19) (fun wa34 ka34 ba34 => (bcmp_any _ _ (cl q) (cl r) 12 12 wa34 (q32.ki (Sz.cl2 hqs)) (q33.ki (Sz.cl2 hrs)) (by omega) (by omega)).mono ?_)
        rintro e w34 ⟨rfl, hb34⟩
        skip
        refine ⟨_, rfl, hb34, fun kb34 _ bb34 => wV rfl ?_⟩
        (repeat (first | refine wN ?_ | refine wP rfl ?_ | refine cx_r rfl ?_ | refine cx_d (by kernel_rfl) rfl ?_ | refine wO rfl rfl ?_))
        refine VO.fix 116 rfl (congrArg (fun b => AV.val (.bool b)) (decide_eq_false (sgn_le (cl_mono hqr)))) ?_
        (repeat (first | refine wN ?_ | refine wP rfl ?_ | refine cx_r rfl ?_ | refine cx_d (by kernel_rfl) rfl ?_ | refine wO rfl rfl ?_))
        refine VO.call rfl rfl (fk Try.func22) (fun wa35 ka35 ba35 => (rdTrunc_any _ q 12 wa35 hq.k (by omega)).mono ?_)
        rintro e w35 ⟨r35, rfl, q35, hb35⟩
        obtain ⟨s35, p35, n35, c35, rfl⟩ := q35.form
        refine ⟨_, rfl, hb35, fun kb35 _ bb35 => wV rfl ?_⟩
        (repeat (first | refine wN ?_ | refine wP rfl ?_ | refine cx_r rfl ?_ | refine cx_d (by kernel_rfl) rfl ?_ | refine wO rfl rfl ?_))
        refine VO.call rfl rfl (fk Try.func22) (fun wa36 ka36 ba36 => (rdTrunc_any _ r 12 wa36 hr.k (by omega)).mono ?_)
        rintro e w36 ⟨r36, rfl, q36, hb36⟩
        obtain ⟨s36, p36, n36, c36, rfl⟩ := q36.form
        refine ⟨_, rfl, hb36, fun kb36 _ bb36 => wV rfl ?_⟩
        (repeat (first | refine wN ?_ | refine wP rfl ?_ | refine cx_r rfl ?_ | refine cx_d (by kernel_rfl) rfl ?_ | refine wO rfl rfl ?_))
        refine VO.call rfl rfl (fk Try.func19) (fun wa37 ka37 ba37 => (bcmp_any _ _ (tr q) (tr r) 12 12 wa37 (q35.ki (Sz.tr2 hqs)) (q36.ki (Sz.tr2 hrs)) (by omega) (by omega)).mono ?_)
        rintro e w37 ⟨rfl, hb37⟩
        skip
        refine ⟨_, rfl, hb37, fun kb37 _ bb37 => wV rfl ?_⟩
        (repeat (first | refine wN ?_ | refine wP rfl ?_ | refine cx_r rfl ?_ | refine cx_d (by kernel_rfl) rfl ?_ | refine wO rfl rfl ?_))
        refine VS.condN rfl (decide_eq_false (sgn_le (tr_mono hqr))) ?_
        (repeat (first | refine wN ?_ | refine wP rfl ?_ | refine cx_r rfl ?_ | refine cx_d (by kernel_rfl) rfl ?_ | refine wO rfl rfl ?_))
        refine VO.call rfl rfl (fk Try.func24) (fun wa40 ka40 ba40 => (rdFromCents_any _ (numOf s xs) 12 wa40 hxn.k (by omega)).mono ?_)
        rintro e w40 ⟨r40, rfl, q40, hb40⟩
        obtain ⟨s40, p40, n40, c40, t40, y40, m40, d40, rfl⟩ := q40.form
        refine ⟨_, rfl, hb40, fun kb40 _ bb40 => wV rfl ?_⟩
        (repeat (first | refine wN ?_ | refine wP rfl ?_ | refine cx_r rfl ?_ | refine cx_d (by kernel_rfl) rfl ?_ | refine wO rfl rfl ?_))
        refine VO.call rfl rfl (fk Try.func23) (fun wa41 ka41 ba41 => (rdCents_any _ (Rat.divInt (numOf s xs) 100) 13 wa41 (q40.ki hcs) (by omega)).mono ?_)
        rintro e w41 ⟨r41, rfl, q41, hb41⟩
        obtain ⟨s41, p41, n41, c41, rfl⟩ := q41.form
        refine ⟨_, rfl, hb41, fun kb41 _ bb41 => wV rfl ?_⟩
        (repeat (first | refine wN ?_ | refine wP rfl ?_ | refine cx_r rfl ?_ | refine cx_d (by kernel_rfl) rfl ?_ | refine wO rfl rfl ?_))
        refine VO.call rfl rfl (fk Try.func19) (fun wa42 ka42 ba42 => (bcmp_ok _ _ (numOf s xs) (numOf s xs) 12 12 wa42 ((q41.cast (cents_back (numOf s xs))).ki hX) hxn.k (by omega) (by omega) 0 (by rw [Int.sub_self]; rfl)).mono ?_)
        rintro e w42 ⟨rfl, hb42⟩
        skip
        refine ⟨_, rfl, hb42, fun kb42 _ bb42 => wV rfl ?_⟩
        (repeat (first | refine wN ?_ | refine wP rfl ?_ | refine cx_r rfl ?_ | refine cx_d (by kernel_rfl) rfl ?_ | refine wO rfl rfl ?_))
        refine VO.call rfl rfl (fk Try.func6) (fun wa43 ka43 ba43 => (works05_any wa43).mono ?_)
        rintro e w43 ⟨rfl, hb43⟩
        skip
        refine ⟨_, rfl, hb43, fun kb43 _ bb43 => wV rfl ?_⟩
        (repeat (first | refine wN ?_ | refine wP rfl ?_ | refine cx_r rfl ?_ | refine cx_d (by kernel_rfl) rfl ?_ | refine wO rfl rfl ?_))
        refine VS.ret (cx_ok _ _) rfl rfl (fun wz kz bz => ?_)
        exact ⟨rfl, bz⟩
      · refine VO.fix 94 rfl (congrArg (fun b => AV.val (.bool b)) (decide_eq_false hle)) ?_
        (repeat (first | refine wN ?_ | refine wP rfl ?_ | refine cx_r rfl ?_ | refine cx_d (by kernel_rfl) rfl ?_ | refine wO rfl rfl ?_))
        refine VO.call rfl rfl (fk Try.func24) (fun wa40 ka40 ba40 => (rdFromCents_any _ (numOf s xs) 12 wa40 hxn.k (by omega)).mono ?_)
        rintro e w40 ⟨r40, rfl, q40, hb40⟩
        obtain ⟨s40, p40, n40, c40, t40, y40, m40, d40, rfl⟩ := q40.form
        refine ⟨_, rfl, hb40, fun kb40 _ bb40 => wV rfl ?_⟩
        (repeat (first | refine wN ?_ | refine wP rfl ?_ | refine cx_r rfl ?_ | refine cx_d (by kernel_rfl) rfl ?_ | refine wO rfl rfl ?_))
        refine VO.call rfl rfl (fk Try.func23) (fun wa41 ka41 ba41 => (rdCents_any _ (Rat.divInt (numOf s xs) 100) 13 wa41 (q40.ki hcs) (by omega)).mono ?_)
        rintro e w41 ⟨r41, rfl, q41, hb41⟩
        obtain ⟨s41, p41, n41, c41, rfl⟩ := q41.form
        refine ⟨_, rfl, hb41, fun kb41 _ bb41 => wV rfl ?_⟩
        (repeat (first | refine wN ?_ | refine wP rfl ?_ | refine cx_r rfl ?_ | refine cx_d (by kernel_rfl) rfl ?_ | refine wO rfl rfl ?_))
        refine VO.call rfl rfl (fk Try.func19) (fun wa42 ka42 ba42 => (bcmp_ok _ _ (numOf s xs) (numOf s xs) 12 12 wa42 ((q41.cast (cents_back (numOf s xs))).ki hX) hxn.k (by omega) (by omega) 0 (by rw [Int.sub_self]; rfl)).mono ?_)
        rintro e w42 ⟨rfl, hb42⟩
        skip
        refine ⟨_, rfl, hb42, fun kb42 _ bb42 => wV rfl ?_⟩
        (repeat (first | refine wN ?_ | refine wP rfl ?_ | refine cx_r rfl ?_ | refine cx_d (by kernel_rfl) rfl ?_ | refine wO rfl rfl ?_))
        refine VO.call rfl rfl (fk Try.func6) (fun wa43 ka43 ba43 => (works05_any wa43).mono ?_)
        rintro e w43 ⟨rfl, hb43⟩
        skip
        refine ⟨_, rfl, hb43, fun kb43 _ bb43 => wV rfl ?_⟩
        (repeat (first | refine wN ?_ | refine wP rfl ?_ | refine cx_r rfl ?_ | refine cx_d (by kernel_rfl) rfl ?_ | refine wO rfl rfl ?_))
        refine VS.ret (cx_ok _ _) rfl rfl (fun wz kz bz => ?_)
        exact ⟨rfl, bz⟩
  · rw [decide_eq_false hh]
    refine ⟨_, rfl, hb21, fun kb21 _ bb21 => wV rfl ?_⟩
    (repeat (first | refine wN ?_ | refine wP rfl ?_ | refine cx_r rfl ?_ | refine cx_d (by kernel_rfl) rfl ?_ | refine wO rfl rfl ?_))
    refine VO.call rfl rfl (fk Try.func18) (fun wa22 ka22 ba22 => (ratNeg_any _ q 12 wa22 hq.k (by omega)).mono ?_)
    rintro e w22 ⟨r22, rfl, q22, hb22⟩
    obtain ⟨s22, p22, n22, c22, t22, y22, m22, d22, rfl⟩ := q22.form
    refine ⟨_, rfl, hb22, fun kb22 _ bb22 => wV rfl ?_⟩
    (repeat (first | refine wN ?_ | refine wP rfl ?_ | refine cx_r rfl ?_ | refine cx_d (by kernel_rfl) rfl ?_ | refine wO rfl rfl ?_))
    refine VO.call rfl rfl (fk Try.func15) (fun wa23 ka23 ba23 => (rdHalf_any _ (-q) 12 wa23 (q22.ki hqs.neg) (by omega)).mono ?_)
    rintro e w23 ⟨r23, rfl, q23, hb23⟩
    obtain ⟨s23, p23, n23, c23, rfl⟩ := q23.form
    refine ⟨_, rfl, hb23, fun kb23 _ bb23 => wV rfl ?_⟩
    (repeat (first | refine wN ?_ | refine wP rfl ?_ | refine cx_r rfl ?_ | refine cx_d (by kernel_rfl) rfl ?_ | refine wO rfl rfl ?_))
    refine VO.call rfl rfl (fk Try.func20) (fun wa24 ka24 ba24 => (bneg_any _ (hf q) 13 wa24 (q13.ki zh) (by omega)).mono ?_)
    rintro e w24 ⟨r24, rfl, q24, hb24⟩
    obtain ⟨s24, p24, n24, c24, rfl⟩ := q24.form
    refine ⟨_, rfl, hb24, fun kb24 _ bb24 => wV rfl ?_⟩
    (repeat (first | refine wN ?_ | refine wP rfl ?_ | refine cx_r rfl ?_ | refine cx_d (by kernel_rfl) rfl ?_ | refine wO rfl rfl ?_))
    refine VO.call rfl rfl (fk Try.func19) (fun wa25 ka25 ba25 => (bcmp_ok _ _ (hf (-q)) (-hf q) 13 13 wa25 (q23.ki ((hf_neg q).symm ▸ zh.neg)) (q24.ki zh.neg) (by omega) (by omega) 0 (by rw [hf_neg, Int.sub_self]; rfl)).mono ?_)
    rintro e w25 ⟨rfl, hb25⟩
    skip
    refine ⟨_, rfl, hb25, fun kb25 _ bb25 => wV rfl ?_⟩
    (repeat (first | refine wN ?_ | refine wP rfl ?_ | refine cx_r rfl ?_ | refine cx_d (by kernel_rfl) rfl ?_ | refine wO rfl rfl ?_))
    refine VO.call rfl rfl (fk Try.func13) (fun wa26 ka26 ba26 => (ratCmp_any _ _ q r 12 12 wa26 hq.k hr.k (by omega) (by omega)).mono ?_)
    rintro e w26 ⟨rfl, hb26⟩
    refine ⟨_, rfl, hb26, fun kb26 _ bb26 => wV rfl ?_⟩
    (repeat (first | refine wN ?_ | refine wP rfl ?_ | refine cx_r rfl ?_ | refine cx_d (by kernel_rfl) rfl ?_ | refine wO rfl rfl ?_))
    by_cases hle : rcmp q r ≤ 0
    · have hqr : q ≤ r := rcmp_le.1 hle
      refine VO.fix 94 rfl (congrArg (fun b => AV.val (.bool b)) (decide_eq_true hle)) ?_
      (repeat (first | refine wN ?_ | refine wP rfl ?_ | refine cx_r rfl ?_ | refine cx_d (by kernel_rfl) rfl ?_ | refine wO rfl rfl ?_))
      refine VO.call rfl rfl (fk Try.func15) (fun wa27 ka27 ba27 => (rdHalf_any _ r 12 wa27 hr.k (by omega)).mono ?_)
      rintro e w27 ⟨r27, rfl, q27, hb27⟩
      obtain ⟨s27, p27, n27, c27, rfl⟩ := q27.form
      refine ⟨_, rfl, hb27, fun kb27 _ bb27 => wV rfl ?_⟩
      (repeat (first | refine wN ?_ | refine wP rfl ?_ | refine cx_r rfl ?_ | refine cx_d (by kernel_rfl) rfl ?_ | refine wO rfl rfl ?_))
      refine VO.call rfl rfl (fk Try.func19) (fun wa28 ka28 ba28 => (bcmp_any _ _ (hf q) (hf r) 13 13 wa28 (q13.ki zh) (q27.ki zhr) (by omega) (by omega)).mono ?_)
      rintro e w28 ⟨rfl, hb28⟩
      skip
      refine ⟨_, rfl, hb28, fun kb28 _ bb28 => wV rfl ?_⟩
      (repeat (first | refine wN ?_ | refine wP rfl ?_ | refine cx_r rfl ?_ | refine cx_d (by kernel_rfl) rfl ?_ | refine wO rfl rfl ?_))
      refine VO.fix 100 rfl (congrArg (fun b => AV.val (.bool b)) (decide_eq_false (sgn_le (hf_mono hqr)))) ?_
      (repeat (first | refine wN ?_ | refine wP rfl ?_ | refine cx_r rfl ?_ | refine cx_d (by kernel_rfl) rfl ?_ | refine wO rfl rfl ?_))
      refine VO.call rfl rfl (fk Try.func11) (fun wa29 ka29 ba29 => (rdFloor_any _ q 12 wa29 hq.k (by omega)).mono ?_)
      rintro e w29 ⟨r29, rfl, q29, hb29⟩
      obtain ⟨s29, p29, n29, c29, rfl⟩ := q29.form
      refine ⟨_, rfl, hb29, fun kb29 _ bb29 => wV rfl ?_⟩
      (repeat (first | refine wN ?_ | refine wP rfl ?_ | refine cx_r rfl ?_ | refine cx_d (by kernel_rfl) rfl ?_ | refine wO rfl rfl ?_))
      refine VO.call rfl rfl (fk Try.func11) (fun wa30 ka30 ba30 => (rdFloor_any _ r 12 wa30 hr.k (by omega)).mono ?_)
      rintro e w30 ⟨r30, rfl, q30, hb30⟩
      obtain ⟨s30, p30, n30, c30, rfl⟩ := q30.form
      refine ⟨_, rfl, hb30, fun kb30 _ bb30 => wV rfl ?_⟩
      (repeat (first | refine wN ?_ | refine wP rfl ?_ | refine cx_r rfl ?_ | refine cx_d (by kernel_rfl) rfl ?_ | refine wO rfl rfl ?_))
      refine VO.call rfl rfl (fk Try.func19) (fun wa31 ka31 ba31 => (bcmp_any _ _ q.floor r.floor 12 12 wa31 (q29.ki zf) (q30.ki (Sz.floor hrs)) (by omega) (by omega)).mono ?_)
      rintro e w31 ⟨rfl, hb31⟩
      skip
      refine ⟨_, rfl, hb31, fun kb31 _ bb31 => wV rfl ?_⟩
      (repeat (first | refine wN ?_ | refine wP rfl ?_ | refine cx_r rfl ?_ | refine cx_d (by kernel_rfl) rfl ?_ | refine wO rfl rfl ?_))
      refine VO.fix 108 rfl (congrArg (fun b => AV.val (.bool b)) (decide_eq_false (sgn_le (Rat.floor_monotone hqr)))) ?_
      (repeat (first | refine wN ?_ | refine wP rfl ?_ | refine cx_r rfl ?_ | refine cx_d (by kernel_rfl) rfl ?_ | refine wO rfl rfl ?_))
      refine VO.call rfl rfl (fk Try.func21) (fun wa32 ka32 ba32 => (rdCeil_any _ q 12 wa32 hq.k (by omega)).mono ?_)
      rintro e w32 ⟨r32, rfl, q32, hb32⟩
      obtain ⟨s32, p32, n32, c32, rfl⟩ := q32.form
      refine ⟨_, rfl, hb32, fun kb32 _ bb32 => wV rfl ?_⟩
      (repeat (first | refine wN ?_ | refine wP rfl ?_ | refine cx_r rfl ?_ | refine cx_d (by kernel_rfl) rfl ?_ | refine wO rfl rfl ?_))
      refine VO.call rfl rfl (fk Try.func21) (fun wa33 ka33 ba33 => (rdCeil_any _ r 12 wa33 hr.k (by omega)).mono ?_)
      rintro e w33 ⟨r33, rfl, q33, hb33⟩
      obtain ⟨s33, p33, n33, c33, rfl⟩ := q33.form
      refine ⟨_, rfl, hb33, fun kb33 _ bb33 => wV rfl ?_⟩
      (repeat (first | refine wN ?_ | refine wP rfl ?_ | refine cx_r rfl ?_ | refine cx_d (by kernel_rfl) rfl ?_ | refine wO rfl rfl ?_))
      refine VO.call rfl rfl (fk Try.func19) (fun wa34 ka34 ba34 => (bcmp_any _ _ (cl q) (cl r) 12 12 wa34 (q32.ki (Sz.cl2 hqs)) (q33.ki (Sz.cl2 hrs)) (by omega) (by omega)).mono ?_)
      rintro e w34 ⟨rfl, hb34⟩
      skip
      refine ⟨_, rfl, hb34, fun kb34 _ bb34 => wV rfl ?_⟩
      (repeat (first | refine wN ?_ | refine wP rfl ?_ | refine cx_r rfl ?_ | refine cx_d (by kernel_rfl) rfl ?_ | refine wO rfl rfl ?_))
      refine VO.fix 116 rfl (congrArg (fun b => AV.val (.bool b)) (decide_eq_false (sgn_le (cl_mono hqr)))) ?_
      (repeat (first | refine wN ?_ | refine wP rfl ?_ | refine cx_r rfl ?_ | refine cx_d (by kernel_rfl) rfl ?_ | refine wO rfl rfl ?_))
      refine VO.call rfl rfl (fk Try.func22) (fun wa35 ka35 ba35 => (rdTrunc_any _ q 12 wa35 hq.k (by omega)).mono ?_)
      rintro e w35 ⟨r35, rfl, q35, hb35⟩
      obtain ⟨s35, p35, n35, c35, rfl⟩ := q35.form
      refine ⟨_, rfl, hb35, fun kb35 _ bb35 => wV rfl ?_⟩
      (repeat (first | refine wN ?_ | refine wP rfl ?_ | refine cx_r rfl ?_ | refine cx_d (by kernel_rfl) rfl ?_ | refine wO rfl rfl ?_))
      refine VO.call rfl rfl (fk Try.func22) (fun wa36 ka36 ba36 => (rdTrunc_any _ r 12 wa36 hr.k (by omega)).mono ?_)
      rintro e w36 ⟨r36, rfl, q36, hb36⟩
      obtain ⟨s36, p36, n36, c36, rfl⟩ := q36.form
      refine ⟨_, rfl, hb36, fun kb36 _ bb36 => wV rfl ?_⟩
      (repeat (first | refine wN ?_ | refine wP rfl ?_ | refine cx_r rfl ?_ | refine cx_d (by kernel_rfl) rfl ?_ | refine wO rfl rfl ?_))
      refine VO.call rfl rfl (fk Try.func19) (fun wa37 ka37 ba37 => (bcmp_any _ _ (tr q) (tr r) 12 12 wa37 (q35.ki (Sz.tr2 hqs)) (q36.ki (Sz.tr2 hrs)) (by omega) (by omega)).mono ?_)
      rintro e w37 ⟨rfl, hb37⟩
      skip
      refine ⟨_, rfl, hb37, fun kb37 _ bb37 => wV rfl ?_⟩
      (repeat (first | refine wN ?_ | refine wP rfl ?_ | refine cx_r rfl ?_ | refine cx_d (by kernel_rfl) rfl ?_ | refine wO rfl rfl ?_))
      refine VS.condN rfl (decide_eq_false (sgn_le (tr_mono hqr))) ?_
      (repeat (first | refine wN ?_ | refine wP rfl ?_ | refine cx_r rfl ?_ | refine cx_d (by kernel_rfl) rfl ?_ | refine wO rfl rfl ?_))
      refine VO.call rfl rfl (fk Try.func24) (fun wa40 ka40 ba40 => (rdFromCents_any _ (numOf s xs) 12 wa40 hxn.k (by omega)).mono ?_)
      rintro e w40 ⟨r40, rfl, q40, hb40⟩
      obtain ⟨s40, p40, n40, c40, t40, y40, m40, d40, rfl⟩ := q40.form
      refine ⟨_, rfl, hb40, fun kb40 _ bb40 => wV rfl ?_⟩
      (repeat (first | refine wN ?_ | refine wP rfl ?_ | refine cx_r rfl ?_ | refine cx_d (by kernel_rfl) rfl ?_ | refine wO rfl rfl ?_))
      refine VO.call rfl rfl (fk Try.func23) (fun wa41 ka41 ba41 => (rdCents_any _ (Rat.divInt (numOf s xs) 100) 13 wa41 (q40.ki hcs) (by omega)).mono ?_)
      rintro e w41 ⟨r41, rfl, q41, hb41⟩
      obtain ⟨s41, p41, n41, c41, rfl⟩ := q41.form
      refine ⟨_, rfl, hb41, fun kb41 _ bb41 => wV rfl ?_⟩
      (repeat (first | refine wN ?_ | refine wP rfl ?_ | refine cx_r rfl ?_ | refine cx_d (by kernel_rfl) rfl ?_ | refine wO rfl rfl ?_))
      refine VO.call rfl rfl (fk Try.func19) (fun wa42 ka42 ba42 => (bcmp_ok _ _ (numOf s xs) (numOf s xs) 12 12 wa42 ((q41.cast (cents_back (numOf s xs))).ki hX) hxn.k (by omega) (by omega) 0 (by rw [Int.sub_self]; rfl)).mono ?_)
      rintro e w42 ⟨rfl, hb42⟩
      skip
      refine ⟨_, rfl, hb42, fun kb42 _ bb42 => wV rfl ?_⟩
      (repeat (first | refine wN ?_ | refine wP rfl ?_ | refine cx_r rfl ?_ | refine cx_d (by kernel_rfl) rfl ?_ | refine wO rfl rfl ?_))
      refine VO.call rfl rfl (fk Try.func6) (fun wa43 ka43 ba43 => (works05_any wa43).mono ?_)
      rintro e w43 ⟨rfl, hb43⟩
      skip
      refine ⟨_, rfl, hb43, fun kb43 _ bb43 => wV rfl ?_⟩
      (repeat (first | refine wN ?_ | refine wP rfl ?_ | refine cx_r rfl ?_ | refine cx_d (by kernel_rfl) rfl ?_ | refine wO rfl rfl ?_))
      refine VS.ret (cx_ok _ _) rfl rfl (fun wz kz bz => ?_)
      exact ⟨rfl, bz⟩
    · refine VO.fix 94 rfl (congrArg (fun b => AV.val (.bool b)) (decide_eq_false hle)) ?_
      (repeat (first | refine wN ?_ | refine wP rfl ?_ | refine cx_r rfl ?_ | refine cx_d (by kernel_rfl) rfl ?_ | refine wO rfl rfl ?_))
      refine VO.call rfl rfl (fk Try.func24) (fun wa40 ka40 ba40 => (rdFromCents_any _ (numOf s xs) 12 wa40 hxn.k (by omega)).mono ?_)
      rintro e w40 ⟨r40, rfl, q40, hb40⟩
      obtain ⟨s40, p40, n40, c40, t40, y40, m40, d40, rfl⟩ := q40.form
      refine ⟨_, rfl, hb40, fun kb40 _ bb40 => wV rfl ?_⟩
      (repeat (first | refine wN ?_ | refine wP rfl ?_ | refine cx_r rfl ?_ | refine cx_d (by kernel_rfl) rfl ?_ | refine wO rfl rfl ?_))
      refine VO.call rfl rfl (fk Try.func23) (fun wa41 ka41 ba41 => (rdCents_any _ (Rat.divInt (numOf s xs) 100) 13 wa41 (q40.ki hcs) (by omega)).mono ?_)
      rintro e w41 ⟨r41, rfl, q41, hb41⟩
      obtain ⟨s41, p41, n41, c41, rfl⟩ := q41.form
      refine ⟨_, rfl, hb41, fun kb41 _ bb41 => wV rfl ?_⟩
      (repeat (first | refine wN ?_ | refine wP rfl ?_ | refine cx_r rfl ?_ | refine cx_d (by kernel_rfl) rfl ?_ | refine wO rfl rfl ?_))
      refine VO.call rfl rfl (fk Try.func19) (fun wa42 ka42 ba42 => (bcmp_ok _ _ (numOf s xs) (numOf s xs) 12 12 wa42 ((q41.cast (cents_back (numOf s xs))).ki hX) hxn.k (by omega) (by omega) 0 (by rw [Int.sub_self]; rfl)).mono ?_)
      rintro e w42 ⟨rfl, hb42⟩
      skip
      refine ⟨_, rfl, hb42, fun kb42 _ bb42 => wV rfl ?_⟩
      (repeat (first | refine wN ?_ | refine wP rfl ?_ | refine cx_r rfl ?_ | refine cx_d (by kernel_rfl) rfl ?_ | refine wO rfl rfl ?_))
      refine VO.call rfl rfl (fk Try.func6) (fun wa43 ka43 ba43 => (works05_any wa43).mono ?_)
      rintro e w43 ⟨rfl, hb43⟩
      skip
      refine ⟨_, rfl, hb43, fun kb43 _ bb43 => wV rfl ?_⟩
      (repeat (first | refine wN ?_ | refine wP rfl ?_ | refine cx_r rfl ?_ | refine cx_d (by kernel_rfl) rfl ?_ | refine wO rfl rfl ?_))
      refine VS.ret (cx_ok _ _) rfl rfl (fun wz kz bz => ?_)
      exact ⟨rfl, bz⟩
end Go.Proofs.Ytkafabgcdlfhiaa
