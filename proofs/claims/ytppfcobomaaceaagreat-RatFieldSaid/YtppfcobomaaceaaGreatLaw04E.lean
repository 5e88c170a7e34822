/- RatField: what three fractions come to. -/
import Derived.Test.YtppfcobomaaceaaGreatLaw04D
namespace Go.Proofs.YtppfcobomaaceaaGreat
open Go.RowKit
attribute [local irreducible] vcOps VS

theorem ratRight_canon (v : Value) (q : Rat) (k : Nat) (w : World) (h : RatRd w v q) (hs : RSz q k) (hk : k ≤ 536870912) :
    Calls Tryz.prog 22 #[v] w fun e w' => e = .returned (.bool true) ∧ Beh w w' := by
  have hr := ratRight_any _ _ _ _ v w h.raw (Nat.le_trans hs.1 hk) (Nat.le_trans hs.2 hk)
  have e : rtB (decide (q.num < 0)) (limbs q.num.natAbs) (decide ((q.den : Int) < 0)) (limbs (q.den : Int).natAbs) = true := by
    unfold rtB
    have h1 := nright_canon q.num
    have h2 := nright_canon (q.den : Int)
    rw [h1, h2, numOf_canon, numOf_canon]
    have h3 : (0 : Int) < q.den := by have := q.den_nz; omega
    have h4 : Int.gcd q.num q.den = 1 := by have := q.reduced; simpa [Int.gcd, Nat.Coprime] using this
    rw [decide_eq_true h3, decide_eq_true h4]; rfl
  rw [e] at hr
  exact hr

theorem rcmp_le {a b : Rat} : rcmp a b ≤ 0 ↔ a ≤ b := by
  unfold rcmp
  split
  · rename_i h; exact ⟨fun _ => Rat.le_of_lt h, fun _ => by omega⟩
  · split
    · rename_i h; exact ⟨fun _ => by rw [h]; exact Rat.le_refl, fun _ => by omega⟩
    · rename_i h1 h2; exact ⟨fun h => by omega, fun h => absurd (Rat.not_lt.1 h1) (fun h3 => h2 (Rat.le_antisymm h h3))⟩
theorem rcmp_ge {a b : Rat} : rcmp a b ≥ 0 ↔ b ≤ a := by
  unfold rcmp
  split
  · rename_i h; exact ⟨fun _ => by omega, fun h' => absurd h (Rat.not_lt.2 h')⟩
  · rename_i h
    split
    · exact ⟨fun _ => Rat.not_lt.1 h, fun _ => by omega⟩
    · exact ⟨fun _ => Rat.not_lt.1 h, fun _ => by omega⟩
theorem rcmp_eq {a b : Rat} (h : a = b) : rcmp a b = 0 := by subst h; unfold rcmp; rw [if_neg (by exact Rat.lt_irrefl), if_pos rfl]
theorem rcmp_ne {b : Rat} (h : b ≠ 0) : rcmp b 0 ≠ 0 := by
  unfold rcmp
  split
  · omega
  · first | omega | (rw [if_neg h]; omega)
theorem rcmp_zero' {b : Rat} (h : b = 0) : rcmp b 0 = 0 := rcmp_eq h
theorem bne_zero' {z : Int} (h : z = 0) : (z != 0) = false := by rw [h]; rfl
theorem rcmp_turn (a b : Rat) : (rcmp a b != IntKind.i64.wrap (0 - rcmp b a)) = false := by
  have : IntKind.i64.wrap (0 - rcmp b a) = rcmp a b := by
    unfold rcmp
    by_cases h1 : a < b
    · have h2 : ¬ b < a := Rat.not_lt.2 (Rat.le_of_lt h1)
      have h3 : ¬ b = a := fun e => Rat.lt_irrefl (e ▸ h1)
      rw [if_neg h2, if_neg h3, if_pos h1]; rfl
    · by_cases h2 : a = b
      · subst h2; rw [if_neg h1, if_pos rfl]; rfl
      · have h3 : b < a := by
          rcases Rat.le_total (a := a) (b := b) with e | e
          · exact absurd (Rat.not_lt.1 h1) (fun e' => h2 (Rat.le_antisymm e e'))
          · exact Rat.not_le.1 (fun e' => h2 (Rat.le_antisymm e' e))
        rw [if_pos h3, if_neg h1, if_neg h2]; rfl
  rw [this]
  exact bne_self_eq_false _
theorem rf1 (a b c : Rat) : a + b + c = c + (b + a) := by grind
theorem rf2 (a b c : Rat) : a * b * c = c * (b * a) := by grind
theorem rf3 (a b c : Rat) : a + b + c = rsum [b, c, a] := by show a + b + c = 0 + b + c + a; grind
theorem rf4 (a b c : Rat) : a * b * c = rprod [c, a, b] := by show a * b * c = 1 * c * a * b; grind
theorem rf5 (a b c : Rat) : a * (b + c) = a * b + a * c := by grind
theorem rf6 (a b : Rat) : rcmp (a + b - b) a = 0 := rcmp_eq (by grind)
theorem rf7 (a : Rat) : rcmp (a + -a) 0 = 0 := rcmp_eq (by grind)
theorem rf8 (a : Rat) {b : Rat} (h : b ≠ 0) : rcmp (a * b / b) a = 0 := rcmp_eq (by rw [Rat.div_def, Rat.mul_assoc, Rat.mul_inv_cancel b h, Rat.mul_one])
theorem rf10 {a b c : Rat} (h1 : rcmp a b ≤ 0) (h2 : rcmp b c ≤ 0) : ¬ rcmp a c > 0 := by
  have := rcmp_le.2 (Rat.le_trans (rcmp_le.1 h1) (rcmp_le.1 h2))
  omega
theorem rf11 {a b : Rat} (c : Rat) (h : rcmp a b ≤ 0) : ¬ rcmp (a + c) (b + c) > 0 := by
  have := rcmp_le.2 ((Rat.add_le_add_right (c := c)).2 (rcmp_le.1 h))
  omega
theorem rless_iff {y x : Rat} : rless y x = true ↔ y < x := by
  unfold rless rcmp
  by_cases h : y < x
  · simp [h]
  · simp only [h, if_false, iff_false]; split <;> simp
theorem rmore_iff {y x : Rat} : rmore y x = true ↔ x < y := by
  unfold rmore
  rw [decide_eq_true_iff]
  constructor
  · intro h
    exact Rat.not_le.1 (fun e => by have := rcmp_le.2 e; omega)
  · intro h
    have := mt rcmp_le.1 (Rat.not_le.2 h)
    omega
theorem lo_all (a b c : Rat) : rbest rless a [b, c] ≤ a ∧ rbest rless a [b, c] ≤ b ∧ rbest rless a [b, c] ≤ c := by
  have e : rbest rless a [b, c] = (if rless c (if rless b a = true then b else a) = true then c else (if rless b a = true then b else a)) := rfl
  rw [e]
  simp only [rless_iff]
  grind
theorem hi_all (a b c : Rat) : a ≤ rbest rmore a [b, c] ∧ b ≤ rbest rmore a [b, c] ∧ c ≤ rbest rmore a [b, c] := by
  have e : rbest rmore a [b, c] = (if rmore c (if rmore b a = true then b else a) = true then c else (if rmore b a = true then b else a)) := rfl
  rw [e]
  simp only [rmore_iff]
  grind
theorem rf_lo0 (a b c : Rat) : rcmp (rbest rless a [b, c]) a ≤ 0 := rcmp_le.2 (lo_all a b c).1
theorem rf_lo1 (a b c : Rat) : rcmp (rbest rless a [b, c]) b ≤ 0 := rcmp_le.2 (lo_all a b c).2.1
theorem rf_lo2 (a b c : Rat) : rcmp (rbest rless a [b, c]) c ≤ 0 := rcmp_le.2 (lo_all a b c).2.2
theorem rf_hi0 (a b c : Rat) : rcmp (rbest rmore a [b, c]) a ≥ 0 := rcmp_ge.2 (hi_all a b c).1
theorem rf_hi1 (a b c : Rat) : rcmp (rbest rmore a [b, c]) b ≥ 0 := rcmp_ge.2 (hi_all a b c).2.1
theorem rf_hi2 (a b c : Rat) : rcmp (rbest rmore a [b, c]) c ≥ 0 := rcmp_ge.2 (hi_all a b c).2.2
theorem rcode_cases' (q : Rat) : (rcode q = 0 ∧ q ≠ 0) ∨ (rcode q = 20 ∧ q = 0) := by
  unfold rcode
  split
  · exact .inr ⟨rfl, by assumption⟩
  · exact .inl ⟨rfl, by assumption⟩

set_option maxRecDepth 4000 in
set_option maxHeartbeats 8000000 in
theorem ratField_any (s t s' t' s'' t'' : Bool) (xs ys xs' ys' xs'' ys'' : List Nat) (va vb vc : Value) (w : World) (ha : RatRaw w va s xs t ys) (hb : RatRaw w vb s' xs' t' ys') (hc : RatRaw w vc s'' xs'' t'' ys'') :
    Calls Tryz.prog 5 #[va, vb, vc] w fun e w' => e = .returned (.bool true) ∧ Beh w w' := by
  have hAr := ha
  have hBr := hb
  have hCr := hc
  obtain ⟨ap, ac, ar, ad, rfl, _, _⟩ := ha
  obtain ⟨bp, bc, br, bd, rfl, _, _⟩ := hb
  obtain ⟨cp, cc, cr, cd0, rfl, _, _⟩ := hc
  refine calm_enter (C := cxOf Tryz.prog w _) (args := [_, _, _]) Tryz.func5 rfl Tryz.ntmps5 (Nat.le_of_ble_eq_true rfl) ?_
  (repeat (first | refine wN ?_ | refine wQ ?_ | refine cx_r rfl ?_ | refine cx_d (by kernel_rfl) rfl ?_ | refine wO rfl rfl ?_ | refine wT rfl ?_ | refine wF rfl ?_ | refine wB ?_ | refine wK ?_ | refine wE rfl ?_ | refine wS ?_))
  refine VO.call rfl rfl ⟨_, Tryz.func7, by kernel_rfl, by kernel_rfl⟩ (fun wa1 ka1 ba1 => (few04_any s t xs ys _ 8 wa1 (hAr.kp ka1)).mono ?_)
  rintro e w1 ⟨rfl, hb1⟩
  by_cases hfa : xs.length ≤ 8 ∧ ys.length ≤ 8
  · rw [decide_eq_true hfa]
    refine ⟨_, rfl, hb1, fun kb1 _ bb1 => wV rfl ?_⟩
    (repeat (first | refine wN ?_ | refine wQ ?_ | refine cx_r rfl ?_ | refine cx_d (by kernel_rfl) rfl ?_ | refine wO rfl rfl ?_ | refine wT rfl ?_ | refine wF rfl ?_ | refine wB ?_ | refine wK ?_ | refine wE rfl ?_ | refine wS ?_))
    refine VO.call rfl rfl ⟨_, Tryz.func7, by kernel_rfl, by kernel_rfl⟩ (fun wa2 ka2 ba2 => (few04_any s' t' xs' ys' _ 8 wa2 (hBr.kp (Kp.of (U := UU) ba2))).mono ?_)
    rintro e w2 ⟨rfl, hb2⟩
    by_cases hfb : xs'.length ≤ 8 ∧ ys'.length ≤ 8
    · rw [decide_eq_true hfb]
      refine ⟨_, rfl, hb2, fun kb2 _ bb2 => wV rfl ?_⟩
      (repeat (first | refine wN ?_ | refine wQ ?_ | refine cx_r rfl ?_ | refine cx_d (by kernel_rfl) rfl ?_ | refine wO rfl rfl ?_ | refine wT rfl ?_ | refine wF rfl ?_ | refine wB ?_ | refine wK ?_ | refine wE rfl ?_ | refine wS ?_))
      refine VO.call rfl rfl ⟨_, Tryz.func7, by kernel_rfl, by kernel_rfl⟩ (fun wa3 ka3 ba3 => (few04_any s'' t'' xs'' ys'' _ 8 wa3 (hCr.kp (Kp.of (U := UU) ba3))).mono ?_)
      rintro e w3 ⟨rfl, hb3⟩
      by_cases hfc : xs''.length ≤ 8 ∧ ys''.length ≤ 8
      · rw [decide_eq_true hfc]
        refine ⟨_, rfl, hb3, fun kb3 _ bb3 => wV rfl ?_⟩
        (repeat (first | refine wN ?_ | refine wQ ?_ | refine cx_r rfl ?_ | refine cx_d (by kernel_rfl) rfl ?_ | refine wO rfl rfl ?_ | refine wT rfl ?_ | refine wF rfl ?_ | refine wB ?_ | refine wK ?_ | refine wE rfl ?_ | refine wS ?_))
        have hA := hAr.in hfa.1 hfa.2
        have hB := hBr.in hfb.1 hfb.2
        have hC := hCr.in hfc.1 hfc.2
        obtain ⟨qa, hqa⟩ : ∃ q, q = rq s xs t ys := ⟨_, rfl⟩
        obtain ⟨qb, hqb⟩ : ∃ q, q = rq s' xs' t' ys' := ⟨_, rfl⟩
        obtain ⟨qc, hqc⟩ : ∃ q, q = rq s'' xs'' t'' ys'' := ⟨_, rfl⟩
        rw [← hqa] at hA
        rw [← hqb] at hB
        rw [← hqc] at hC
        have hA8 : RSz qa 8 := hA.sz (by omega)
        have hB8 : RSz qb 8 := hB.sz (by omega)
        have hC8 : RSz qc 8 := hC.sz (by omega)
        obtain ⟨cd, hcd⟩ : ∃ c, rcode qb = c := ⟨_, rfl⟩
        have hcc : (cd = 0 ∧ qb ≠ 0) ∨ (cd = 20 ∧ qb = 0) := hcd ▸ rcode_cases' qb
        clear hqa hqb hqc hAr hBr hCr ka1 ba1 hb1 ka2 ba2 hb2 ka3 ba3 hb3
        --FIELD
        refine VO.call rfl rfl ⟨_, Tryz.func11, by kernel_rfl, by kernel_rfl⟩ (fun wa11 ka11 ba11 => (ratAdd_any _ _ (qa) (qb) (8) (8) wa11 (hA.kp (Kp.of (U := UU) ba11)) (hB.kp (Kp.of (U := UU) ba11)) (by omega) (by omega)).mono ?_)
        rintro e w11 ⟨r11, rfl, q11, hb11⟩
        obtain ⟨s11, p11, n11, c11, t11, y11, m11, d11, rfl⟩ := q11.form
        refine ⟨_, rfl, hb11, fun kb11 _ bb11 => wV rfl ?_⟩
        (repeat (first | refine wN ?_ | refine wQ ?_ | refine cx_r rfl ?_ | refine cx_d (by kernel_rfl) rfl ?_ | refine wO rfl rfl ?_ | refine wT rfl ?_ | refine wF rfl ?_ | refine wB ?_ | refine wK ?_ | refine wE rfl ?_ | refine wS ?_))
        refine VO.call rfl rfl ⟨_, Tryz.func11, by kernel_rfl, by kernel_rfl⟩ (fun wa12 ka12 ba12 => (ratAdd_any _ _ ((qa) + (qb)) (qc) (17) (8) wa12 ((q11.kp (by (with_reducible (repeat (first | assumption | exact kR _ | refine kT ?_ (by assumption)))))).in (RSz.add hA8 hB8)) (hC.kp (Kp.of (U := UU) ba12)) (by omega) (by omega)).mono ?_)
        rintro e w12 ⟨r12, rfl, q12, hb12⟩
        obtain ⟨s12, p12, n12, c12, t12, y12, m12, d12, rfl⟩ := q12.form
        refine ⟨_, rfl, hb12, fun kb12 _ bb12 => wV rfl ?_⟩
        (repeat (first | refine wN ?_ | refine wQ ?_ | refine cx_r rfl ?_ | refine cx_d (by kernel_rfl) rfl ?_ | refine wO rfl rfl ?_ | refine wT rfl ?_ | refine wF rfl ?_ | refine wB ?_ | refine wK ?_ | refine wE rfl ?_ | refine wS ?_))
        refine VO.call rfl rfl ⟨_, Tryz.func13, by kernel_rfl, by kernel_rfl⟩ (fun wa13 ka13 ba13 => (ratMul_any _ _ (qa) (qb) (8) (8) wa13 (hA.kp (Kp.of (U := UU) ba13)) (hB.kp (Kp.of (U := UU) ba13)) (by omega) (by omega)).mono ?_)
        rintro e w13 ⟨r13, rfl, q13, hb13⟩
        obtain ⟨s13, p13, n13, c13, t13, y13, m13, d13, rfl⟩ := q13.form
        refine ⟨_, rfl, hb13, fun kb13 _ bb13 => wV rfl ?_⟩
        (repeat (first | refine wN ?_ | refine wQ ?_ | refine cx_r rfl ?_ | refine cx_d (by kernel_rfl) rfl ?_ | refine wO rfl rfl ?_ | refine wT rfl ?_ | refine wF rfl ?_ | refine wB ?_ | refine wK ?_ | refine wE rfl ?_ | refine wS ?_))
        refine VO.call rfl rfl ⟨_, Tryz.func13, by kernel_rfl, by kernel_rfl⟩ (fun wa14 ka14 ba14 => (ratMul_any _ _ ((qa) * (qb)) (qc) (16) (8) wa14 ((q13.kp (by (with_reducible (repeat (first | assumption | exact kR _ | refine kT ?_ (by assumption)))))).in (RSz.mul hA8 hB8)) (hC.kp (Kp.of (U := UU) ba14)) (by omega) (by omega)).mono ?_)
        rintro e w14 ⟨r14, rfl, q14, hb14⟩
        obtain ⟨s14, p14, n14, c14, t14, y14, m14, d14, rfl⟩ := q14.form
        refine ⟨_, rfl, hb14, fun kb14 _ bb14 => wV rfl ?_⟩
        (repeat (first | refine wN ?_ | refine wQ ?_ | refine cx_r rfl ?_ | refine cx_d (by kernel_rfl) rfl ?_ | refine wO rfl rfl ?_ | refine wT rfl ?_ | refine wF rfl ?_ | refine wB ?_ | refine wK ?_ | refine wE rfl ?_ | refine wS ?_))
        refine VO.call rfl rfl ⟨_, Tryz.func22, by kernel_rfl, by kernel_rfl⟩ (fun wa15 ka15 ba15 => (ratRight_canon _ (((qa) + (qb)) + (qc)) (26) wa15 (q12.kp (by (with_reducible (repeat (first | assumption | exact kR _ | refine kT ?_ (by assumption)))))).rd (RSz.add (RSz.add hA8 hB8) hC8) (by omega)).mono ?_)
        rintro e w15 ⟨rfl, hb15⟩
        skip
        refine ⟨_, rfl, hb15, fun kb15 _ bb15 => wV rfl ?_⟩
        (repeat (first | refine wN ?_ | refine wQ ?_ | refine cx_r rfl ?_ | refine cx_d (by kernel_rfl) rfl ?_ | refine wO rfl rfl ?_ | refine wT rfl ?_ | refine wF rfl ?_ | refine wB ?_ | refine wK ?_ | refine wE rfl ?_ | refine wS ?_))
        refine VO.call rfl rfl ⟨_, Tryz.func22, by kernel_rfl, by kernel_rfl⟩ (fun wa16 ka16 ba16 => (ratRight_canon _ (((qa) * (qb)) * (qc)) (24) wa16 (q14.kp (by (with_reducible (repeat (first | assumption | exact kR _ | refine kT ?_ (by assumption)))))).rd (RSz.mul (RSz.mul hA8 hB8) hC8) (by omega)).mono ?_)
        rintro e w16 ⟨rfl, hb16⟩
        skip
        refine ⟨_, rfl, hb16, fun kb16 _ bb16 => wV rfl ?_⟩
        (repeat (first | refine wN ?_ | refine wQ ?_ | refine cx_r rfl ?_ | refine cx_d (by kernel_rfl) rfl ?_ | refine wO rfl rfl ?_ | refine wT rfl ?_ | refine wF rfl ?_ | refine wB ?_ | refine wK ?_ | refine wE rfl ?_ | refine wS ?_))
        refine VO.call rfl rfl ⟨_, Tryz.func11, by kernel_rfl, by kernel_rfl⟩ (fun wa17 ka17 ba17 => (ratAdd_any _ _ (qb) (qa) (8) (8) wa17 (hB.kp (Kp.of (U := UU) ba17)) (hA.kp (Kp.of (U := UU) ba17)) (by omega) (by omega)).mono ?_)
        rintro e w17 ⟨r17, rfl, q17, hb17⟩
        obtain ⟨s17, p17, n17, c17, t17, y17, m17, d17, rfl⟩ := q17.form
        refine ⟨_, rfl, hb17, fun kb17 _ bb17 => wV rfl ?_⟩
        (repeat (first | refine wN ?_ | refine wQ ?_ | refine cx_r rfl ?_ | refine cx_d (by kernel_rfl) rfl ?_ | refine wO rfl rfl ?_ | refine wT rfl ?_ | refine wF rfl ?_ | refine wB ?_ | refine wK ?_ | refine wE rfl ?_ | refine wS ?_))
        refine VO.call rfl rfl ⟨_, Tryz.func11, by kernel_rfl, by kernel_rfl⟩ (fun wa18 ka18 ba18 => (ratAdd_any _ _ (qc) ((qb) + (qa)) (8) (17) wa18 (hC.kp (Kp.of (U := UU) ba18)) ((q17.kp (by (with_reducible (repeat (first | assumption | exact kR _ | refine kT ?_ (by assumption)))))).in (RSz.add hB8 hA8)) (by omega) (by omega)).mono ?_)
        rintro e w18 ⟨r18, rfl, q18, hb18⟩
        obtain ⟨s18, p18, n18, c18, t18, y18, m18, d18, rfl⟩ := q18.form
        refine ⟨_, rfl, hb18, fun kb18 _ bb18 => wV rfl ?_⟩
        (repeat (first | refine wN ?_ | refine wQ ?_ | refine cx_r rfl ?_ | refine cx_d (by kernel_rfl) rfl ?_ | refine wO rfl rfl ?_ | refine wT rfl ?_ | refine wF rfl ?_ | refine wB ?_ | refine wK ?_ | refine wE rfl ?_ | refine wS ?_))
        refine VO.call rfl rfl ⟨_, Tryz.func27, by kernel_rfl, by kernel_rfl⟩ (fun wa19 ka19 ba19 => (ratSame_ok _ _ (((qa) + (qb)) + (qc)) ((qc) + ((qb) + (qa))) (26) (26) wa19 ((q12.kp (by (with_reducible (repeat (first | assumption | exact kR _ | refine kT ?_ (by assumption)))))).in (RSz.add (RSz.add hA8 hB8) hC8)) ((q18.kp (by (with_reducible (repeat (first | assumption | exact kR _ | refine kT ?_ (by assumption)))))).in (RSz.add hC8 (RSz.add hB8 hA8))) (by omega) (by omega) true (decide_eq_true (rf1 qa qb qc))).mono ?_)
        rintro e w19 ⟨rfl, hb19⟩
        skip
        refine ⟨_, rfl, hb19, fun kb19 _ bb19 => wV rfl ?_⟩
        (repeat (first | refine wN ?_ | refine wQ ?_ | refine cx_r rfl ?_ | refine cx_d (by kernel_rfl) rfl ?_ | refine wO rfl rfl ?_ | refine wT rfl ?_ | refine wF rfl ?_ | refine wB ?_ | refine wK ?_ | refine wE rfl ?_ | refine wS ?_))
        refine VO.call rfl rfl ⟨_, Tryz.func13, by kernel_rfl, by kernel_rfl⟩ (fun wa20 ka20 ba20 => (ratMul_any _ _ (qb) (qa) (8) (8) wa20 (hB.kp (Kp.of (U := UU) ba20)) (hA.kp (Kp.of (U := UU) ba20)) (by omega) (by omega)).mono ?_)
        rintro e w20 ⟨r20, rfl, q20, hb20⟩
        obtain ⟨s20, p20, n20, c20, t20, y20, m20, d20, rfl⟩ := q20.form
        refine ⟨_, rfl, hb20, fun kb20 _ bb20 => wV rfl ?_⟩
        (repeat (first | refine wN ?_ | refine wQ ?_ | refine cx_r rfl ?_ | refine cx_d (by kernel_rfl) rfl ?_ | refine wO rfl rfl ?_ | refine wT rfl ?_ | refine wF rfl ?_ | refine wB ?_ | refine wK ?_ | refine wE rfl ?_ | refine wS ?_))
        refine VO.call rfl rfl ⟨_, Tryz.func13, by kernel_rfl, by kernel_rfl⟩ (fun wa21 ka21 ba21 => (ratMul_any _ _ (qc) ((qb) * (qa)) (8) (16) wa21 (hC.kp (Kp.of (U := UU) ba21)) ((q20.kp (by (with_reducible (repeat (first | assumption | exact kR _ | refine kT ?_ (by assumption)))))).in (RSz.mul hB8 hA8)) (by omega) (by omega)).mono ?_)
        rintro e w21 ⟨r21, rfl, q21, hb21⟩
        obtain ⟨s21, p21, n21, c21, t21, y21, m21, d21, rfl⟩ := q21.form
        refine ⟨_, rfl, hb21, fun kb21 _ bb21 => wV rfl ?_⟩
        (repeat (first | refine wN ?_ | refine wQ ?_ | refine cx_r rfl ?_ | refine cx_d (by kernel_rfl) rfl ?_ | refine wO rfl rfl ?_ | refine wT rfl ?_ | refine wF rfl ?_ | refine wB ?_ | refine wK ?_ | refine wE rfl ?_ | refine wS ?_))
        refine VO.call rfl rfl ⟨_, Tryz.func27, by kernel_rfl, by kernel_rfl⟩ (fun wa22 ka22 ba22 => (ratSame_ok _ _ (((qa) * (qb)) * (qc)) ((qc) * ((qb) * (qa))) (24) (24) wa22 ((q14.kp (by (with_reducible (repeat (first | assumption | exact kR _ | refine kT ?_ (by assumption)))))).in (RSz.mul (RSz.mul hA8 hB8) hC8)) ((q21.kp (by (with_reducible (repeat (first | assumption | exact kR _ | refine kT ?_ (by assumption)))))).in (RSz.mul hC8 (RSz.mul hB8 hA8))) (by omega) (by omega) true (decide_eq_true (rf2 qa qb qc))).mono ?_)
        rintro e w22 ⟨rfl, hb22⟩
        skip
        refine ⟨_, rfl, hb22, fun kb22 _ bb22 => wV rfl ?_⟩
        (repeat (first | refine wN ?_ | refine wQ ?_ | refine cx_r rfl ?_ | refine cx_d (by kernel_rfl) rfl ?_ | refine wO rfl rfl ?_ | refine wT rfl ?_ | refine wF rfl ?_ | refine wB ?_ | refine wK ?_ | refine wE rfl ?_ | refine wS ?_))
        refine VO.callF rfl ⟨_, Tryz.func30, by kernel_rfl, by kernel_rfl⟩ (fun wa23 β ka23 ba23 ho => (ratSum_any _ [qb, qc, qa] 8 wa23 (ownV_rats (ho.own 70 (.base (List.mem_singleton.2 rfl)) _ _ rfl) [] (vs := [[.bool s', .slice bp xs'.length bc, .bool t', .slice br ys'.length bd], [.bool s'', .slice cp xs''.length cc, .bool t'', .slice cr ys''.length cd0], [.bool s, .slice ap xs.length ac, .bool t, .slice ar ys.length ad]]) (by rfl) rfl (RatRow.cons ((hB.kp (Kp.of (U := UU) ba23)).mono' (show 8 ≤ 8 by omega)) (RatRow.cons ((hC.kp (Kp.of (U := UU) ba23)).mono' (show 8 ≤ 8 by omega)) (RatRow.cons ((hA.kp (Kp.of (U := UU) ba23)).mono' (show 8 ≤ 8 by omega)) RatRow.nil))) (Nat.le_of_ble_eq_true rfl) (by decide)) (Nat.le_of_ble_eq_true rfl)).mono ?_)
        rintro e w23 ⟨r23, rfl, q23, z23, hb23⟩
        obtain ⟨s23, p23, n23, c23, t23, y23, m23, d23, rfl⟩ := q23.form
        refine ⟨_, rfl, hb23, fun kb23 _ bb23 => wV rfl ?_⟩
        (repeat (first | refine wN ?_ | refine wQ ?_ | refine cx_r rfl ?_ | refine cx_d (by kernel_rfl) rfl ?_ | refine wO rfl rfl ?_ | refine wT rfl ?_ | refine wF rfl ?_ | refine wB ?_ | refine wK ?_ | refine wE rfl ?_ | refine wS ?_))
        refine VO.call rfl rfl ⟨_, Tryz.func27, by kernel_rfl, by kernel_rfl⟩ (fun wa24 ka24 ba24 => (ratSame_ok _ _ (((qa) + (qb)) + (qc)) (rsum [qb, qc, qa]) (26) (28) wa24 ((q12.kp (by (with_reducible (repeat (first | assumption | exact kR _ | refine kT ?_ (by assumption)))))).in (RSz.add (RSz.add hA8 hB8) hC8)) ((q23.kp (by (with_reducible (repeat (first | assumption | exact kR _ | refine kT ?_ (by assumption)))))).in (RSz.mono z23 (Nat.le_of_ble_eq_true rfl))) (by omega) (by omega) true (decide_eq_true (rf3 qa qb qc))).mono ?_)
        rintro e w24 ⟨rfl, hb24⟩
        skip
        refine ⟨_, rfl, hb24, fun kb24 _ bb24 => wV rfl ?_⟩
        (repeat (first | refine wN ?_ | refine wQ ?_ | refine cx_r rfl ?_ | refine cx_d (by kernel_rfl) rfl ?_ | refine wO rfl rfl ?_ | refine wT rfl ?_ | refine wF rfl ?_ | refine wB ?_ | refine wK ?_ | refine wE rfl ?_ | refine wS ?_))
        refine VO.callF rfl ⟨_, Tryz.func32, by kernel_rfl, by kernel_rfl⟩ (fun wa25 β ka25 ba25 ho => (ratProduct_any _ [qc, qa, qb] 8 wa25 (ownV_rats (ho.own 80 (.base (List.mem_singleton.2 rfl)) _ _ rfl) [] (vs := [[.bool s'', .slice cp xs''.length cc, .bool t'', .slice cr ys''.length cd0], [.bool s, .slice ap xs.length ac, .bool t, .slice ar ys.length ad], [.bool s', .slice bp xs'.length bc, .bool t', .slice br ys'.length bd]]) (by rfl) rfl (RatRow.cons ((hC.kp (Kp.of (U := UU) ba25)).mono' (show 8 ≤ 8 by omega)) (RatRow.cons ((hA.kp (Kp.of (U := UU) ba25)).mono' (show 8 ≤ 8 by omega)) (RatRow.cons ((hB.kp (Kp.of (U := UU) ba25)).mono' (show 8 ≤ 8 by omega)) RatRow.nil))) (Nat.le_of_ble_eq_true rfl) (by decide)) (Nat.le_of_ble_eq_true rfl)).mono ?_)
        rintro e w25 ⟨r25, rfl, q25, z25, hb25⟩
        obtain ⟨s25, p25, n25, c25, t25, y25, m25, d25, rfl⟩ := q25.form
        refine ⟨_, rfl, hb25, fun kb25 _ bb25 => wV rfl ?_⟩
        (repeat (first | refine wN ?_ | refine wQ ?_ | refine cx_r rfl ?_ | refine cx_d (by kernel_rfl) rfl ?_ | refine wO rfl rfl ?_ | refine wT rfl ?_ | refine wF rfl ?_ | refine wB ?_ | refine wK ?_ | refine wE rfl ?_ | refine wS ?_))
        refine VO.call rfl rfl ⟨_, Tryz.func27, by kernel_rfl, by kernel_rfl⟩ (fun wa26 ka26 ba26 => (ratSame_ok _ _ (((qa) * (qb)) * (qc)) (rprod [qc, qa, qb]) (24) (28) wa26 ((q14.kp (by (with_reducible (repeat (first | assumption | exact kR _ | refine kT ?_ (by assumption)))))).in (RSz.mul (RSz.mul hA8 hB8) hC8)) ((q25.kp (by (with_reducible (repeat (first | assumption | exact kR _ | refine kT ?_ (by assumption)))))).in (RSz.mono z25 (Nat.le_of_ble_eq_true rfl))) (by omega) (by omega) true (decide_eq_true (rf4 qa qb qc))).mono ?_)
        rintro e w26 ⟨rfl, hb26⟩
        skip
        refine ⟨_, rfl, hb26, fun kb26 _ bb26 => wV rfl ?_⟩
        (repeat (first | refine wN ?_ | refine wQ ?_ | refine cx_r rfl ?_ | refine cx_d (by kernel_rfl) rfl ?_ | refine wO rfl rfl ?_ | refine wT rfl ?_ | refine wF rfl ?_ | refine wB ?_ | refine wK ?_ | refine wE rfl ?_ | refine wS ?_))
        refine VO.call rfl rfl ⟨_, Tryz.func11, by kernel_rfl, by kernel_rfl⟩ (fun wa27 ka27 ba27 => (ratAdd_any _ _ (qb) (qc) (8) (8) wa27 (hB.kp (Kp.of (U := UU) ba27)) (hC.kp (Kp.of (U := UU) ba27)) (by omega) (by omega)).mono ?_)
        rintro e w27 ⟨r27, rfl, q27, hb27⟩
        obtain ⟨s27, p27, n27, c27, t27, y27, m27, d27, rfl⟩ := q27.form
        refine ⟨_, rfl, hb27, fun kb27 _ bb27 => wV rfl ?_⟩
        (repeat (first | refine wN ?_ | refine wQ ?_ | refine cx_r rfl ?_ | refine cx_d (by kernel_rfl) rfl ?_ | refine wO rfl rfl ?_ | refine wT rfl ?_ | refine wF rfl ?_ | refine wB ?_ | refine wK ?_ | refine wE rfl ?_ | refine wS ?_))
        refine VO.call rfl rfl ⟨_, Tryz.func13, by kernel_rfl, by kernel_rfl⟩ (fun wa28 ka28 ba28 => (ratMul_any _ _ (qa) ((qb) + (qc)) (8) (17) wa28 (hA.kp (Kp.of (U := UU) ba28)) ((q27.kp (by (with_reducible (repeat (first | assumption | exact kR _ | refine kT ?_ (by assumption)))))).in (RSz.add hB8 hC8)) (by omega) (by omega)).mono ?_)
        rintro e w28 ⟨r28, rfl, q28, hb28⟩
        obtain ⟨s28, p28, n28, c28, t28, y28, m28, d28, rfl⟩ := q28.form
        refine ⟨_, rfl, hb28, fun kb28 _ bb28 => wV rfl ?_⟩
        (repeat (first | refine wN ?_ | refine wQ ?_ | refine cx_r rfl ?_ | refine cx_d (by kernel_rfl) rfl ?_ | refine wO rfl rfl ?_ | refine wT rfl ?_ | refine wF rfl ?_ | refine wB ?_ | refine wK ?_ | refine wE rfl ?_ | refine wS ?_))
        refine VO.call rfl rfl ⟨_, Tryz.func13, by kernel_rfl, by kernel_rfl⟩ (fun wa29 ka29 ba29 => (ratMul_any _ _ (qa) (qb) (8) (8) wa29 (hA.kp (Kp.of (U := UU) ba29)) (hB.kp (Kp.of (U := UU) ba29)) (by omega) (by omega)).mono ?_)
        rintro e w29 ⟨r29, rfl, q29, hb29⟩
        obtain ⟨s29, p29, n29, c29, t29, y29, m29, d29, rfl⟩ := q29.form
        refine ⟨_, rfl, hb29, fun kb29 _ bb29 => wV rfl ?_⟩
        (repeat (first | refine wN ?_ | refine wQ ?_ | refine cx_r rfl ?_ | refine cx_d (by kernel_rfl) rfl ?_ | refine wO rfl rfl ?_ | refine wT rfl ?_ | refine wF rfl ?_ | refine wB ?_ | refine wK ?_ | refine wE rfl ?_ | refine wS ?_))
        refine VO.call rfl rfl ⟨_, Tryz.func13, by kernel_rfl, by kernel_rfl⟩ (fun wa30 ka30 ba30 => (ratMul_any _ _ (qa) (qc) (8) (8) wa30 (hA.kp (Kp.of (U := UU) ba30)) (hC.kp (Kp.of (U := UU) ba30)) (by omega) (by omega)).mono ?_)
        rintro e w30 ⟨r30, rfl, q30, hb30⟩
        obtain ⟨s30, p30, n30, c30, t30, y30, m30, d30, rfl⟩ := q30.form
        refine ⟨_, rfl, hb30, fun kb30 _ bb30 => wV rfl ?_⟩
        (repeat (first | refine wN ?_ | refine wQ ?_ | refine cx_r rfl ?_ | refine cx_d (by kernel_rfl) rfl ?_ | refine wO rfl rfl ?_ | refine wT rfl ?_ | refine wF rfl ?_ | refine wB ?_ | refine wK ?_ | refine wE rfl ?_ | refine wS ?_))
        refine VO.call rfl rfl ⟨_, Tryz.func11, by kernel_rfl, by kernel_rfl⟩ (fun wa31 ka31 ba31 => (ratAdd_any _ _ ((qa) * (qb)) ((qa) * (qc)) (16) (16) wa31 ((q29.kp (by (with_reducible (repeat (first | assumption | exact kR _ | refine kT ?_ (by assumption)))))).in (RSz.mul hA8 hB8)) ((q30.kp (by (with_reducible (repeat (first | assumption | exact kR _ | refine kT ?_ (by assumption)))))).in (RSz.mul hA8 hC8)) (by omega) (by omega)).mono ?_)
        rintro e w31 ⟨r31, rfl, q31, hb31⟩
        obtain ⟨s31, p31, n31, c31, t31, y31, m31, d31, rfl⟩ := q31.form
        refine ⟨_, rfl, hb31, fun kb31 _ bb31 => wV rfl ?_⟩
        (repeat (first | refine wN ?_ | refine wQ ?_ | refine cx_r rfl ?_ | refine cx_d (by kernel_rfl) rfl ?_ | refine wO rfl rfl ?_ | refine wT rfl ?_ | refine wF rfl ?_ | refine wB ?_ | refine wK ?_ | refine wE rfl ?_ | refine wS ?_))
        refine VO.call rfl rfl ⟨_, Tryz.func27, by kernel_rfl, by kernel_rfl⟩ (fun wa32 ka32 ba32 => (ratSame_ok _ _ ((qa) * ((qb) + (qc))) (((qa) * (qb)) + ((qa) * (qc))) (25) (33) wa32 ((q28.kp (by (with_reducible (repeat (first | assumption | exact kR _ | refine kT ?_ (by assumption)))))).in (RSz.mul hA8 (RSz.add hB8 hC8))) ((q31.kp (by (with_reducible (repeat (first | assumption | exact kR _ | refine kT ?_ (by assumption)))))).in (RSz.add (RSz.mul hA8 hB8) (RSz.mul hA8 hC8))) (by omega) (by omega) true (decide_eq_true (rf5 qa qb qc))).mono ?_)
        rintro e w32 ⟨rfl, hb32⟩
        skip
        refine ⟨_, rfl, hb32, fun kb32 _ bb32 => wV rfl ?_⟩
        (repeat (first | refine wN ?_ | refine wQ ?_ | refine cx_r rfl ?_ | refine cx_d (by kernel_rfl) rfl ?_ | refine wO rfl rfl ?_ | refine wT rfl ?_ | refine wF rfl ?_ | refine wB ?_ | refine wK ?_ | refine wE rfl ?_ | refine wS ?_))
        refine VO.call rfl rfl ⟨_, Tryz.func11, by kernel_rfl, by kernel_rfl⟩ (fun wa33 ka33 ba33 => (ratAdd_any _ _ (qa) (qb) (8) (8) wa33 (hA.kp (Kp.of (U := UU) ba33)) (hB.kp (Kp.of (U := UU) ba33)) (by omega) (by omega)).mono ?_)
        rintro e w33 ⟨r33, rfl, q33, hb33⟩
        obtain ⟨s33, p33, n33, c33, t33, y33, m33, d33, rfl⟩ := q33.form
        refine ⟨_, rfl, hb33, fun kb33 _ bb33 => wV rfl ?_⟩
        (repeat (first | refine wN ?_ | refine wQ ?_ | refine cx_r rfl ?_ | refine cx_d (by kernel_rfl) rfl ?_ | refine wO rfl rfl ?_ | refine wT rfl ?_ | refine wF rfl ?_ | refine wB ?_ | refine wK ?_ | refine wE rfl ?_ | refine wS ?_))
        refine VO.call rfl rfl ⟨_, Tryz.func12, by kernel_rfl, by kernel_rfl⟩ (fun wa34 ka34 ba34 => (ratSub_any _ _ ((qa) + (qb)) (qb) (17) (8) wa34 ((q33.kp (by (with_reducible (repeat (first | assumption | exact kR _ | refine kT ?_ (by assumption)))))).in (RSz.add hA8 hB8)) (hB.kp (Kp.of (U := UU) ba34)) (by omega) (by omega)).mono ?_)
        rintro e w34 ⟨r34, rfl, q34, hb34⟩
        obtain ⟨s34, p34, n34, c34, t34, y34, m34, d34, rfl⟩ := q34.form
        refine ⟨_, rfl, hb34, fun kb34 _ bb34 => wV rfl ?_⟩
        (repeat (first | refine wN ?_ | refine wQ ?_ | refine cx_r rfl ?_ | refine cx_d (by kernel_rfl) rfl ?_ | refine wO rfl rfl ?_ | refine wT rfl ?_ | refine wF rfl ?_ | refine wB ?_ | refine wK ?_ | refine wE rfl ?_ | refine wS ?_))
        refine VO.call rfl rfl ⟨_, Tryz.func24, by kernel_rfl, by kernel_rfl⟩ (fun wa35 ka35 ba35 => (ratCmp_ok _ _ (((qa) + (qb)) - (qb)) (qa) (26) (8) wa35 ((q34.kp (by (with_reducible (repeat (first | assumption | exact kR _ | refine kT ?_ (by assumption)))))).in (RSz.sub (RSz.add hA8 hB8) hB8)) (hA.kp (Kp.of (U := UU) ba35)) (by omega) (by omega) 0 (rf6 qa qb)).mono ?_)
        rintro e w35 ⟨rfl, hb35⟩
        skip
        refine ⟨_, rfl, hb35, fun kb35 _ bb35 => wV rfl ?_⟩
        (repeat (first | refine wN ?_ | refine wQ ?_ | refine cx_r rfl ?_ | refine cx_d (by kernel_rfl) rfl ?_ | refine wO rfl rfl ?_ | refine wT rfl ?_ | refine wF rfl ?_ | refine wB ?_ | refine wK ?_ | refine wE rfl ?_ | refine wS ?_))
        refine VO.call rfl rfl ⟨_, Tryz.func15, by kernel_rfl, by kernel_rfl⟩ (fun wa36 ka36 ba36 => (ratNeg_any _ (qa) (8) wa36 (hA.kp (Kp.of (U := UU) ba36)) (by omega)).mono ?_)
        rintro e w36 ⟨r36, rfl, q36, hb36⟩
        obtain ⟨s36, p36, n36, c36, t36, y36, m36, d36, rfl⟩ := q36.form
        refine ⟨_, rfl, hb36, fun kb36 _ bb36 => wV rfl ?_⟩
        (repeat (first | refine wN ?_ | refine wQ ?_ | refine cx_r rfl ?_ | refine cx_d (by kernel_rfl) rfl ?_ | refine wO rfl rfl ?_ | refine wT rfl ?_ | refine wF rfl ?_ | refine wB ?_ | refine wK ?_ | refine wE rfl ?_ | refine wS ?_))
        refine VO.call rfl rfl ⟨_, Tryz.func11, by kernel_rfl, by kernel_rfl⟩ (fun wa37 ka37 ba37 => (ratAdd_any _ _ (qa) (-(qa)) (8) (8) wa37 (hA.kp (Kp.of (U := UU) ba37)) ((q36.kp (by (with_reducible (repeat (first | assumption | exact kR _ | refine kT ?_ (by assumption)))))).in (RSz.neg hA8)) (by omega) (by omega)).mono ?_)
        rintro e w37 ⟨r37, rfl, q37, hb37⟩
        obtain ⟨s37, p37, n37, c37, t37, y37, m37, d37, rfl⟩ := q37.form
        refine ⟨_, rfl, hb37, fun kb37 _ bb37 => wV rfl ?_⟩
        (repeat (first | refine wN ?_ | refine wQ ?_ | refine cx_r rfl ?_ | refine cx_d (by kernel_rfl) rfl ?_ | refine wO rfl rfl ?_ | refine wT rfl ?_ | refine wF rfl ?_ | refine wB ?_ | refine wK ?_ | refine wE rfl ?_ | refine wS ?_))
        refine VO.call rfl rfl ⟨_, Tryz.func21, by kernel_rfl, by kernel_rfl⟩ (fun wa38 ka38 ba38 => (ratSign_ok _ ((qa) + (-(qa))) (17) wa38 ((q37.kp (by (with_reducible (repeat (first | assumption | exact kR _ | refine kT ?_ (by assumption)))))).in (RSz.add hA8 (RSz.neg hA8))) (by omega) 0 (rf7 qa)).mono ?_)
        rintro e w38 ⟨rfl, hb38⟩
        skip
        refine ⟨_, rfl, hb38, fun kb38 _ bb38 => wV rfl ?_⟩
        (repeat (first | refine wN ?_ | refine wQ ?_ | refine cx_r rfl ?_ | refine cx_d (by kernel_rfl) rfl ?_ | refine wO rfl rfl ?_ | refine wT rfl ?_ | refine wF rfl ?_ | refine wB ?_ | refine wK ?_ | refine wE rfl ?_ | refine wS ?_))
        refine VO.call rfl rfl ⟨_, Tryz.func13, by kernel_rfl, by kernel_rfl⟩ (fun wa39 ka39 ba39 => (ratMul_any _ _ (qa) (qb) (8) (8) wa39 (hA.kp (Kp.of (U := UU) ba39)) (hB.kp (Kp.of (U := UU) ba39)) (by omega) (by omega)).mono ?_)
        rintro e w39 ⟨r39, rfl, q39, hb39⟩
        obtain ⟨s39, p39, n39, c39, t39, y39, m39, d39, rfl⟩ := q39.form
        refine ⟨_, rfl, hb39, fun kb39 _ bb39 => wV rfl ?_⟩
        (repeat (first | refine wN ?_ | refine wQ ?_ | refine cx_r rfl ?_ | refine cx_d (by kernel_rfl) rfl ?_ | refine wO rfl rfl ?_ | refine wT rfl ?_ | refine wF rfl ?_ | refine wB ?_ | refine wK ?_ | refine wE rfl ?_ | refine wS ?_))
        refine VO.call rfl rfl ⟨_, Tryz.func14, by kernel_rfl, by kernel_rfl⟩ (fun wa40 ka40 ba40 => (ratDiv_ok _ _ ((qa) * (qb)) (qb) (16) (8) wa40 ((q39.kp (by (with_reducible (repeat (first | assumption | exact kR _ | refine kT ?_ (by assumption)))))).in (RSz.mul hA8 hB8)) (hB.kp (Kp.of (U := UU) ba40)) (by omega) (by omega) cd hcd).mono ?_)
        rintro e w40 ⟨r40, rfl, q40, hb40⟩
        obtain ⟨s40, p40, n40, c40, t40, y40, m40, d40, rfl⟩ := q40.form
        refine ⟨_, rfl, hb40, fun kb40 _ bb40 => wV rfl ?_⟩
        (repeat (first | refine wN ?_ | refine wQ ?_ | refine cx_r rfl ?_ | refine cx_d (by kernel_rfl) rfl ?_ | refine wO rfl rfl ?_ | refine wT rfl ?_ | refine wF rfl ?_ | refine wB ?_ | refine wK ?_ | refine wE rfl ?_ | refine wS ?_))
        refine VO.call rfl rfl ⟨_, Tryz.func21, by kernel_rfl, by kernel_rfl⟩ (fun wa41 ka41 ba41 => (ratSign_any _ (qb) (8) wa41 (hB.kp (Kp.of (U := UU) ba41)) (by omega) ).mono ?_)
        rintro e w41 ⟨rfl, hb41⟩
        skip
        refine ⟨_, rfl, hb41, fun kb41 _ bb41 => wV rfl ?_⟩
        (repeat (first | refine wN ?_ | refine wQ ?_ | refine cx_r rfl ?_ | refine cx_d (by kernel_rfl) rfl ?_ | refine wO rfl rfl ?_ | refine wT rfl ?_ | refine wF rfl ?_ | refine wB ?_ | refine wK ?_ | refine wE rfl ?_ | refine wS ?_))
        rcases hcc with ⟨rfl, hb0⟩ | ⟨rfl, hb0⟩
        · skip
          refine VO.fix 128 rfl (congrArg (fun b => AV.val (.bool b)) (beq_eq_false_iff_ne.2 (rcmp_ne hb0))) ?_
          (repeat (first | refine wN ?_ | refine wQ ?_ | refine cx_r rfl ?_ | refine cx_d (by kernel_rfl) rfl ?_ | refine wO rfl rfl ?_ | refine wT rfl ?_ | refine wF rfl ?_ | refine wB ?_ | refine wK ?_ | refine wE rfl ?_ | refine wS ?_))
          refine VO.call rfl rfl ⟨_, Tryz.func21, by kernel_rfl, by kernel_rfl⟩ (fun wa42 ka42 ba42 => (ratSign_any _ (qb) (8) wa42 (hB.kp (Kp.of (U := UU) ba42)) (by omega) ).mono ?_)
          rintro e w42 ⟨rfl, hb42⟩
          skip
          refine ⟨_, rfl, hb42, fun kb42 _ bb42 => wV rfl ?_⟩
          (repeat (first | refine wN ?_ | refine wQ ?_ | refine cx_r rfl ?_ | refine cx_d (by kernel_rfl) rfl ?_ | refine wO rfl rfl ?_ | refine wT rfl ?_ | refine wF rfl ?_ | refine wB ?_ | refine wK ?_ | refine wE rfl ?_ | refine wS ?_))
          refine VO.fix 136 rfl (congrArg (fun b => AV.val (.bool b)) (bne_iff_ne.2 (rcmp_ne hb0))) ?_
          (repeat (first | refine wN ?_ | refine wQ ?_ | refine cx_r rfl ?_ | refine cx_d (by kernel_rfl) rfl ?_ | refine wO rfl rfl ?_ | refine wT rfl ?_ | refine wF rfl ?_ | refine wB ?_ | refine wK ?_ | refine wE rfl ?_ | refine wS ?_))
          refine VO.call rfl rfl ⟨_, Tryz.func24, by kernel_rfl, by kernel_rfl⟩ (fun wa43 ka43 ba43 => (ratCmp_ok _ _ (((qa) * (qb)) / (qb)) (qa) (24) (8) wa43 ((q40.kp (by (with_reducible (repeat (first | assumption | exact kR _ | refine kT ?_ (by assumption)))))).in (RSz.div (RSz.mul hA8 hB8) hB8 (by omega))) (hA.kp (Kp.of (U := UU) ba43)) (by omega) (by omega) 0 (rf8 qa hb0)).mono ?_)
          rintro e w43 ⟨rfl, hb43⟩
          skip
          refine ⟨_, rfl, hb43, fun kb43 _ bb43 => wV rfl ?_⟩
          (repeat (first | refine wN ?_ | refine wQ ?_ | refine cx_r rfl ?_ | refine cx_d (by kernel_rfl) rfl ?_ | refine wO rfl rfl ?_ | refine wT rfl ?_ | refine wF rfl ?_ | refine wB ?_ | refine wK ?_ | refine wE rfl ?_ | refine wS ?_))
          refine VO.call rfl rfl ⟨_, Tryz.func22, by kernel_rfl, by kernel_rfl⟩ (fun wa44 ka44 ba44 => (ratRight_canon _ (((qa) * (qb)) / (qb)) (24) wa44 (q40.kp (by (with_reducible (repeat (first | assumption | exact kR _ | refine kT ?_ (by assumption)))))).rd (RSz.div (RSz.mul hA8 hB8) hB8 (by omega)) (by omega)).mono ?_)
          rintro e w44 ⟨rfl, hb44⟩
          skip
          refine ⟨_, rfl, hb44, fun kb44 _ bb44 => wV rfl ?_⟩
          (repeat (first | refine wN ?_ | refine wQ ?_ | refine cx_r rfl ?_ | refine cx_d (by kernel_rfl) rfl ?_ | refine wO rfl rfl ?_ | refine wT rfl ?_ | refine wF rfl ?_ | refine wB ?_ | refine wK ?_ | refine wE rfl ?_ | refine wS ?_))
          refine VO.call rfl rfl ⟨_, Tryz.func24, by kernel_rfl, by kernel_rfl⟩ (fun wa45 ka45 ba45 => (ratCmp_any _ _ (qa) (qb) (8) (8) wa45 (hA.kp (Kp.of (U := UU) ba45)) (hB.kp (Kp.of (U := UU) ba45)) (by omega) (by omega) ).mono ?_)
          rintro e w45 ⟨rfl, hb45⟩
          skip
          refine ⟨_, rfl, hb45, fun kb45 _ bb45 => wV rfl ?_⟩
          (repeat (first | refine wN ?_ | refine wQ ?_ | refine cx_r rfl ?_ | refine cx_d (by kernel_rfl) rfl ?_ | refine wO rfl rfl ?_ | refine wT rfl ?_ | refine wF rfl ?_ | refine wB ?_ | refine wK ?_ | refine wE rfl ?_ | refine wS ?_))
          refine VO.call rfl rfl ⟨_, Tryz.func24, by kernel_rfl, by kernel_rfl⟩ (fun wa46 ka46 ba46 => (ratCmp_any _ _ (qb) (qa) (8) (8) wa46 (hB.kp (Kp.of (U := UU) ba46)) (hA.kp (Kp.of (U := UU) ba46)) (by omega) (by omega) ).mono ?_)
          rintro e w46 ⟨rfl, hb46⟩
          skip
          refine ⟨_, rfl, hb46, fun kb46 _ bb46 => wV rfl ?_⟩
          (repeat (first | refine wN ?_ | refine wQ ?_ | refine cx_r rfl ?_ | refine cx_d (by kernel_rfl) rfl ?_ | refine wO rfl rfl ?_ | refine wT rfl ?_ | refine wF rfl ?_ | refine wB ?_ | refine wK ?_ | refine wE rfl ?_ | refine wS ?_))
          refine VO.fix 160 rfl (congrArg (fun b => AV.val (.bool b)) (rcmp_turn qa qb)) ?_
          (repeat (first | refine wN ?_ | refine wQ ?_ | refine cx_r rfl ?_ | refine cx_d (by kernel_rfl) rfl ?_ | refine wO rfl rfl ?_ | refine wT rfl ?_ | refine wF rfl ?_ | refine wB ?_ | refine wK ?_ | refine wE rfl ?_ | refine wS ?_))
          refine VO.call rfl rfl ⟨_, Tryz.func24, by kernel_rfl, by kernel_rfl⟩ (fun wa47 ka47 ba47 => (ratCmp_any _ _ (qa) (qb) (8) (8) wa47 (hA.kp (Kp.of (U := UU) ba47)) (hB.kp (Kp.of (U := UU) ba47)) (by omega) (by omega) ).mono ?_)
          rintro e w47 ⟨rfl, hb47⟩
          skip
          refine ⟨_, rfl, hb47, fun kb47 _ bb47 => wV rfl ?_⟩
          (repeat (first | refine wN ?_ | refine wQ ?_ | refine cx_r rfl ?_ | refine cx_d (by kernel_rfl) rfl ?_ | refine wO rfl rfl ?_ | refine wT rfl ?_ | refine wF rfl ?_ | refine wB ?_ | refine wK ?_ | refine wE rfl ?_ | refine wS ?_))
          by_cases hab : rcmp qa qb ≤ 0
          · skip
            refine VO.fix 165 rfl (congrArg (fun b => AV.val (.bool b)) (decide_eq_true hab)) ?_
            (repeat (first | refine wN ?_ | refine wQ ?_ | refine cx_r rfl ?_ | refine cx_d (by kernel_rfl) rfl ?_ | refine wO rfl rfl ?_ | refine wT rfl ?_ | refine wF rfl ?_ | refine wB ?_ | refine wK ?_ | refine wE rfl ?_ | refine wS ?_))
            refine VO.call rfl rfl ⟨_, Tryz.func24, by kernel_rfl, by kernel_rfl⟩ (fun wa48 ka48 ba48 => (ratCmp_any _ _ (qb) (qc) (8) (8) wa48 (hB.kp (Kp.of (U := UU) ba48)) (hC.kp (Kp.of (U := UU) ba48)) (by omega) (by omega) ).mono ?_)
            rintro e w48 ⟨rfl, hb48⟩
            skip
            refine ⟨_, rfl, hb48, fun kb48 _ bb48 => wV rfl ?_⟩
            (repeat (first | refine wN ?_ | refine wQ ?_ | refine cx_r rfl ?_ | refine cx_d (by kernel_rfl) rfl ?_ | refine wO rfl rfl ?_ | refine wT rfl ?_ | refine wF rfl ?_ | refine wB ?_ | refine wK ?_ | refine wE rfl ?_ | refine wS ?_))
            by_cases hbc : rcmp qb qc ≤ 0
            · skip
              refine VO.fix 171 rfl (congrArg (fun b => AV.val (.bool b)) (decide_eq_true hbc)) ?_
              (repeat (first | refine wN ?_ | refine wQ ?_ | refine cx_r rfl ?_ | refine cx_d (by kernel_rfl) rfl ?_ | refine wO rfl rfl ?_ | refine wT rfl ?_ | refine wF rfl ?_ | refine wB ?_ | refine wK ?_ | refine wE rfl ?_ | refine wS ?_))
              refine VO.call rfl rfl ⟨_, Tryz.func24, by kernel_rfl, by kernel_rfl⟩ (fun wa49 ka49 ba49 => (ratCmp_any _ _ (qa) (qc) (8) (8) wa49 (hA.kp (Kp.of (U := UU) ba49)) (hC.kp (Kp.of (U := UU) ba49)) (by omega) (by omega) ).mono ?_)
              rintro e w49 ⟨rfl, hb49⟩
              skip
              refine ⟨_, rfl, hb49, fun kb49 _ bb49 => wV rfl ?_⟩
              (repeat (first | refine wN ?_ | refine wQ ?_ | refine cx_r rfl ?_ | refine cx_d (by kernel_rfl) rfl ?_ | refine wO rfl rfl ?_ | refine wT rfl ?_ | refine wF rfl ?_ | refine wB ?_ | refine wK ?_ | refine wE rfl ?_ | refine wS ?_))
              refine VO.fix 178 rfl (congrArg (fun b => AV.val (.bool b)) (decide_eq_false (rf10 hab hbc))) ?_
              (repeat (first | refine wN ?_ | refine wQ ?_ | refine cx_r rfl ?_ | refine cx_d (by kernel_rfl) rfl ?_ | refine wO rfl rfl ?_ | refine wT rfl ?_ | refine wF rfl ?_ | refine wB ?_ | refine wK ?_ | refine wE rfl ?_ | refine wS ?_))
              refine VO.call rfl rfl ⟨_, Tryz.func24, by kernel_rfl, by kernel_rfl⟩ (fun wa50 ka50 ba50 => (ratCmp_any _ _ (qa) (qb) (8) (8) wa50 (hA.kp (Kp.of (U := UU) ba50)) (hB.kp (Kp.of (U := UU) ba50)) (by omega) (by omega) ).mono ?_)
              rintro e w50 ⟨rfl, hb50⟩
              skip
              refine ⟨_, rfl, hb50, fun kb50 _ bb50 => wV rfl ?_⟩
              (repeat (first | refine wN ?_ | refine wQ ?_ | refine cx_r rfl ?_ | refine cx_d (by kernel_rfl) rfl ?_ | refine wO rfl rfl ?_ | refine wT rfl ?_ | refine wF rfl ?_ | refine wB ?_ | refine wK ?_ | refine wE rfl ?_ | refine wS ?_))
              refine VO.fix 183 rfl (congrArg (fun b => AV.val (.bool b)) (decide_eq_true hab)) ?_
              (repeat (first | refine wN ?_ | refine wQ ?_ | refine cx_r rfl ?_ | refine cx_d (by kernel_rfl) rfl ?_ | refine wO rfl rfl ?_ | refine wT rfl ?_ | refine wF rfl ?_ | refine wB ?_ | refine wK ?_ | refine wE rfl ?_ | refine wS ?_))
              refine VO.call rfl rfl ⟨_, Tryz.func11, by kernel_rfl, by kernel_rfl⟩ (fun wa51 ka51 ba51 => (ratAdd_any _ _ (qa) (qc) (8) (8) wa51 (hA.kp (Kp.of (U := UU) ba51)) (hC.kp (Kp.of (U := UU) ba51)) (by omega) (by omega)).mono ?_)
              rintro e w51 ⟨r51, rfl, q51, hb51⟩
              obtain ⟨s51, p51, n51, c51, t51, y51, m51, d51, rfl⟩ := q51.form
              refine ⟨_, rfl, hb51, fun kb51 _ bb51 => wV rfl ?_⟩
              (repeat (first | refine wN ?_ | refine wQ ?_ | refine cx_r rfl ?_ | refine cx_d (by kernel_rfl) rfl ?_ | refine wO rfl rfl ?_ | refine wT rfl ?_ | refine wF rfl ?_ | refine wB ?_ | refine wK ?_ | refine wE rfl ?_ | refine wS ?_))
              refine VO.call rfl rfl ⟨_, Tryz.func11, by kernel_rfl, by kernel_rfl⟩ (fun wa52 ka52 ba52 => (ratAdd_any _ _ (qb) (qc) (8) (8) wa52 (hB.kp (Kp.of (U := UU) ba52)) (hC.kp (Kp.of (U := UU) ba52)) (by omega) (by omega)).mono ?_)
              rintro e w52 ⟨r52, rfl, q52, hb52⟩
              obtain ⟨s52, p52, n52, c52, t52, y52, m52, d52, rfl⟩ := q52.form
              refine ⟨_, rfl, hb52, fun kb52 _ bb52 => wV rfl ?_⟩
              (repeat (first | refine wN ?_ | refine wQ ?_ | refine cx_r rfl ?_ | refine cx_d (by kernel_rfl) rfl ?_ | refine wO rfl rfl ?_ | refine wT rfl ?_ | refine wF rfl ?_ | refine wB ?_ | refine wK ?_ | refine wE rfl ?_ | refine wS ?_))
              refine VO.call rfl rfl ⟨_, Tryz.func24, by kernel_rfl, by kernel_rfl⟩ (fun wa53 ka53 ba53 => (ratCmp_any _ _ ((qa) + (qc)) ((qb) + (qc)) (17) (17) wa53 ((q51.kp (by (with_reducible (repeat (first | assumption | exact kR _ | refine kT ?_ (by assumption)))))).in (RSz.add hA8 hC8)) ((q52.kp (by (with_reducible (repeat (first | assumption | exact kR _ | refine kT ?_ (by assumption)))))).in (RSz.add hB8 hC8)) (by omega) (by omega) ).mono ?_)
              rintro e w53 ⟨rfl, hb53⟩
              skip
              refine ⟨_, rfl, hb53, fun kb53 _ bb53 => wV rfl ?_⟩
              (repeat (first | refine wN ?_ | refine wQ ?_ | refine cx_r rfl ?_ | refine cx_d (by kernel_rfl) rfl ?_ | refine wO rfl rfl ?_ | refine wT rfl ?_ | refine wF rfl ?_ | refine wB ?_ | refine wK ?_ | refine wE rfl ?_ | refine wS ?_))
              refine VS.condN rfl (decide_eq_false (rf11 qc hab)) ?_
              (repeat (first | refine wN ?_ | refine wQ ?_ | refine cx_r rfl ?_ | refine cx_d (by kernel_rfl) rfl ?_ | refine wO rfl rfl ?_ | refine wT rfl ?_ | refine wF rfl ?_ | refine wB ?_ | refine wK ?_ | refine wE rfl ?_ | refine wS ?_))
              refine VO.callF rfl ⟨_, Tryz.func34, by kernel_rfl, by kernel_rfl⟩ (fun wa54 β ka54 ba54 ho => (ratMin_any _ _ (qa) [qb, qc] 8 wa54 ((hA.kp (Kp.of (U := UU) ba54)).mono' (show 8 ≤ 8 by omega)) (ownV_rats (ho.own 197 (.base (List.mem_singleton.2 rfl)) _ _ rfl) [] (vs := [[.bool s', .slice bp xs'.length bc, .bool t', .slice br ys'.length bd], [.bool s'', .slice cp xs''.length cc, .bool t'', .slice cr ys''.length cd0]]) (by rfl) rfl (RatRow.cons ((hB.kp (Kp.of (U := UU) ba54)).mono' (show 8 ≤ 8 by omega)) (RatRow.cons ((hC.kp (Kp.of (U := UU) ba54)).mono' (show 8 ≤ 8 by omega)) RatRow.nil)) (Nat.le_of_ble_eq_true rfl) (by decide)) (by omega) (Nat.le_of_ble_eq_true rfl)).mono ?_)
              rintro e w54 ⟨r54, rfl, q54, z54, hb54⟩
              obtain ⟨s54, p54, n54, c54, t54, y54, m54, d54, rfl⟩ := q54.form
              refine ⟨_, rfl, hb54, fun kb54 _ bb54 => wV rfl ?_⟩
              (repeat (first | refine wN ?_ | refine wQ ?_ | refine cx_r rfl ?_ | refine cx_d (by kernel_rfl) rfl ?_ | refine wO rfl rfl ?_ | refine wT rfl ?_ | refine wF rfl ?_ | refine wB ?_ | refine wK ?_ | refine wE rfl ?_ | refine wS ?_))
              refine VO.callF rfl ⟨_, Tryz.func36, by kernel_rfl, by kernel_rfl⟩ (fun wa55 β ka55 ba55 ho => (ratMax_any _ _ (qa) [qb, qc] 8 wa55 ((hA.kp (Kp.of (U := UU) ba55)).mono' (show 8 ≤ 8 by omega)) (ownV_rats (ho.own 202 (.base (List.mem_singleton.2 rfl)) _ _ rfl) [] (vs := [[.bool s', .slice bp xs'.length bc, .bool t', .slice br ys'.length bd], [.bool s'', .slice cp xs''.length cc, .bool t'', .slice cr ys''.length cd0]]) (by rfl) rfl (RatRow.cons ((hB.kp (Kp.of (U := UU) ba55)).mono' (show 8 ≤ 8 by omega)) (RatRow.cons ((hC.kp (Kp.of (U := UU) ba55)).mono' (show 8 ≤ 8 by omega)) RatRow.nil)) (Nat.le_of_ble_eq_true rfl) (by decide)) (by omega) (Nat.le_of_ble_eq_true rfl)).mono ?_)
              rintro e w55 ⟨r55, rfl, q55, z55, hb55⟩
              obtain ⟨s55, p55, n55, c55, t55, y55, m55, d55, rfl⟩ := q55.form
              refine ⟨_, rfl, hb55, fun kb55 _ bb55 => wV rfl ?_⟩
              (repeat (first | refine wN ?_ | refine wQ ?_ | refine cx_r rfl ?_ | refine cx_d (by kernel_rfl) rfl ?_ | refine wO rfl rfl ?_ | refine wT rfl ?_ | refine wF rfl ?_ | refine wB ?_ | refine wK ?_ | refine wE rfl ?_ | refine wS ?_))
              refine VO.call rfl rfl ⟨_, Tryz.func24, by kernel_rfl, by kernel_rfl⟩ (fun wa56 ka56 ba56 => (ratCmp_any _ _ (rbest rless (qa) [qb, qc]) (qa) (8) (8) wa56 ((q54.kp (by (with_reducible (repeat (first | assumption | exact kR _ | refine kT ?_ (by assumption)))))).in (RSz.mono z54 (Nat.le_of_ble_eq_true rfl))) (hA.kp (Kp.of (U := UU) ba56)) (by omega) (by omega) ).mono ?_)
              rintro e w56 ⟨rfl, hb56⟩
              skip
              refine ⟨_, rfl, hb56, fun kb56 _ bb56 => wV rfl ?_⟩
              (repeat (first | refine wN ?_ | refine wQ ?_ | refine cx_r rfl ?_ | refine cx_d (by kernel_rfl) rfl ?_ | refine wO rfl rfl ?_ | refine wT rfl ?_ | refine wF rfl ?_ | refine wB ?_ | refine wK ?_ | refine wE rfl ?_ | refine wS ?_))
              refine VO.fix 208 rfl (congrArg (fun b => AV.val (.bool b)) (decide_eq_true (rf_lo0 qa qb qc))) ?_
              (repeat (first | refine wN ?_ | refine wQ ?_ | refine cx_r rfl ?_ | refine cx_d (by kernel_rfl) rfl ?_ | refine wO rfl rfl ?_ | refine wT rfl ?_ | refine wF rfl ?_ | refine wB ?_ | refine wK ?_ | refine wE rfl ?_ | refine wS ?_))
              refine VO.call rfl rfl ⟨_, Tryz.func24, by kernel_rfl, by kernel_rfl⟩ (fun wa57 ka57 ba57 => (ratCmp_any _ _ (rbest rless (qa) [qb, qc]) (qb) (8) (8) wa57 ((q54.kp (by (with_reducible (repeat (first | assumption | exact kR _ | refine kT ?_ (by assumption)))))).in (RSz.mono z54 (Nat.le_of_ble_eq_true rfl))) (hB.kp (Kp.of (U := UU) ba57)) (by omega) (by omega) ).mono ?_)
              rintro e w57 ⟨rfl, hb57⟩
              skip
              refine ⟨_, rfl, hb57, fun kb57 _ bb57 => wV rfl ?_⟩
              (repeat (first | refine wN ?_ | refine wQ ?_ | refine cx_r rfl ?_ | refine cx_d (by kernel_rfl) rfl ?_ | refine wO rfl rfl ?_ | refine wT rfl ?_ | refine wF rfl ?_ | refine wB ?_ | refine wK ?_ | refine wE rfl ?_ | refine wS ?_))
              refine VO.fix 214 rfl (congrArg (fun b => AV.val (.bool b)) (decide_eq_true (rf_lo1 qa qb qc))) ?_
              (repeat (first | refine wN ?_ | refine wQ ?_ | refine cx_r rfl ?_ | refine cx_d (by kernel_rfl) rfl ?_ | refine wO rfl rfl ?_ | refine wT rfl ?_ | refine wF rfl ?_ | refine wB ?_ | refine wK ?_ | refine wE rfl ?_ | refine wS ?_))
              refine VO.call rfl rfl ⟨_, Tryz.func24, by kernel_rfl, by kernel_rfl⟩ (fun wa58 ka58 ba58 => (ratCmp_any _ _ (rbest rless (qa) [qb, qc]) (qc) (8) (8) wa58 ((q54.kp (by (with_reducible (repeat (first | assumption | exact kR _ | refine kT ?_ (by assumption)))))).in (RSz.mono z54 (Nat.le_of_ble_eq_true rfl))) (hC.kp (Kp.of (U := UU) ba58)) (by omega) (by omega) ).mono ?_)
              rintro e w58 ⟨rfl, hb58⟩
              skip
              refine ⟨_, rfl, hb58, fun kb58 _ bb58 => wV rfl ?_⟩
              (repeat (first | refine wN ?_ | refine wQ ?_ | refine cx_r rfl ?_ | refine cx_d (by kernel_rfl) rfl ?_ | refine wO rfl rfl ?_ | refine wT rfl ?_ | refine wF rfl ?_ | refine wB ?_ | refine wK ?_ | refine wE rfl ?_ | refine wS ?_))
              refine VO.fix 220 rfl (congrArg (fun b => AV.val (.bool b)) (decide_eq_true (rf_lo2 qa qb qc))) ?_
              (repeat (first | refine wN ?_ | refine wQ ?_ | refine cx_r rfl ?_ | refine cx_d (by kernel_rfl) rfl ?_ | refine wO rfl rfl ?_ | refine wT rfl ?_ | refine wF rfl ?_ | refine wB ?_ | refine wK ?_ | refine wE rfl ?_ | refine wS ?_))
              refine VO.call rfl rfl ⟨_, Tryz.func24, by kernel_rfl, by kernel_rfl⟩ (fun wa59 ka59 ba59 => (ratCmp_any _ _ (rbest rmore (qa) [qb, qc]) (qa) (8) (8) wa59 ((q55.kp (by (with_reducible (repeat (first | assumption | exact kR _ | refine kT ?_ (by assumption)))))).in (RSz.mono z55 (Nat.le_of_ble_eq_true rfl))) (hA.kp (Kp.of (U := UU) ba59)) (by omega) (by omega) ).mono ?_)
              rintro e w59 ⟨rfl, hb59⟩
              skip
              refine ⟨_, rfl, hb59, fun kb59 _ bb59 => wV rfl ?_⟩
              (repeat (first | refine wN ?_ | refine wQ ?_ | refine cx_r rfl ?_ | refine cx_d (by kernel_rfl) rfl ?_ | refine wO rfl rfl ?_ | refine wT rfl ?_ | refine wF rfl ?_ | refine wB ?_ | refine wK ?_ | refine wE rfl ?_ | refine wS ?_))
              refine VO.fix 226 rfl (congrArg (fun b => AV.val (.bool b)) (decide_eq_true (rf_hi0 qa qb qc))) ?_
              (repeat (first | refine wN ?_ | refine wQ ?_ | refine cx_r rfl ?_ | refine cx_d (by kernel_rfl) rfl ?_ | refine wO rfl rfl ?_ | refine wT rfl ?_ | refine wF rfl ?_ | refine wB ?_ | refine wK ?_ | refine wE rfl ?_ | refine wS ?_))
              refine VO.call rfl rfl ⟨_, Tryz.func24, by kernel_rfl, by kernel_rfl⟩ (fun wa60 ka60 ba60 => (ratCmp_any _ _ (rbest rmore (qa) [qb, qc]) (qb) (8) (8) wa60 ((q55.kp (by (with_reducible (repeat (first | assumption | exact kR _ | refine kT ?_ (by assumption)))))).in (RSz.mono z55 (Nat.le_of_ble_eq_true rfl))) (hB.kp (Kp.of (U := UU) ba60)) (by omega) (by omega) ).mono ?_)
              rintro e w60 ⟨rfl, hb60⟩
              skip
              refine ⟨_, rfl, hb60, fun kb60 _ bb60 => wV rfl ?_⟩
              (repeat (first | refine wN ?_ | refine wQ ?_ | refine cx_r rfl ?_ | refine cx_d (by kernel_rfl) rfl ?_ | refine wO rfl rfl ?_ | refine wT rfl ?_ | refine wF rfl ?_ | refine wB ?_ | refine wK ?_ | refine wE rfl ?_ | refine wS ?_))
              refine VO.fix 232 rfl (congrArg (fun b => AV.val (.bool b)) (decide_eq_true (rf_hi1 qa qb qc))) ?_
              (repeat (first | refine wN ?_ | refine wQ ?_ | refine cx_r rfl ?_ | refine cx_d (by kernel_rfl) rfl ?_ | refine wO rfl rfl ?_ | refine wT rfl ?_ | refine wF rfl ?_ | refine wB ?_ | refine wK ?_ | refine wE rfl ?_ | refine wS ?_))
              refine VO.call rfl rfl ⟨_, Tryz.func24, by kernel_rfl, by kernel_rfl⟩ (fun wa61 ka61 ba61 => (ratCmp_any _ _ (rbest rmore (qa) [qb, qc]) (qc) (8) (8) wa61 ((q55.kp (by (with_reducible (repeat (first | assumption | exact kR _ | refine kT ?_ (by assumption)))))).in (RSz.mono z55 (Nat.le_of_ble_eq_true rfl))) (hC.kp (Kp.of (U := UU) ba61)) (by omega) (by omega) ).mono ?_)
              rintro e w61 ⟨rfl, hb61⟩
              skip
              refine ⟨_, rfl, hb61, fun kb61 _ bb61 => wV rfl ?_⟩
              (repeat (first | refine wN ?_ | refine wQ ?_ | refine cx_r rfl ?_ | refine cx_d (by kernel_rfl) rfl ?_ | refine wO rfl rfl ?_ | refine wT rfl ?_ | refine wF rfl ?_ | refine wB ?_ | refine wK ?_ | refine wE rfl ?_ | refine wS ?_))
              refine VO.fix 238 rfl (congrArg (fun b => AV.val (.bool b)) (decide_eq_true (rf_hi2 qa qb qc))) ?_
              (repeat (first | refine wN ?_ | refine wQ ?_ | refine cx_r rfl ?_ | refine cx_d (by kernel_rfl) rfl ?_ | refine wO rfl rfl ?_ | refine wT rfl ?_ | refine wF rfl ?_ | refine wB ?_ | refine wK ?_ | refine wE rfl ?_ | refine wS ?_))
              refine VO.call rfl rfl ⟨_, Tryz.func8, by kernel_rfl, by kernel_rfl⟩ (fun wa62 ka62 ba62 => (works04_any wa62).mono ?_)
              rintro e w62 ⟨rfl, hb62⟩
              skip
              refine ⟨_, rfl, hb62, fun kb62 _ bb62 => wV rfl ?_⟩
              (repeat (first | refine wN ?_ | refine wQ ?_ | refine cx_r rfl ?_ | refine cx_d (by kernel_rfl) rfl ?_ | refine wO rfl rfl ?_ | refine wT rfl ?_ | refine wF rfl ?_ | refine wB ?_ | refine wK ?_ | refine wE rfl ?_ | refine wS ?_))
              refine VS.ret (cx_ok _ _) rfl rfl (fun wz kz bz => ?_)
              exact ⟨rfl, bz⟩
            · skip
              refine VO.fix 171 rfl (congrArg (fun b => AV.val (.bool b)) (decide_eq_false hbc)) ?_
              (repeat (first | refine wN ?_ | refine wQ ?_ | refine cx_r rfl ?_ | refine cx_d (by kernel_rfl) rfl ?_ | refine wO rfl rfl ?_ | refine wT rfl ?_ | refine wF rfl ?_ | refine wB ?_ | refine wK ?_ | refine wE rfl ?_ | refine wS ?_))
              refine VO.call rfl rfl ⟨_, Tryz.func24, by kernel_rfl, by kernel_rfl⟩ (fun wa49 ka49 ba49 => (ratCmp_any _ _ (qa) (qb) (8) (8) wa49 (hA.kp (Kp.of (U := UU) ba49)) (hB.kp (Kp.of (U := UU) ba49)) (by omega) (by omega) ).mono ?_)
              rintro e w49 ⟨rfl, hb49⟩
              skip
              refine ⟨_, rfl, hb49, fun kb49 _ bb49 => wV rfl ?_⟩
              (repeat (first | refine wN ?_ | refine wQ ?_ | refine cx_r rfl ?_ | refine cx_d (by kernel_rfl) rfl ?_ | refine wO rfl rfl ?_ | refine wT rfl ?_ | refine wF rfl ?_ | refine wB ?_ | refine wK ?_ | refine wE rfl ?_ | refine wS ?_))
              refine VO.fix 183 rfl (congrArg (fun b => AV.val (.bool b)) (decide_eq_true hab)) ?_
              (repeat (first | refine wN ?_ | refine wQ ?_ | refine cx_r rfl ?_ | refine cx_d (by kernel_rfl) rfl ?_ | refine wO rfl rfl ?_ | refine wT rfl ?_ | refine wF rfl ?_ | refine wB ?_ | refine wK ?_ | refine wE rfl ?_ | refine wS ?_))
              refine VO.call rfl rfl ⟨_, Tryz.func11, by kernel_rfl, by kernel_rfl⟩ (fun wa50 ka50 ba50 => (ratAdd_any _ _ (qa) (qc) (8) (8) wa50 (hA.kp (Kp.of (U := UU) ba50)) (hC.kp (Kp.of (U := UU) ba50)) (by omega) (by omega)).mono ?_)
              rintro e w50 ⟨r50, rfl, q50, hb50⟩
              obtain ⟨s50, p50, n50, c50, t50, y50, m50, d50, rfl⟩ := q50.form
              refine ⟨_, rfl, hb50, fun kb50 _ bb50 => wV rfl ?_⟩
              (repeat (first | refine wN ?_ | refine wQ ?_ | refine cx_r rfl ?_ | refine cx_d (by kernel_rfl) rfl ?_ | refine wO rfl rfl ?_ | refine wT rfl ?_ | refine wF rfl ?_ | refine wB ?_ | refine wK ?_ | refine wE rfl ?_ | refine wS ?_))
              refine VO.call rfl rfl ⟨_, Tryz.func11, by kernel_rfl, by kernel_rfl⟩ (fun wa51 ka51 ba51 => (ratAdd_any _ _ (qb) (qc) (8) (8) wa51 (hB.kp (Kp.of (U := UU) ba51)) (hC.kp (Kp.of (U := UU) ba51)) (by omega) (by omega)).mono ?_)
              rintro e w51 ⟨r51, rfl, q51, hb51⟩
              obtain ⟨s51, p51, n51, c51, t51, y51, m51, d51, rfl⟩ := q51.form
              refine ⟨_, rfl, hb51, fun kb51 _ bb51 => wV rfl ?_⟩
              (repeat (first | refine wN ?_ | refine wQ ?_ | refine cx_r rfl ?_ | refine cx_d (by kernel_rfl) rfl ?_ | refine wO rfl rfl ?_ | refine wT rfl ?_ | refine wF rfl ?_ | refine wB ?_ | refine wK ?_ | refine wE rfl ?_ | refine wS ?_))
              refine VO.call rfl rfl ⟨_, Tryz.func24, by kernel_rfl, by kernel_rfl⟩ (fun wa52 ka52 ba52 => (ratCmp_any _ _ ((qa) + (qc)) ((qb) + (qc)) (17) (17) wa52 ((q50.kp (by (with_reducible (repeat (first | assumption | exact kR _ | refine kT ?_ (by assumption)))))).in (RSz.add hA8 hC8)) ((q51.kp (by (with_reducible (repeat (first | assumption | exact kR _ | refine kT ?_ (by assumption)))))).in (RSz.add hB8 hC8)) (by omega) (by omega) ).mono ?_)
              rintro e w52 ⟨rfl, hb52⟩
              skip
              refine ⟨_, rfl, hb52, fun kb52 _ bb52 => wV rfl ?_⟩
              (repeat (first | refine wN ?_ | refine wQ ?_ | refine cx_r rfl ?_ | refine cx_d (by kernel_rfl) rfl ?_ | refine wO rfl rfl ?_ | refine wT rfl ?_ | refine wF rfl ?_ | refine wB ?_ | refine wK ?_ | refine wE rfl ?_ | refine wS ?_))
              refine VS.condN rfl (decide_eq_false (rf11 qc hab)) ?_
              (repeat (first | refine wN ?_ | refine wQ ?_ | refine cx_r rfl ?_ | refine cx_d (by kernel_rfl) rfl ?_ | refine wO rfl rfl ?_ | refine wT rfl ?_ | refine wF rfl ?_ | refine wB ?_ | refine wK ?_ | refine wE rfl ?_ | refine wS ?_))
              refine VO.callF rfl ⟨_, Tryz.func34, by kernel_rfl, by kernel_rfl⟩ (fun wa53 β ka53 ba53 ho => (ratMin_any _ _ (qa) [qb, qc] 8 wa53 ((hA.kp (Kp.of (U := UU) ba53)).mono' (show 8 ≤ 8 by omega)) (ownV_rats (ho.own 197 (.base (List.mem_singleton.2 rfl)) _ _ rfl) [] (vs := [[.bool s', .slice bp xs'.length bc, .bool t', .slice br ys'.length bd], [.bool s'', .slice cp xs''.length cc, .bool t'', .slice cr ys''.length cd0]]) (by rfl) rfl (RatRow.cons ((hB.kp (Kp.of (U := UU) ba53)).mono' (show 8 ≤ 8 by omega)) (RatRow.cons ((hC.kp (Kp.of (U := UU) ba53)).mono' (show 8 ≤ 8 by omega)) RatRow.nil)) (Nat.le_of_ble_eq_true rfl) (by decide)) (by omega) (Nat.le_of_ble_eq_true rfl)).mono ?_)
              rintro e w53 ⟨r53, rfl, q53, z53, hb53⟩
              obtain ⟨s53, p53, n53, c53, t53, y53, m53, d53, rfl⟩ := q53.form
              refine ⟨_, rfl, hb53, fun kb53 _ bb53 => wV rfl ?_⟩
              (repeat (first | refine wN ?_ | refine wQ ?_ | refine cx_r rfl ?_ | refine cx_d (by kernel_rfl) rfl ?_ | refine wO rfl rfl ?_ | refine wT rfl ?_ | refine wF rfl ?_ | refine wB ?_ | refine wK ?_ | refine wE rfl ?_ | refine wS ?_))
              refine VO.callF rfl ⟨_, Tryz.func36, by kernel_rfl, by kernel_rfl⟩ (fun wa54 β ka54 ba54 ho => (ratMax_any _ _ (qa) [qb, qc] 8 wa54 ((hA.kp (Kp.of (U := UU) ba54)).mono' (show 8 ≤ 8 by omega)) (ownV_rats (ho.own 202 (.base (List.mem_singleton.2 rfl)) _ _ rfl) [] (vs := [[.bool s', .slice bp xs'.length bc, .bool t', .slice br ys'.length bd], [.bool s'', .slice cp xs''.length cc, .bool t'', .slice cr ys''.length cd0]]) (by rfl) rfl (RatRow.cons ((hB.kp (Kp.of (U := UU) ba54)).mono' (show 8 ≤ 8 by omega)) (RatRow.cons ((hC.kp (Kp.of (U := UU) ba54)).mono' (show 8 ≤ 8 by omega)) RatRow.nil)) (Nat.le_of_ble_eq_true rfl) (by decide)) (by omega) (Nat.le_of_ble_eq_true rfl)).mono ?_)
              rintro e w54 ⟨r54, rfl, q54, z54, hb54⟩
              obtain ⟨s54, p54, n54, c54, t54, y54, m54, d54, rfl⟩ := q54.form
              refine ⟨_, rfl, hb54, fun kb54 _ bb54 => wV rfl ?_⟩
              (repeat (first | refine wN ?_ | refine wQ ?_ | refine cx_r rfl ?_ | refine cx_d (by kernel_rfl) rfl ?_ | refine wO rfl rfl ?_ | refine wT rfl ?_ | refine wF rfl ?_ | refine wB ?_ | refine wK ?_ | refine wE rfl ?_ | refine wS ?_))
              refine VO.call rfl rfl ⟨_, Tryz.func24, by kernel_rfl, by kernel_rfl⟩ (fun wa55 ka55 ba55 => (ratCmp_any _ _ (rbest rless (qa) [qb, qc]) (qa) (8) (8) wa55 ((q53.kp (by (with_reducible (repeat (first | assumption | exact kR _ | refine kT ?_ (by assumption)))))).in (RSz.mono z53 (Nat.le_of_ble_eq_true rfl))) (hA.kp (Kp.of (U := UU) ba55)) (by omega) (by omega) ).mono ?_)
              rintro e w55 ⟨rfl, hb55⟩
              skip
              refine ⟨_, rfl, hb55, fun kb55 _ bb55 => wV rfl ?_⟩
              (repeat (first | refine wN ?_ | refine wQ ?_ | refine cx_r rfl ?_ | refine cx_d (by kernel_rfl) rfl ?_ | refine wO rfl rfl ?_ | refine wT rfl ?_ | refine wF rfl ?_ | refine wB ?_ | refine wK ?_ | refine wE rfl ?_ | refine wS ?_))
              refine VO.fix 208 rfl (congrArg (fun b => AV.val (.bool b)) (decide_eq_true (rf_lo0 qa qb qc))) ?_
              (repeat (first | refine wN ?_ | refine wQ ?_ | refine cx_r rfl ?_ | refine cx_d (by kernel_rfl) rfl ?_ | refine wO rfl rfl ?_ | refine wT rfl ?_ | refine wF rfl ?_ | refine wB ?_ | refine wK ?_ | refine wE rfl ?_ | refine wS ?_))
              refine VO.call rfl rfl ⟨_, Tryz.func24, by kernel_rfl, by kernel_rfl⟩ (fun wa56 ka56 ba56 => (ratCmp_any _ _ (rbest rless (qa) [qb, qc]) (qb) (8) (8) wa56 ((q53.kp (by (with_reducible (repeat (first | assumption | exact kR _ | refine kT ?_ (by assumption)))))).in (RSz.mono z53 (Nat.le_of_ble_eq_true rfl))) (hB.kp (Kp.of (U := UU) ba56)) (by omega) (by omega) ).mono ?_)
              rintro e w56 ⟨rfl, hb56⟩
              skip
              refine ⟨_, rfl, hb56, fun kb56 _ bb56 => wV rfl ?_⟩
              (repeat (first | refine wN ?_ | refine wQ ?_ | refine cx_r rfl ?_ | refine cx_d (by kernel_rfl) rfl ?_ | refine wO rfl rfl ?_ | refine wT rfl ?_ | refine wF rfl ?_ | refine wB ?_ | refine wK ?_ | refine wE rfl ?_ | refine wS ?_))
              refine VO.fix 214 rfl (congrArg (fun b => AV.val (.bool b)) (decide_eq_true (rf_lo1 qa qb qc))) ?_
              (repeat (first | refine wN ?_ | refine wQ ?_ | refine cx_r rfl ?_ | refine cx_d (by kernel_rfl) rfl ?_ | refine wO rfl rfl ?_ | refine wT rfl ?_ | refine wF rfl ?_ | refine wB ?_ | refine wK ?_ | refine wE rfl ?_ | refine wS ?_))
              refine VO.call rfl rfl ⟨_, Tryz.func24, by kernel_rfl, by kernel_rfl⟩ (fun wa57 ka57 ba57 => (ratCmp_any _ _ (rbest rless (qa) [qb, qc]) (qc) (8) (8) wa57 ((q53.kp (by (with_reducible (repeat (first | assumption | exact kR _ | refine kT ?_ (by assumption)))))).in (RSz.mono z53 (Nat.le_of_ble_eq_true rfl))) (hC.kp (Kp.of (U := UU) ba57)) (by omega) (by omega) ).mono ?_)
              rintro e w57 ⟨rfl, hb57⟩
              skip
              refine ⟨_, rfl, hb57, fun kb57 _ bb57 => wV rfl ?_⟩
              (repeat (first | refine wN ?_ | refine wQ ?_ | refine cx_r rfl ?_ | refine cx_d (by kernel_rfl) rfl ?_ | refine wO rfl rfl ?_ | refine wT rfl ?_ | refine wF rfl ?_ | refine wB ?_ | refine wK ?_ | refine wE rfl ?_ | refine wS ?_))
              refine VO.fix 220 rfl (congrArg (fun b => AV.val (.bool b)) (decide_eq_true (rf_lo2 qa qb qc))) ?_
              (repeat (first | refine wN ?_ | refine wQ ?_ | refine cx_r rfl ?_ | refine cx_d (by kernel_rfl) rfl ?_ | refine wO rfl rfl ?_ | refine wT rfl ?_ | refine wF rfl ?_ | refine wB ?_ | refine wK ?_ | refine wE rfl ?_ | refine wS ?_))
              refine VO.call rfl rfl ⟨_, Tryz.func24, by kernel_rfl, by kernel_rfl⟩ (fun wa58 ka58 ba58 => (ratCmp_any _ _ (rbest rmore (qa) [qb, qc]) (qa) (8) (8) wa58 ((q54.kp (by (with_reducible (repeat (first | assumption | exact kR _ | refine kT ?_ (by assumption)))))).in (RSz.mono z54 (Nat.le_of_ble_eq_true rfl))) (hA.kp (Kp.of (U := UU) ba58)) (by omega) (by omega) ).mono ?_)
              rintro e w58 ⟨rfl, hb58⟩
              skip
              refine ⟨_, rfl, hb58, fun kb58 _ bb58 => wV rfl ?_⟩
              (repeat (first | refine wN ?_ | refine wQ ?_ | refine cx_r rfl ?_ | refine cx_d (by kernel_rfl) rfl ?_ | refine wO rfl rfl ?_ | refine wT rfl ?_ | refine wF rfl ?_ | refine wB ?_ | refine wK ?_ | refine wE rfl ?_ | refine wS ?_))
              refine VO.fix 226 rfl (congrArg (fun b => AV.val (.bool b)) (decide_eq_true (rf_hi0 qa qb qc))) ?_
              (repeat (first | refine wN ?_ | refine wQ ?_ | refine cx_r rfl ?_ | refine cx_d (by kernel_rfl) rfl ?_ | refine wO rfl rfl ?_ | refine wT rfl ?_ | refine wF rfl ?_ | refine wB ?_ | refine wK ?_ | refine wE rfl ?_ | refine wS ?_))
              refine VO.call rfl rfl ⟨_, Tryz.func24, by kernel_rfl, by kernel_rfl⟩ (fun wa59 ka59 ba59 => (ratCmp_any _ _ (rbest rmore (qa) [qb, qc]) (qb) (8) (8) wa59 ((q54.kp (by (with_reducible (repeat (first | assumption | exact kR _ | refine kT ?_ (by assumption)))))).in (RSz.mono z54 (Nat.le_of_ble_eq_true rfl))) (hB.kp (Kp.of (U := UU) ba59)) (by omega) (by omega) ).mono ?_)
              rintro e w59 ⟨rfl, hb59⟩
              skip
              refine ⟨_, rfl, hb59, fun kb59 _ bb59 => wV rfl ?_⟩
              (repeat (first | refine wN ?_ | refine wQ ?_ | refine cx_r rfl ?_ | refine cx_d (by kernel_rfl) rfl ?_ | refine wO rfl rfl ?_ | refine wT rfl ?_ | refine wF rfl ?_ | refine wB ?_ | refine wK ?_ | refine wE rfl ?_ | refine wS ?_))
              refine VO.fix 232 rfl (congrArg (fun b => AV.val (.bool b)) (decide_eq_true (rf_hi1 qa qb qc))) ?_
              (repeat (first | refine wN ?_ | refine wQ ?_ | refine cx_r rfl ?_ | refine cx_d (by kernel_rfl) rfl ?_ | refine wO rfl rfl ?_ | refine wT rfl ?_ | refine wF rfl ?_ | refine wB ?_ | refine wK ?_ | refine wE rfl ?_ | refine wS ?_))
              refine VO.call rfl rfl ⟨_, Tryz.func24, by kernel_rfl, by kernel_rfl⟩ (fun wa60 ka60 ba60 => (ratCmp_any _ _ (rbest rmore (qa) [qb, qc]) (qc) (8) (8) wa60 ((q54.kp (by (with_reducible (repeat (first | assumption | exact kR _ | refine kT ?_ (by assumption)))))).in (RSz.mono z54 (Nat.le_of_ble_eq_true rfl))) (hC.kp (Kp.of (U := UU) ba60)) (by omega) (by omega) ).mono ?_)
              rintro e w60 ⟨rfl, hb60⟩
              skip
              refine ⟨_, rfl, hb60, fun kb60 _ bb60 => wV rfl ?_⟩
              (repeat (first | refine wN ?_ | refine wQ ?_ | refine cx_r rfl ?_ | refine cx_d (by kernel_rfl) rfl ?_ | refine wO rfl rfl ?_ | refine wT rfl ?_ | refine wF rfl ?_ | refine wB ?_ | refine wK ?_ | refine wE rfl ?_ | refine wS ?_))
              refine VO.fix 238 rfl (congrArg (fun b => AV.val (.bool b)) (decide_eq_true (rf_hi2 qa qb qc))) ?_
              (repeat (first | refine wN ?_ | refine wQ ?_ | refine cx_r rfl ?_ | refine cx_d (by kernel_rfl) rfl ?_ | refine wO rfl rfl ?_ | refine wT rfl ?_ | refine wF rfl ?_ | refine wB ?_ | refine wK ?_ | refine wE rfl ?_ | refine wS ?_))
              refine VO.call rfl rfl ⟨_, Tryz.func8, by kernel_rfl, by kernel_rfl⟩ (fun wa61 ka61 ba61 => (works04_any wa61).mono ?_)
              rintro e w61 ⟨rfl, hb61⟩
              skip
              refine ⟨_, rfl, hb61, fun kb61 _ bb61 => wV rfl ?_⟩
              (repeat (first | refine wN ?_ | refine wQ ?_ | refine cx_r rfl ?_ | refine cx_d (by kernel_rfl) rfl ?_ | refine wO rfl rfl ?_ | refine wT rfl ?_ | refine wF rfl ?_ | refine wB ?_ | refine wK ?_ | refine wE rfl ?_ | refine wS ?_))
              refine VS.ret (cx_ok _ _) rfl rfl (fun wz kz bz => ?_)
              exact ⟨rfl, bz⟩
          · skip
            refine VO.fix 165 rfl (congrArg (fun b => AV.val (.bool b)) (decide_eq_false hab)) ?_
            (repeat (first | refine wN ?_ | refine wQ ?_ | refine cx_r rfl ?_ | refine cx_d (by kernel_rfl) rfl ?_ | refine wO rfl rfl ?_ | refine wT rfl ?_ | refine wF rfl ?_ | refine wB ?_ | refine wK ?_ | refine wE rfl ?_ | refine wS ?_))
            refine VO.call rfl rfl ⟨_, Tryz.func24, by kernel_rfl, by kernel_rfl⟩ (fun wa48 ka48 ba48 => (ratCmp_any _ _ (qa) (qb) (8) (8) wa48 (hA.kp (Kp.of (U := UU) ba48)) (hB.kp (Kp.of (U := UU) ba48)) (by omega) (by omega) ).mono ?_)
            rintro e w48 ⟨rfl, hb48⟩
            skip
            refine ⟨_, rfl, hb48, fun kb48 _ bb48 => wV rfl ?_⟩
            (repeat (first | refine wN ?_ | refine wQ ?_ | refine cx_r rfl ?_ | refine cx_d (by kernel_rfl) rfl ?_ | refine wO rfl rfl ?_ | refine wT rfl ?_ | refine wF rfl ?_ | refine wB ?_ | refine wK ?_ | refine wE rfl ?_ | refine wS ?_))
            refine VO.fix 183 rfl (congrArg (fun b => AV.val (.bool b)) (decide_eq_false hab)) ?_
            (repeat (first | refine wN ?_ | refine wQ ?_ | refine cx_r rfl ?_ | refine cx_d (by kernel_rfl) rfl ?_ | refine wO rfl rfl ?_ | refine wT rfl ?_ | refine wF rfl ?_ | refine wB ?_ | refine wK ?_ | refine wE rfl ?_ | refine wS ?_))
            refine VO.callF rfl ⟨_, Tryz.func34, by kernel_rfl, by kernel_rfl⟩ (fun wa49 β ka49 ba49 ho => (ratMin_any _ _ (qa) [qb, qc] 8 wa49 ((hA.kp (Kp.of (U := UU) ba49)).mono' (show 8 ≤ 8 by omega)) (ownV_rats (ho.own 197 (.base (List.mem_singleton.2 rfl)) _ _ rfl) [] (vs := [[.bool s', .slice bp xs'.length bc, .bool t', .slice br ys'.length bd], [.bool s'', .slice cp xs''.length cc, .bool t'', .slice cr ys''.length cd0]]) (by rfl) rfl (RatRow.cons ((hB.kp (Kp.of (U := UU) ba49)).mono' (show 8 ≤ 8 by omega)) (RatRow.cons ((hC.kp (Kp.of (U := UU) ba49)).mono' (show 8 ≤ 8 by omega)) RatRow.nil)) (Nat.le_of_ble_eq_true rfl) (by decide)) (by omega) (Nat.le_of_ble_eq_true rfl)).mono ?_)
            rintro e w49 ⟨r49, rfl, q49, z49, hb49⟩
            obtain ⟨s49, p49, n49, c49, t49, y49, m49, d49, rfl⟩ := q49.form
            refine ⟨_, rfl, hb49, fun kb49 _ bb49 => wV rfl ?_⟩
            (repeat (first | refine wN ?_ | refine wQ ?_ | refine cx_r rfl ?_ | refine cx_d (by kernel_rfl) rfl ?_ | refine wO rfl rfl ?_ | refine wT rfl ?_ | refine wF rfl ?_ | refine wB ?_ | refine wK ?_ | refine wE rfl ?_ | refine wS ?_))
            refine VO.callF rfl ⟨_, Tryz.func36, by kernel_rfl, by kernel_rfl⟩ (fun wa50 β ka50 ba50 ho => (ratMax_any _ _ (qa) [qb, qc] 8 wa50 ((hA.kp (Kp.of (U := UU) ba50)).mono' (show 8 ≤ 8 by omega)) (ownV_rats (ho.own 202 (.base (List.mem_singleton.2 rfl)) _ _ rfl) [] (vs := [[.bool s', .slice bp xs'.length bc, .bool t', .slice br ys'.length bd], [.bool s'', .slice cp xs''.length cc, .bool t'', .slice cr ys''.length cd0]]) (by rfl) rfl (RatRow.cons ((hB.kp (Kp.of (U := UU) ba50)).mono' (show 8 ≤ 8 by omega)) (RatRow.cons ((hC.kp (Kp.of (U := UU) ba50)).mono' (show 8 ≤ 8 by omega)) RatRow.nil)) (Nat.le_of_ble_eq_true rfl) (by decide)) (by omega) (Nat.le_of_ble_eq_true rfl)).mono ?_)
            rintro e w50 ⟨r50, rfl, q50, z50, hb50⟩
            obtain ⟨s50, p50, n50, c50, t50, y50, m50, d50, rfl⟩ := q50.form
            refine ⟨_, rfl, hb50, fun kb50 _ bb50 => wV rfl ?_⟩
            (repeat (first | refine wN ?_ | refine wQ ?_ | refine cx_r rfl ?_ | refine cx_d (by kernel_rfl) rfl ?_ | refine wO rfl rfl ?_ | refine wT rfl ?_ | refine wF rfl ?_ | refine wB ?_ | refine wK ?_ | refine wE rfl ?_ | refine wS ?_))
            refine VO.call rfl rfl ⟨_, Tryz.func24, by kernel_rfl, by kernel_rfl⟩ (fun wa51 ka51 ba51 => (ratCmp_any _ _ (rbest rless (qa) [qb, qc]) (qa) (8) (8) wa51 ((q49.kp (by (with_reducible (repeat (first | assumption | exact kR _ | refine kT ?_ (by assumption)))))).in (RSz.mono z49 (Nat.le_of_ble_eq_true rfl))) (hA.kp (Kp.of (U := UU) ba51)) (by omega) (by omega) ).mono ?_)
            rintro e w51 ⟨rfl, hb51⟩
            skip
            refine ⟨_, rfl, hb51, fun kb51 _ bb51 => wV rfl ?_⟩
            (repeat (first | refine wN ?_ | refine wQ ?_ | refine cx_r rfl ?_ | refine cx_d (by kernel_rfl) rfl ?_ | refine wO rfl rfl ?_ | refine wT rfl ?_ | refine wF rfl ?_ | refine wB ?_ | refine wK ?_ | refine wE rfl ?_ | refine wS ?_))
            refine VO.fix 208 rfl (congrArg (fun b => AV.val (.bool b)) (decide_eq_true (rf_lo0 qa qb qc))) ?_
            (repeat (first | refine wN ?_ | refine wQ ?_ | refine cx_r rfl ?_ | refine cx_d (by kernel_rfl) rfl ?_ | refine wO rfl rfl ?_ | refine wT rfl ?_ | refine wF rfl ?_ | refine wB ?_ | refine wK ?_ | refine wE rfl ?_ | refine wS ?_))
            refine VO.call rfl rfl ⟨_, Tryz.func24, by kernel_rfl, by kernel_rfl⟩ (fun wa52 ka52 ba52 => (ratCmp_any _ _ (rbest rless (qa) [qb, qc]) (qb) (8) (8) wa52 ((q49.kp (by (with_reducible (repeat (first | assumption | exact kR _ | refine kT ?_ (by assumption)))))).in (RSz.mono z49 (Nat.le_of_ble_eq_true rfl))) (hB.kp (Kp.of (U := UU) ba52)) (by omega) (by omega) ).mono ?_)
            rintro e w52 ⟨rfl, hb52⟩
            skip
            refine ⟨_, rfl, hb52, fun kb52 _ bb52 => wV rfl ?_⟩
            (repeat (first | refine wN ?_ | refine wQ ?_ | refine cx_r rfl ?_ | refine cx_d (by kernel_rfl) rfl ?_ | refine wO rfl rfl ?_ | refine wT rfl ?_ | refine wF rfl ?_ | refine wB ?_ | refine wK ?_ | refine wE rfl ?_ | refine wS ?_))
            refine VO.fix 214 rfl (congrArg (fun b => AV.val (.bool b)) (decide_eq_true (rf_lo1 qa qb qc))) ?_
            (repeat (first | refine wN ?_ | refine wQ ?_ | refine cx_r rfl ?_ | refine cx_d (by kernel_rfl) rfl ?_ | refine wO rfl rfl ?_ | refine wT rfl ?_ | refine wF rfl ?_ | refine wB ?_ | refine wK ?_ | refine wE rfl ?_ | refine wS ?_))
            refine VO.call rfl rfl ⟨_, Tryz.func24, by kernel_rfl, by kernel_rfl⟩ (fun wa53 ka53 ba53 => (ratCmp_any _ _ (rbest rless (qa) [qb, qc]) (qc) (8) (8) wa53 ((q49.kp (by (with_reducible (repeat (first | assumption | exact kR _ | refine kT ?_ (by assumption)))))).in (RSz.mono z49 (Nat.le_of_ble_eq_true rfl))) (hC.kp (Kp.of (U := UU) ba53)) (by omega) (by omega) ).mono ?_)
            rintro e w53 ⟨rfl, hb53⟩
            skip
            refine ⟨_, rfl, hb53, fun kb53 _ bb53 => wV rfl ?_⟩
            (repeat (first | refine wN ?_ | refine wQ ?_ | refine cx_r rfl ?_ | refine cx_d (by kernel_rfl) rfl ?_ | refine wO rfl rfl ?_ | refine wT rfl ?_ | refine wF rfl ?_ | refine wB ?_ | refine wK ?_ | refine wE rfl ?_ | refine wS ?_))
            refine VO.fix 220 rfl (congrArg (fun b => AV.val (.bool b)) (decide_eq_true (rf_lo2 qa qb qc))) ?_
            (repeat (first | refine wN ?_ | refine wQ ?_ | refine cx_r rfl ?_ | refine cx_d (by kernel_rfl) rfl ?_ | refine wO rfl rfl ?_ | refine wT rfl ?_ | refine wF rfl ?_ | refine wB ?_ | refine wK ?_ | refine wE rfl ?_ | refine wS ?_))
            refine VO.call rfl rfl ⟨_, Tryz.func24, by kernel_rfl, by kernel_rfl⟩ (fun wa54 ka54 ba54 => (ratCmp_any _ _ (rbest rmore (qa) [qb, qc]) (qa) (8) (8) wa54 ((q50.kp (by (with_reducible (repeat (first | assumption | exact kR _ | refine kT ?_ (by assumption)))))).in (RSz.mono z50 (Nat.le_of_ble_eq_true rfl))) (hA.kp (Kp.of (U := UU) ba54)) (by omega) (by omega) ).mono ?_)
            rintro e w54 ⟨rfl, hb54⟩
            skip
            refine ⟨_, rfl, hb54, fun kb54 _ bb54 => wV rfl ?_⟩
            (repeat (first | refine wN ?_ | refine wQ ?_ | refine cx_r rfl ?_ | refine cx_d (by kernel_rfl) rfl ?_ | refine wO rfl rfl ?_ | refine wT rfl ?_ | refine wF rfl ?_ | refine wB ?_ | refine wK ?_ | refine wE rfl ?_ | refine wS ?_))
            refine VO.fix 226 rfl (congrArg (fun b => AV.val (.bool b)) (decide_eq_true (rf_hi0 qa qb qc))) ?_
            (repeat (first | refine wN ?_ | refine wQ ?_ | refine cx_r rfl ?_ | refine cx_d (by kernel_rfl) rfl ?_ | refine wO rfl rfl ?_ | refine wT rfl ?_ | refine wF rfl ?_ | refine wB ?_ | refine wK ?_ | refine wE rfl ?_ | refine wS ?_))
            refine VO.call rfl rfl ⟨_, Tryz.func24, by kernel_rfl, by kernel_rfl⟩ (fun wa55 ka55 ba55 => (ratCmp_any _ _ (rbest rmore (qa) [qb, qc]) (qb) (8) (8) wa55 ((q50.kp (by (with_reducible (repeat (first | assumption | exact kR _ | refine kT ?_ (by assumption)))))).in (RSz.mono z50 (Nat.le_of_ble_eq_true rfl))) (hB.kp (Kp.of (U := UU) ba55)) (by omega) (by omega) ).mono ?_)
            rintro e w55 ⟨rfl, hb55⟩
            skip
            refine ⟨_, rfl, hb55, fun kb55 _ bb55 => wV rfl ?_⟩
            (repeat (first | refine wN ?_ | refine wQ ?_ | refine cx_r rfl ?_ | refine cx_d (by kernel_rfl) rfl ?_ | refine wO rfl rfl ?_ | refine wT rfl ?_ | refine wF rfl ?_ | refine wB ?_ | refine wK ?_ | refine wE rfl ?_ | refine wS ?_))
            refine VO.fix 232 rfl (congrArg (fun b => AV.val (.bool b)) (decide_eq_true (rf_hi1 qa qb qc))) ?_
            (repeat (first | refine wN ?_ | refine wQ ?_ | refine cx_r rfl ?_ | refine cx_d (by kernel_rfl) rfl ?_ | refine wO rfl rfl ?_ | refine wT rfl ?_ | refine wF rfl ?_ | refine wB ?_ | refine wK ?_ | refine wE rfl ?_ | refine wS ?_))
            refine VO.call rfl rfl ⟨_, Tryz.func24, by kernel_rfl, by kernel_rfl⟩ (fun wa56 ka56 ba56 => (ratCmp_any _ _ (rbest rmore (qa) [qb, qc]) (qc) (8) (8) wa56 ((q50.kp (by (with_reducible (repeat (first | assumption | exact kR _ | refine kT ?_ (by assumption)))))).in (RSz.mono z50 (Nat.le_of_ble_eq_true rfl))) (hC.kp (Kp.of (U := UU) ba56)) (by omega) (by omega) ).mono ?_)
            rintro e w56 ⟨rfl, hb56⟩
            skip
            refine ⟨_, rfl, hb56, fun kb56 _ bb56 => wV rfl ?_⟩
            (repeat (first | refine wN ?_ | refine wQ ?_ | refine cx_r rfl ?_ | refine cx_d (by kernel_rfl) rfl ?_ | refine wO rfl rfl ?_ | refine wT rfl ?_ | refine wF rfl ?_ | refine wB ?_ | refine wK ?_ | refine wE rfl ?_ | refine wS ?_))
            refine VO.fix 238 rfl (congrArg (fun b => AV.val (.bool b)) (decide_eq_true (rf_hi2 qa qb qc))) ?_
            (repeat (first | refine wN ?_ | refine wQ ?_ | refine cx_r rfl ?_ | refine cx_d (by kernel_rfl) rfl ?_ | refine wO rfl rfl ?_ | refine wT rfl ?_ | refine wF rfl ?_ | refine wB ?_ | refine wK ?_ | refine wE rfl ?_ | refine wS ?_))
            refine VO.call rfl rfl ⟨_, Tryz.func8, by kernel_rfl, by kernel_rfl⟩ (fun wa57 ka57 ba57 => (works04_any wa57).mono ?_)
            rintro e w57 ⟨rfl, hb57⟩
            skip
            refine ⟨_, rfl, hb57, fun kb57 _ bb57 => wV rfl ?_⟩
            (repeat (first | refine wN ?_ | refine wQ ?_ | refine cx_r rfl ?_ | refine cx_d (by kernel_rfl) rfl ?_ | refine wO rfl rfl ?_ | refine wT rfl ?_ | refine wF rfl ?_ | refine wB ?_ | refine wK ?_ | refine wE rfl ?_ | refine wS ?_))
            refine VS.ret (cx_ok _ _) rfl rfl (fun wz kz bz => ?_)
            exact ⟨rfl, bz⟩
        · skip
          refine VO.fix 128 rfl (congrArg (fun b => AV.val (.bool b)) (beq_iff_eq.2 (rcmp_zero' hb0))) ?_
          (repeat (first | refine wN ?_ | refine wQ ?_ | refine cx_r rfl ?_ | refine cx_d (by kernel_rfl) rfl ?_ | refine wO rfl rfl ?_ | refine wT rfl ?_ | refine wF rfl ?_ | refine wB ?_ | refine wK ?_ | refine wE rfl ?_ | refine wS ?_))
          refine VO.call rfl rfl ⟨_, Tryz.func21, by kernel_rfl, by kernel_rfl⟩ (fun wa142 ka142 ba142 => (ratSign_any _ (qb) (8) wa142 (hB.kp (Kp.of (U := UU) ba142)) (by omega) ).mono ?_)
          rintro e w142 ⟨rfl, hb142⟩
          skip
          refine ⟨_, rfl, hb142, fun kb142 _ bb142 => wV rfl ?_⟩
          (repeat (first | refine wN ?_ | refine wQ ?_ | refine cx_r rfl ?_ | refine cx_d (by kernel_rfl) rfl ?_ | refine wO rfl rfl ?_ | refine wT rfl ?_ | refine wF rfl ?_ | refine wB ?_ | refine wK ?_ | refine wE rfl ?_ | refine wS ?_))
          refine VO.fix 136 rfl (congrArg (fun b => AV.val (.bool b)) (bne_zero' (rcmp_zero' hb0))) ?_
          (repeat (first | refine wN ?_ | refine wQ ?_ | refine cx_r rfl ?_ | refine cx_d (by kernel_rfl) rfl ?_ | refine wO rfl rfl ?_ | refine wT rfl ?_ | refine wF rfl ?_ | refine wB ?_ | refine wK ?_ | refine wE rfl ?_ | refine wS ?_))
          refine VO.call rfl rfl ⟨_, Tryz.func24, by kernel_rfl, by kernel_rfl⟩ (fun wa143 ka143 ba143 => (ratCmp_any _ _ (qa) (qb) (8) (8) wa143 (hA.kp (Kp.of (U := UU) ba143)) (hB.kp (Kp.of (U := UU) ba143)) (by omega) (by omega) ).mono ?_)
          rintro e w143 ⟨rfl, hb143⟩
          skip
          refine ⟨_, rfl, hb143, fun kb143 _ bb143 => wV rfl ?_⟩
          (repeat (first | refine wN ?_ | refine wQ ?_ | refine cx_r rfl ?_ | refine cx_d (by kernel_rfl) rfl ?_ | refine wO rfl rfl ?_ | refine wT rfl ?_ | refine wF rfl ?_ | refine wB ?_ | refine wK ?_ | refine wE rfl ?_ | refine wS ?_))
          refine VO.call rfl rfl ⟨_, Tryz.func24, by kernel_rfl, by kernel_rfl⟩ (fun wa144 ka144 ba144 => (ratCmp_any _ _ (qb) (qa) (8) (8) wa144 (hB.kp (Kp.of (U := UU) ba144)) (hA.kp (Kp.of (U := UU) ba144)) (by omega) (by omega) ).mono ?_)
          rintro e w144 ⟨rfl, hb144⟩
          skip
          refine ⟨_, rfl, hb144, fun kb144 _ bb144 => wV rfl ?_⟩
          (repeat (first | refine wN ?_ | refine wQ ?_ | refine cx_r rfl ?_ | refine cx_d (by kernel_rfl) rfl ?_ | refine wO rfl rfl ?_ | refine wT rfl ?_ | refine wF rfl ?_ | refine wB ?_ | refine wK ?_ | refine wE rfl ?_ | refine wS ?_))
          refine VO.fix 160 rfl (congrArg (fun b => AV.val (.bool b)) (rcmp_turn qa qb)) ?_
          (repeat (first | refine wN ?_ | refine wQ ?_ | refine cx_r rfl ?_ | refine cx_d (by kernel_rfl) rfl ?_ | refine wO rfl rfl ?_ | refine wT rfl ?_ | refine wF rfl ?_ | refine wB ?_ | refine wK ?_ | refine wE rfl ?_ | refine wS ?_))
          refine VO.call rfl rfl ⟨_, Tryz.func24, by kernel_rfl, by kernel_rfl⟩ (fun wa145 ka145 ba145 => (ratCmp_any _ _ (qa) (qb) (8) (8) wa145 (hA.kp (Kp.of (U := UU) ba145)) (hB.kp (Kp.of (U := UU) ba145)) (by omega) (by omega) ).mono ?_)
          rintro e w145 ⟨rfl, hb145⟩
          skip
          refine ⟨_, rfl, hb145, fun kb145 _ bb145 => wV rfl ?_⟩
          (repeat (first | refine wN ?_ | refine wQ ?_ | refine cx_r rfl ?_ | refine cx_d (by kernel_rfl) rfl ?_ | refine wO rfl rfl ?_ | refine wT rfl ?_ | refine wF rfl ?_ | refine wB ?_ | refine wK ?_ | refine wE rfl ?_ | refine wS ?_))
          by_cases hab : rcmp qa qb ≤ 0
          · skip
            refine VO.fix 165 rfl (congrArg (fun b => AV.val (.bool b)) (decide_eq_true hab)) ?_
            (repeat (first | refine wN ?_ | refine wQ ?_ | refine cx_r rfl ?_ | refine cx_d (by kernel_rfl) rfl ?_ | refine wO rfl rfl ?_ | refine wT rfl ?_ | refine wF rfl ?_ | refine wB ?_ | refine wK ?_ | refine wE rfl ?_ | refine wS ?_))
            refine VO.call rfl rfl ⟨_, Tryz.func24, by kernel_rfl, by kernel_rfl⟩ (fun wa146 ka146 ba146 => (ratCmp_any _ _ (qb) (qc) (8) (8) wa146 (hB.kp (Kp.of (U := UU) ba146)) (hC.kp (Kp.of (U := UU) ba146)) (by omega) (by omega) ).mono ?_)
            rintro e w146 ⟨rfl, hb146⟩
            skip
            refine ⟨_, rfl, hb146, fun kb146 _ bb146 => wV rfl ?_⟩
            (repeat (first | refine wN ?_ | refine wQ ?_ | refine cx_r rfl ?_ | refine cx_d (by kernel_rfl) rfl ?_ | refine wO rfl rfl ?_ | refine wT rfl ?_ | refine wF rfl ?_ | refine wB ?_ | refine wK ?_ | refine wE rfl ?_ | refine wS ?_))
            by_cases hbc : rcmp qb qc ≤ 0
            · skip
              refine VO.fix 171 rfl (congrArg (fun b => AV.val (.bool b)) (decide_eq_true hbc)) ?_
              (repeat (first | refine wN ?_ | refine wQ ?_ | refine cx_r rfl ?_ | refine cx_d (by kernel_rfl) rfl ?_ | refine wO rfl rfl ?_ | refine wT rfl ?_ | refine wF rfl ?_ | refine wB ?_ | refine wK ?_ | refine wE rfl ?_ | refine wS ?_))
              refine VO.call rfl rfl ⟨_, Tryz.func24, by kernel_rfl, by kernel_rfl⟩ (fun wa147 ka147 ba147 => (ratCmp_any _ _ (qa) (qc) (8) (8) wa147 (hA.kp (Kp.of (U := UU) ba147)) (hC.kp (Kp.of (U := UU) ba147)) (by omega) (by omega) ).mono ?_)
              rintro e w147 ⟨rfl, hb147⟩
              skip
              refine ⟨_, rfl, hb147, fun kb147 _ bb147 => wV rfl ?_⟩
              (repeat (first | refine wN ?_ | refine wQ ?_ | refine cx_r rfl ?_ | refine cx_d (by kernel_rfl) rfl ?_ | refine wO rfl rfl ?_ | refine wT rfl ?_ | refine wF rfl ?_ | refine wB ?_ | refine wK ?_ | refine wE rfl ?_ | refine wS ?_))
              refine VO.fix 178 rfl (congrArg (fun b => AV.val (.bool b)) (decide_eq_false (rf10 hab hbc))) ?_
              (repeat (first | refine wN ?_ | refine wQ ?_ | refine cx_r rfl ?_ | refine cx_d (by kernel_rfl) rfl ?_ | refine wO rfl rfl ?_ | refine wT rfl ?_ | refine wF rfl ?_ | refine wB ?_ | refine wK ?_ | refine wE rfl ?_ | refine wS ?_))
              refine VO.call rfl rfl ⟨_, Tryz.func24, by kernel_rfl, by kernel_rfl⟩ (fun wa148 ka148 ba148 => (ratCmp_any _ _ (qa) (qb) (8) (8) wa148 (hA.kp (Kp.of (U := UU) ba148)) (hB.kp (Kp.of (U := UU) ba148)) (by omega) (by omega) ).mono ?_)
              rintro e w148 ⟨rfl, hb148⟩
              skip
              refine ⟨_, rfl, hb148, fun kb148 _ bb148 => wV rfl ?_⟩
              (repeat (first | refine wN ?_ | refine wQ ?_ | refine cx_r rfl ?_ | refine cx_d (by kernel_rfl) rfl ?_ | refine wO rfl rfl ?_ | refine wT rfl ?_ | refine wF rfl ?_ | refine wB ?_ | refine wK ?_ | refine wE rfl ?_ | refine wS ?_))
              refine VO.fix 183 rfl (congrArg (fun b => AV.val (.bool b)) (decide_eq_true hab)) ?_
              (repeat (first | refine wN ?_ | refine wQ ?_ | refine cx_r rfl ?_ | refine cx_d (by kernel_rfl) rfl ?_ | refine wO rfl rfl ?_ | refine wT rfl ?_ | refine wF rfl ?_ | refine wB ?_ | refine wK ?_ | refine wE rfl ?_ | refine wS ?_))
              refine VO.call rfl rfl ⟨_, Tryz.func11, by kernel_rfl, by kernel_rfl⟩ (fun wa149 ka149 ba149 => (ratAdd_any _ _ (qa) (qc) (8) (8) wa149 (hA.kp (Kp.of (U := UU) ba149)) (hC.kp (Kp.of (U := UU) ba149)) (by omega) (by omega)).mono ?_)
              rintro e w149 ⟨r149, rfl, q149, hb149⟩
              obtain ⟨s149, p149, n149, c149, t149, y149, m149, d149, rfl⟩ := q149.form
              refine ⟨_, rfl, hb149, fun kb149 _ bb149 => wV rfl ?_⟩
              (repeat (first | refine wN ?_ | refine wQ ?_ | refine cx_r rfl ?_ | refine cx_d (by kernel_rfl) rfl ?_ | refine wO rfl rfl ?_ | refine wT rfl ?_ | refine wF rfl ?_ | refine wB ?_ | refine wK ?_ | refine wE rfl ?_ | refine wS ?_))
              refine VO.call rfl rfl ⟨_, Tryz.func11, by kernel_rfl, by kernel_rfl⟩ (fun wa150 ka150 ba150 => (ratAdd_any _ _ (qb) (qc) (8) (8) wa150 (hB.kp (Kp.of (U := UU) ba150)) (hC.kp (Kp.of (U := UU) ba150)) (by omega) (by omega)).mono ?_)
              rintro e w150 ⟨r150, rfl, q150, hb150⟩
              obtain ⟨s150, p150, n150, c150, t150, y150, m150, d150, rfl⟩ := q150.form
              refine ⟨_, rfl, hb150, fun kb150 _ bb150 => wV rfl ?_⟩
              (repeat (first | refine wN ?_ | refine wQ ?_ | refine cx_r rfl ?_ | refine cx_d (by kernel_rfl) rfl ?_ | refine wO rfl rfl ?_ | refine wT rfl ?_ | refine wF rfl ?_ | refine wB ?_ | refine wK ?_ | refine wE rfl ?_ | refine wS ?_))
              refine VO.call rfl rfl ⟨_, Tryz.func24, by kernel_rfl, by kernel_rfl⟩ (fun wa151 ka151 ba151 => (ratCmp_any _ _ ((qa) + (qc)) ((qb) + (qc)) (17) (17) wa151 ((q149.kp (by (with_reducible (repeat (first | assumption | exact kR _ | refine kT ?_ (by assumption)))))).in (RSz.add hA8 hC8)) ((q150.kp (by (with_reducible (repeat (first | assumption | exact kR _ | refine kT ?_ (by assumption)))))).in (RSz.add hB8 hC8)) (by omega) (by omega) ).mono ?_)
              rintro e w151 ⟨rfl, hb151⟩
              skip
              refine ⟨_, rfl, hb151, fun kb151 _ bb151 => wV rfl ?_⟩
              (repeat (first | refine wN ?_ | refine wQ ?_ | refine cx_r rfl ?_ | refine cx_d (by kernel_rfl) rfl ?_ | refine wO rfl rfl ?_ | refine wT rfl ?_ | refine wF rfl ?_ | refine wB ?_ | refine wK ?_ | refine wE rfl ?_ | refine wS ?_))
              refine VS.condN rfl (decide_eq_false (rf11 qc hab)) ?_
              (repeat (first | refine wN ?_ | refine wQ ?_ | refine cx_r rfl ?_ | refine cx_d (by kernel_rfl) rfl ?_ | refine wO rfl rfl ?_ | refine wT rfl ?_ | refine wF rfl ?_ | refine wB ?_ | refine wK ?_ | refine wE rfl ?_ | refine wS ?_))
              refine VO.callF rfl ⟨_, Tryz.func34, by kernel_rfl, by kernel_rfl⟩ (fun wa152 β ka152 ba152 ho => (ratMin_any _ _ (qa) [qb, qc] 8 wa152 ((hA.kp (Kp.of (U := UU) ba152)).mono' (show 8 ≤ 8 by omega)) (ownV_rats (ho.own 197 (.base (List.mem_singleton.2 rfl)) _ _ rfl) [] (vs := [[.bool s', .slice bp xs'.length bc, .bool t', .slice br ys'.length bd], [.bool s'', .slice cp xs''.length cc, .bool t'', .slice cr ys''.length cd0]]) (by rfl) rfl (RatRow.cons ((hB.kp (Kp.of (U := UU) ba152)).mono' (show 8 ≤ 8 by omega)) (RatRow.cons ((hC.kp (Kp.of (U := UU) ba152)).mono' (show 8 ≤ 8 by omega)) RatRow.nil)) (Nat.le_of_ble_eq_true rfl) (by decide)) (by omega) (Nat.le_of_ble_eq_true rfl)).mono ?_)
              rintro e w152 ⟨r152, rfl, q152, z152, hb152⟩
              obtain ⟨s152, p152, n152, c152, t152, y152, m152, d152, rfl⟩ := q152.form
              refine ⟨_, rfl, hb152, fun kb152 _ bb152 => wV rfl ?_⟩
              (repeat (first | refine wN ?_ | refine wQ ?_ | refine cx_r rfl ?_ | refine cx_d (by kernel_rfl) rfl ?_ | refine wO rfl rfl ?_ | refine wT rfl ?_ | refine wF rfl ?_ | refine wB ?_ | refine wK ?_ | refine wE rfl ?_ | refine wS ?_))
              refine VO.callF rfl ⟨_, Tryz.func36, by kernel_rfl, by kernel_rfl⟩ (fun wa153 β ka153 ba153 ho => (ratMax_any _ _ (qa) [qb, qc] 8 wa153 ((hA.kp (Kp.of (U := UU) ba153)).mono' (show 8 ≤ 8 by omega)) (ownV_rats (ho.own 202 (.base (List.mem_singleton.2 rfl)) _ _ rfl) [] (vs := [[.bool s', .slice bp xs'.length bc, .bool t', .slice br ys'.length bd], [.bool s'', .slice cp xs''.length cc, .bool t'', .slice cr ys''.length cd0]]) (by rfl) rfl (RatRow.cons ((hB.kp (Kp.of (U := UU) ba153)).mono' (show 8 ≤ 8 by omega)) (RatRow.cons ((hC.kp (Kp.of (U := UU) ba153)).mono' (show 8 ≤ 8 by omega)) RatRow.nil)) (Nat.le_of_ble_eq_true rfl) (by decide)) (by omega) (Nat.le_of_ble_eq_true rfl)).mono ?_)
              rintro e w153 ⟨r153, rfl, q153, z153, hb153⟩
              obtain ⟨s153, p153, n153, c153, t153, y153, m153, d153, rfl⟩ := q153.form
              refine ⟨_, rfl, hb153, fun kb153 _ bb153 => wV rfl ?_⟩
              (repeat (first | refine wN ?_ | refine wQ ?_ | refine cx_r rfl ?_ | refine cx_d (by kernel_rfl) rfl ?_ | refine wO rfl rfl ?_ | refine wT rfl ?_ | refine wF rfl ?_ | refine wB ?_ | refine wK ?_ | refine wE rfl ?_ | refine wS ?_))
              refine VO.call rfl rfl ⟨_, Tryz.func24, by kernel_rfl, by kernel_rfl⟩ (fun wa154 ka154 ba154 => (ratCmp_any _ _ (rbest rless (qa) [qb, qc]) (qa) (8) (8) wa154 ((q152.kp (by (with_reducible (repeat (first | assumption | exact kR _ | refine kT ?_ (by assumption)))))).in (RSz.mono z152 (Nat.le_of_ble_eq_true rfl))) (hA.kp (Kp.of (U := UU) ba154)) (by omega) (by omega) ).mono ?_)
              rintro e w154 ⟨rfl, hb154⟩
              skip
              refine ⟨_, rfl, hb154, fun kb154 _ bb154 => wV rfl ?_⟩
              (repeat (first | refine wN ?_ | refine wQ ?_ | refine cx_r rfl ?_ | refine cx_d (by kernel_rfl) rfl ?_ | refine wO rfl rfl ?_ | refine wT rfl ?_ | refine wF rfl ?_ | refine wB ?_ | refine wK ?_ | refine wE rfl ?_ | refine wS ?_))
              refine VO.fix 208 rfl (congrArg (fun b => AV.val (.bool b)) (decide_eq_true (rf_lo0 qa qb qc))) ?_
              (repeat (first | refine wN ?_ | refine wQ ?_ | refine cx_r rfl ?_ | refine cx_d (by kernel_rfl) rfl ?_ | refine wO rfl rfl ?_ | refine wT rfl ?_ | refine wF rfl ?_ | refine wB ?_ | refine wK ?_ | refine wE rfl ?_ | refine wS ?_))
              refine VO.call rfl rfl ⟨_, Tryz.func24, by kernel_rfl, by kernel_rfl⟩ (fun wa155 ka155 ba155 => (ratCmp_any _ _ (rbest rless (qa) [qb, qc]) (qb) (8) (8) wa155 ((q152.kp (by (with_reducible (repeat (first | assumption | exact kR _ | refine kT ?_ (by assumption)))))).in (RSz.mono z152 (Nat.le_of_ble_eq_true rfl))) (hB.kp (Kp.of (U := UU) ba155)) (by omega) (by omega) ).mono ?_)
              rintro e w155 ⟨rfl, hb155⟩
              skip
              refine ⟨_, rfl, hb155, fun kb155 _ bb155 => wV rfl ?_⟩
              (repeat (first | refine wN ?_ | refine wQ ?_ | refine cx_r rfl ?_ | refine cx_d (by kernel_rfl) rfl ?_ | refine wO rfl rfl ?_ | refine wT rfl ?_ | refine wF rfl ?_ | refine wB ?_ | refine wK ?_ | refine wE rfl ?_ | refine wS ?_))
              refine VO.fix 214 rfl (congrArg (fun b => AV.val (.bool b)) (decide_eq_true (rf_lo1 qa qb qc))) ?_
              (repeat (first | refine wN ?_ | refine wQ ?_ | refine cx_r rfl ?_ | refine cx_d (by kernel_rfl) rfl ?_ | refine wO rfl rfl ?_ | refine wT rfl ?_ | refine wF rfl ?_ | refine wB ?_ | refine wK ?_ | refine wE rfl ?_ | refine wS ?_))
              refine VO.call rfl rfl ⟨_, Tryz.func24, by kernel_rfl, by kernel_rfl⟩ (fun wa156 ka156 ba156 => (ratCmp_any _ _ (rbest rless (qa) [qb, qc]) (qc) (8) (8) wa156 ((q152.kp (by (with_reducible (repeat (first | assumption | exact kR _ | refine kT ?_ (by assumption)))))).in (RSz.mono z152 (Nat.le_of_ble_eq_true rfl))) (hC.kp (Kp.of (U := UU) ba156)) (by omega) (by omega) ).mono ?_)
              rintro e w156 ⟨rfl, hb156⟩
              skip
              refine ⟨_, rfl, hb156, fun kb156 _ bb156 => wV rfl ?_⟩
              (repeat (first | refine wN ?_ | refine wQ ?_ | refine cx_r rfl ?_ | refine cx_d (by kernel_rfl) rfl ?_ | refine wO rfl rfl ?_ | refine wT rfl ?_ | refine wF rfl ?_ | refine wB ?_ | refine wK ?_ | refine wE rfl ?_ | refine wS ?_))
              refine VO.fix 220 rfl (congrArg (fun b => AV.val (.bool b)) (decide_eq_true (rf_lo2 qa qb qc))) ?_
              (repeat (first | refine wN ?_ | refine wQ ?_ | refine cx_r rfl ?_ | refine cx_d (by kernel_rfl) rfl ?_ | refine wO rfl rfl ?_ | refine wT rfl ?_ | refine wF rfl ?_ | refine wB ?_ | refine wK ?_ | refine wE rfl ?_ | refine wS ?_))
              refine VO.call rfl rfl ⟨_, Tryz.func24, by kernel_rfl, by kernel_rfl⟩ (fun wa157 ka157 ba157 => (ratCmp_any _ _ (rbest rmore (qa) [qb, qc]) (qa) (8) (8) wa157 ((q153.kp (by (with_reducible (repeat (first | assumption | exact kR _ | refine kT ?_ (by assumption)))))).in (RSz.mono z153 (Nat.le_of_ble_eq_true rfl))) (hA.kp (Kp.of (U := UU) ba157)) (by omega) (by omega) ).mono ?_)
              rintro e w157 ⟨rfl, hb157⟩
              skip
              refine ⟨_, rfl, hb157, fun kb157 _ bb157 => wV rfl ?_⟩
              (repeat (first | refine wN ?_ | refine wQ ?_ | refine cx_r rfl ?_ | refine cx_d (by kernel_rfl) rfl ?_ | refine wO rfl rfl ?_ | refine wT rfl ?_ | refine wF rfl ?_ | refine wB ?_ | refine wK ?_ | refine wE rfl ?_ | refine wS ?_))
              refine VO.fix 226 rfl (congrArg (fun b => AV.val (.bool b)) (decide_eq_true (rf_hi0 qa qb qc))) ?_
              (repeat (first | refine wN ?_ | refine wQ ?_ | refine cx_r rfl ?_ | refine cx_d (by kernel_rfl) rfl ?_ | refine wO rfl rfl ?_ | refine wT rfl ?_ | refine wF rfl ?_ | refine wB ?_ | refine wK ?_ | refine wE rfl ?_ | refine wS ?_))
              refine VO.call rfl rfl ⟨_, Tryz.func24, by kernel_rfl, by kernel_rfl⟩ (fun wa158 ka158 ba158 => (ratCmp_any _ _ (rbest rmore (qa) [qb, qc]) (qb) (8) (8) wa158 ((q153.kp (by (with_reducible (repeat (first | assumption | exact kR _ | refine kT ?_ (by assumption)))))).in (RSz.mono z153 (Nat.le_of_ble_eq_true rfl))) (hB.kp (Kp.of (U := UU) ba158)) (by omega) (by omega) ).mono ?_)
              rintro e w158 ⟨rfl, hb158⟩
              skip
              refine ⟨_, rfl, hb158, fun kb158 _ bb158 => wV rfl ?_⟩
              (repeat (first | refine wN ?_ | refine wQ ?_ | refine cx_r rfl ?_ | refine cx_d (by kernel_rfl) rfl ?_ | refine wO rfl rfl ?_ | refine wT rfl ?_ | refine wF rfl ?_ | refine wB ?_ | refine wK ?_ | refine wE rfl ?_ | refine wS ?_))
              refine VO.fix 232 rfl (congrArg (fun b => AV.val (.bool b)) (decide_eq_true (rf_hi1 qa qb qc))) ?_
              (repeat (first | refine wN ?_ | refine wQ ?_ | refine cx_r rfl ?_ | refine cx_d (by kernel_rfl) rfl ?_ | refine wO rfl rfl ?_ | refine wT rfl ?_ | refine wF rfl ?_ | refine wB ?_ | refine wK ?_ | refine wE rfl ?_ | refine wS ?_))
              refine VO.call rfl rfl ⟨_, Tryz.func24, by kernel_rfl, by kernel_rfl⟩ (fun wa159 ka159 ba159 => (ratCmp_any _ _ (rbest rmore (qa) [qb, qc]) (qc) (8) (8) wa159 ((q153.kp (by (with_reducible (repeat (first | assumption | exact kR _ | refine kT ?_ (by assumption)))))).in (RSz.mono z153 (Nat.le_of_ble_eq_true rfl))) (hC.kp (Kp.of (U := UU) ba159)) (by omega) (by omega) ).mono ?_)
              rintro e w159 ⟨rfl, hb159⟩
              skip
              refine ⟨_, rfl, hb159, fun kb159 _ bb159 => wV rfl ?_⟩
              (repeat (first | refine wN ?_ | refine wQ ?_ | refine cx_r rfl ?_ | refine cx_d (by kernel_rfl) rfl ?_ | refine wO rfl rfl ?_ | refine wT rfl ?_ | refine wF rfl ?_ | refine wB ?_ | refine wK ?_ | refine wE rfl ?_ | refine wS ?_))
              refine VO.fix 238 rfl (congrArg (fun b => AV.val (.bool b)) (decide_eq_true (rf_hi2 qa qb qc))) ?_
              (repeat (first | refine wN ?_ | refine wQ ?_ | refine cx_r rfl ?_ | refine cx_d (by kernel_rfl) rfl ?_ | refine wO rfl rfl ?_ | refine wT rfl ?_ | refine wF rfl ?_ | refine wB ?_ | refine wK ?_ | refine wE rfl ?_ | refine wS ?_))
              refine VO.call rfl rfl ⟨_, Tryz.func8, by kernel_rfl, by kernel_rfl⟩ (fun wa160 ka160 ba160 => (works04_any wa160).mono ?_)
              rintro e w160 ⟨rfl, hb160⟩
              skip
              refine ⟨_, rfl, hb160, fun kb160 _ bb160 => wV rfl ?_⟩
              (repeat (first | refine wN ?_ | refine wQ ?_ | refine cx_r rfl ?_ | refine cx_d (by kernel_rfl) rfl ?_ | refine wO rfl rfl ?_ | refine wT rfl ?_ | refine wF rfl ?_ | refine wB ?_ | refine wK ?_ | refine wE rfl ?_ | refine wS ?_))
              refine VS.ret (cx_ok _ _) rfl rfl (fun wz kz bz => ?_)
              exact ⟨rfl, bz⟩
            · skip
              refine VO.fix 171 rfl (congrArg (fun b => AV.val (.bool b)) (decide_eq_false hbc)) ?_
              (repeat (first | refine wN ?_ | refine wQ ?_ | refine cx_r rfl ?_ | refine cx_d (by kernel_rfl) rfl ?_ | refine wO rfl rfl ?_ | refine wT rfl ?_ | refine wF rfl ?_ | refine wB ?_ | refine wK ?_ | refine wE rfl ?_ | refine wS ?_))
              refine VO.call rfl rfl ⟨_, Tryz.func24, by kernel_rfl, by kernel_rfl⟩ (fun wa147 ka147 ba147 => (ratCmp_any _ _ (qa) (qb) (8) (8) wa147 (hA.kp (Kp.of (U := UU) ba147)) (hB.kp (Kp.of (U := UU) ba147)) (by omega) (by omega) ).mono ?_)
              rintro e w147 ⟨rfl, hb147⟩
              skip
              refine ⟨_, rfl, hb147, fun kb147 _ bb147 => wV rfl ?_⟩
              (repeat (first | refine wN ?_ | refine wQ ?_ | refine cx_r rfl ?_ | refine cx_d (by kernel_rfl) rfl ?_ | refine wO rfl rfl ?_ | refine wT rfl ?_ | refine wF rfl ?_ | refine wB ?_ | refine wK ?_ | refine wE rfl ?_ | refine wS ?_))
              refine VO.fix 183 rfl (congrArg (fun b => AV.val (.bool b)) (decide_eq_true hab)) ?_
              (repeat (first | refine wN ?_ | refine wQ ?_ | refine cx_r rfl ?_ | refine cx_d (by kernel_rfl) rfl ?_ | refine wO rfl rfl ?_ | refine wT rfl ?_ | refine wF rfl ?_ | refine wB ?_ | refine wK ?_ | refine wE rfl ?_ | refine wS ?_))
              refine VO.call rfl rfl ⟨_, Tryz.func11, by kernel_rfl, by kernel_rfl⟩ (fun wa148 ka148 ba148 => (ratAdd_any _ _ (qa) (qc) (8) (8) wa148 (hA.kp (Kp.of (U := UU) ba148)) (hC.kp (Kp.of (U := UU) ba148)) (by omega) (by omega)).mono ?_)
              rintro e w148 ⟨r148, rfl, q148, hb148⟩
              obtain ⟨s148, p148, n148, c148, t148, y148, m148, d148, rfl⟩ := q148.form
              refine ⟨_, rfl, hb148, fun kb148 _ bb148 => wV rfl ?_⟩
              (repeat (first | refine wN ?_ | refine wQ ?_ | refine cx_r rfl ?_ | refine cx_d (by kernel_rfl) rfl ?_ | refine wO rfl rfl ?_ | refine wT rfl ?_ | refine wF rfl ?_ | refine wB ?_ | refine wK ?_ | refine wE rfl ?_ | refine wS ?_))
              refine VO.call rfl rfl ⟨_, Tryz.func11, by kernel_rfl, by kernel_rfl⟩ (fun wa149 ka149 ba149 => (ratAdd_any _ _ (qb) (qc) (8) (8) wa149 (hB.kp (Kp.of (U := UU) ba149)) (hC.kp (Kp.of (U := UU) ba149)) (by omega) (by omega)).mono ?_)
              rintro e w149 ⟨r149, rfl, q149, hb149⟩
              obtain ⟨s149, p149, n149, c149, t149, y149, m149, d149, rfl⟩ := q149.form
              refine ⟨_, rfl, hb149, fun kb149 _ bb149 => wV rfl ?_⟩
              (repeat (first | refine wN ?_ | refine wQ ?_ | refine cx_r rfl ?_ | refine cx_d (by kernel_rfl) rfl ?_ | refine wO rfl rfl ?_ | refine wT rfl ?_ | refine wF rfl ?_ | refine wB ?_ | refine wK ?_ | refine wE rfl ?_ | refine wS ?_))
              refine VO.call rfl rfl ⟨_, Tryz.func24, by kernel_rfl, by kernel_rfl⟩ (fun wa150 ka150 ba150 => (ratCmp_any _ _ ((qa) + (qc)) ((qb) + (qc)) (17) (17) wa150 ((q148.kp (by (with_reducible (repeat (first | assumption | exact kR _ | refine kT ?_ (by assumption)))))).in (RSz.add hA8 hC8)) ((q149.kp (by (with_reducible (repeat (first | assumption | exact kR _ | refine kT ?_ (by assumption)))))).in (RSz.add hB8 hC8)) (by omega) (by omega) ).mono ?_)
              rintro e w150 ⟨rfl, hb150⟩
              skip
              refine ⟨_, rfl, hb150, fun kb150 _ bb150 => wV rfl ?_⟩
              (repeat (first | refine wN ?_ | refine wQ ?_ | refine cx_r rfl ?_ | refine cx_d (by kernel_rfl) rfl ?_ | refine wO rfl rfl ?_ | refine wT rfl ?_ | refine wF rfl ?_ | refine wB ?_ | refine wK ?_ | refine wE rfl ?_ | refine wS ?_))
              refine VS.condN rfl (decide_eq_false (rf11 qc hab)) ?_
              (repeat (first | refine wN ?_ | refine wQ ?_ | refine cx_r rfl ?_ | refine cx_d (by kernel_rfl) rfl ?_ | refine wO rfl rfl ?_ | refine wT rfl ?_ | refine wF rfl ?_ | refine wB ?_ | refine wK ?_ | refine wE rfl ?_ | refine wS ?_))
              refine VO.callF rfl ⟨_, Tryz.func34, by kernel_rfl, by kernel_rfl⟩ (fun wa151 β ka151 ba151 ho => (ratMin_any _ _ (qa) [qb, qc] 8 wa151 ((hA.kp (Kp.of (U := UU) ba151)).mono' (show 8 ≤ 8 by omega)) (ownV_rats (ho.own 197 (.base (List.mem_singleton.2 rfl)) _ _ rfl) [] (vs := [[.bool s', .slice bp xs'.length bc, .bool t', .slice br ys'.length bd], [.bool s'', .slice cp xs''.length cc, .bool t'', .slice cr ys''.length cd0]]) (by rfl) rfl (RatRow.cons ((hB.kp (Kp.of (U := UU) ba151)).mono' (show 8 ≤ 8 by omega)) (RatRow.cons ((hC.kp (Kp.of (U := UU) ba151)).mono' (show 8 ≤ 8 by omega)) RatRow.nil)) (Nat.le_of_ble_eq_true rfl) (by decide)) (by omega) (Nat.le_of_ble_eq_true rfl)).mono ?_)
              rintro e w151 ⟨r151, rfl, q151, z151, hb151⟩
              obtain ⟨s151, p151, n151, c151, t151, y151, m151, d151, rfl⟩ := q151.form
              refine ⟨_, rfl, hb151, fun kb151 _ bb151 => wV rfl ?_⟩
              (repeat (first | refine wN ?_ | refine wQ ?_ | refine cx_r rfl ?_ | refine cx_d (by kernel_rfl) rfl ?_ | refine wO rfl rfl ?_ | refine wT rfl ?_ | refine wF rfl ?_ | refine wB ?_ | refine wK ?_ | refine wE rfl ?_ | refine wS ?_))
              refine VO.callF rfl ⟨_, Tryz.func36, by kernel_rfl, by kernel_rfl⟩ (fun wa152 β ka152 ba152 ho => (ratMax_any _ _ (qa) [qb, qc] 8 wa152 ((hA.kp (Kp.of (U := UU) ba152)).mono' (show 8 ≤ 8 by omega)) (ownV_rats (ho.own 202 (.base (List.mem_singleton.2 rfl)) _ _ rfl) [] (vs := [[.bool s', .slice bp xs'.length bc, .bool t', .slice br ys'.length bd], [.bool s'', .slice cp xs''.length cc, .bool t'', .slice cr ys''.length cd0]]) (by rfl) rfl (RatRow.cons ((hB.kp (Kp.of (U := UU) ba152)).mono' (show 8 ≤ 8 by omega)) (RatRow.cons ((hC.kp (Kp.of (U := UU) ba152)).mono' (show 8 ≤ 8 by omega)) RatRow.nil)) (Nat.le_of_ble_eq_true rfl) (by decide)) (by omega) (Nat.le_of_ble_eq_true rfl)).mono ?_)
              rintro e w152 ⟨r152, rfl, q152, z152, hb152⟩
              obtain ⟨s152, p152, n152, c152, t152, y152, m152, d152, rfl⟩ := q152.form
              refine ⟨_, rfl, hb152, fun kb152 _ bb152 => wV rfl ?_⟩
              (repeat (first | refine wN ?_ | refine wQ ?_ | refine cx_r rfl ?_ | refine cx_d (by kernel_rfl) rfl ?_ | refine wO rfl rfl ?_ | refine wT rfl ?_ | refine wF rfl ?_ | refine wB ?_ | refine wK ?_ | refine wE rfl ?_ | refine wS ?_))
              refine VO.call rfl rfl ⟨_, Tryz.func24, by kernel_rfl, by kernel_rfl⟩ (fun wa153 ka153 ba153 => (ratCmp_any _ _ (rbest rless (qa) [qb, qc]) (qa) (8) (8) wa153 ((q151.kp (by (with_reducible (repeat (first | assumption | exact kR _ | refine kT ?_ (by assumption)))))).in (RSz.mono z151 (Nat.le_of_ble_eq_true rfl))) (hA.kp (Kp.of (U := UU) ba153)) (by omega) (by omega) ).mono ?_)
              rintro e w153 ⟨rfl, hb153⟩
              skip
              refine ⟨_, rfl, hb153, fun kb153 _ bb153 => wV rfl ?_⟩
              (repeat (first | refine wN ?_ | refine wQ ?_ | refine cx_r rfl ?_ | refine cx_d (by kernel_rfl) rfl ?_ | refine wO rfl rfl ?_ | refine wT rfl ?_ | refine wF rfl ?_ | refine wB ?_ | refine wK ?_ | refine wE rfl ?_ | refine wS ?_))
              refine VO.fix 208 rfl (congrArg (fun b => AV.val (.bool b)) (decide_eq_true (rf_lo0 qa qb qc))) ?_
              (repeat (first | refine wN ?_ | refine wQ ?_ | refine cx_r rfl ?_ | refine cx_d (by kernel_rfl) rfl ?_ | refine wO rfl rfl ?_ | refine wT rfl ?_ | refine wF rfl ?_ | refine wB ?_ | refine wK ?_ | refine wE rfl ?_ | refine wS ?_))
              refine VO.call rfl rfl ⟨_, Tryz.func24, by kernel_rfl, by kernel_rfl⟩ (fun wa154 ka154 ba154 => (ratCmp_any _ _ (rbest rless (qa) [qb, qc]) (qb) (8) (8) wa154 ((q151.kp (by (with_reducible (repeat (first | assumption | exact kR _ | refine kT ?_ (by assumption)))))).in (RSz.mono z151 (Nat.le_of_ble_eq_true rfl))) (hB.kp (Kp.of (U := UU) ba154)) (by omega) (by omega) ).mono ?_)
              rintro e w154 ⟨rfl, hb154⟩
              skip
              refine ⟨_, rfl, hb154, fun kb154 _ bb154 => wV rfl ?_⟩
              (repeat (first | refine wN ?_ | refine wQ ?_ | refine cx_r rfl ?_ | refine cx_d (by kernel_rfl) rfl ?_ | refine wO rfl rfl ?_ | refine wT rfl ?_ | refine wF rfl ?_ | refine wB ?_ | refine wK ?_ | refine wE rfl ?_ | refine wS ?_))
              refine VO.fix 214 rfl (congrArg (fun b => AV.val (.bool b)) (decide_eq_true (rf_lo1 qa qb qc))) ?_
              (repeat (first | refine wN ?_ | refine wQ ?_ | refine cx_r rfl ?_ | refine cx_d (by kernel_rfl) rfl ?_ | refine wO rfl rfl ?_ | refine wT rfl ?_ | refine wF rfl ?_ | refine wB ?_ | refine wK ?_ | refine wE rfl ?_ | refine wS ?_))
              refine VO.call rfl rfl ⟨_, Tryz.func24, by kernel_rfl, by kernel_rfl⟩ (fun wa155 ka155 ba155 => (ratCmp_any _ _ (rbest rless (qa) [qb, qc]) (qc) (8) (8) wa155 ((q151.kp (by (with_reducible (repeat (first | assumption | exact kR _ | refine kT ?_ (by assumption)))))).in (RSz.mono z151 (Nat.le_of_ble_eq_true rfl))) (hC.kp (Kp.of (U := UU) ba155)) (by omega) (by omega) ).mono ?_)
              rintro e w155 ⟨rfl, hb155⟩
              skip
              refine ⟨_, rfl, hb155, fun kb155 _ bb155 => wV rfl ?_⟩
              (repeat (first | refine wN ?_ | refine wQ ?_ | refine cx_r rfl ?_ | refine cx_d (by kernel_rfl) rfl ?_ | refine wO rfl rfl ?_ | refine wT rfl ?_ | refine wF rfl ?_ | refine wB ?_ | refine wK ?_ | refine wE rfl ?_ | refine wS ?_))
              refine VO.fix 220 rfl (congrArg (fun b => AV.val (.bool b)) (decide_eq_true (rf_lo2 qa qb qc))) ?_
              (repeat (first | refine wN ?_ | refine wQ ?_ | refine cx_r rfl ?_ | refine cx_d (by kernel_rfl) rfl ?_ | refine wO rfl rfl ?_ | refine wT rfl ?_ | refine wF rfl ?_ | refine wB ?_ | refine wK ?_ | refine wE rfl ?_ | refine wS ?_))
              refine VO.call rfl rfl ⟨_, Tryz.func24, by kernel_rfl, by kernel_rfl⟩ (fun wa156 ka156 ba156 => (ratCmp_any _ _ (rbest rmore (qa) [qb, qc]) (qa) (8) (8) wa156 ((q152.kp (by (with_reducible (repeat (first | assumption | exact kR _ | refine kT ?_ (by assumption)))))).in (RSz.mono z152 (Nat.le_of_ble_eq_true rfl))) (hA.kp (Kp.of (U := UU) ba156)) (by omega) (by omega) ).mono ?_)
              rintro e w156 ⟨rfl, hb156⟩
              skip
              refine ⟨_, rfl, hb156, fun kb156 _ bb156 => wV rfl ?_⟩
              (repeat (first | refine wN ?_ | refine wQ ?_ | refine cx_r rfl ?_ | refine cx_d (by kernel_rfl) rfl ?_ | refine wO rfl rfl ?_ | refine wT rfl ?_ | refine wF rfl ?_ | refine wB ?_ | refine wK ?_ | refine wE rfl ?_ | refine wS ?_))
              refine VO.fix 226 rfl (congrArg (fun b => AV.val (.bool b)) (decide_eq_true (rf_hi0 qa qb qc))) ?_
              (repeat (first | refine wN ?_ | refine wQ ?_ | refine cx_r rfl ?_ | refine cx_d (by kernel_rfl) rfl ?_ | refine wO rfl rfl ?_ | refine wT rfl ?_ | refine wF rfl ?_ | refine wB ?_ | refine wK ?_ | refine wE rfl ?_ | refine wS ?_))
              refine VO.call rfl rfl ⟨_, Tryz.func24, by kernel_rfl, by kernel_rfl⟩ (fun wa157 ka157 ba157 => (ratCmp_any _ _ (rbest rmore (qa) [qb, qc]) (qb) (8) (8) wa157 ((q152.kp (by (with_reducible (repeat (first | assumption | exact kR _ | refine kT ?_ (by assumption)))))).in (RSz.mono z152 (Nat.le_of_ble_eq_true rfl))) (hB.kp (Kp.of (U := UU) ba157)) (by omega) (by omega) ).mono ?_)
              rintro e w157 ⟨rfl, hb157⟩
              skip
              refine ⟨_, rfl, hb157, fun kb157 _ bb157 => wV rfl ?_⟩
              (repeat (first | refine wN ?_ | refine wQ ?_ | refine cx_r rfl ?_ | refine cx_d (by kernel_rfl) rfl ?_ | refine wO rfl rfl ?_ | refine wT rfl ?_ | refine wF rfl ?_ | refine wB ?_ | refine wK ?_ | refine wE rfl ?_ | refine wS ?_))
              refine VO.fix 232 rfl (congrArg (fun b => AV.val (.bool b)) (decide_eq_true (rf_hi1 qa qb qc))) ?_
              (repeat (first | refine wN ?_ | refine wQ ?_ | refine cx_r rfl ?_ | refine cx_d (by kernel_rfl) rfl ?_ | refine wO rfl rfl ?_ | refine wT rfl ?_ | refine wF rfl ?_ | refine wB ?_ | refine wK ?_ | refine wE rfl ?_ | refine wS ?_))
              refine VO.call rfl rfl ⟨_, Tryz.func24, by kernel_rfl, by kernel_rfl⟩ (fun wa158 ka158 ba158 => (ratCmp_any _ _ (rbest rmore (qa) [qb, qc]) (qc) (8) (8) wa158 ((q152.kp (by (with_reducible (repeat (first | assumption | exact kR _ | refine kT ?_ (by assumption)))))).in (RSz.mono z152 (Nat.le_of_ble_eq_true rfl))) (hC.kp (Kp.of (U := UU) ba158)) (by omega) (by omega) ).mono ?_)
              rintro e w158 ⟨rfl, hb158⟩
              skip
              refine ⟨_, rfl, hb158, fun kb158 _ bb158 => wV rfl ?_⟩
              (repeat (first | refine wN ?_ | refine wQ ?_ | refine cx_r rfl ?_ | refine cx_d (by kernel_rfl) rfl ?_ | refine wO rfl rfl ?_ | refine wT rfl ?_ | refine wF rfl ?_ | refine wB ?_ | refine wK ?_ | refine wE rfl ?_ | refine wS ?_))
              refine VO.fix 238 rfl (congrArg (fun b => AV.val (.bool b)) (decide_eq_true (rf_hi2 qa qb qc))) ?_
              (repeat (first | refine wN ?_ | refine wQ ?_ | refine cx_r rfl ?_ | refine cx_d (by kernel_rfl) rfl ?_ | refine wO rfl rfl ?_ | refine wT rfl ?_ | refine wF rfl ?_ | refine wB ?_ | refine wK ?_ | refine wE rfl ?_ | refine wS ?_))
              refine VO.call rfl rfl ⟨_, Tryz.func8, by kernel_rfl, by kernel_rfl⟩ (fun wa159 ka159 ba159 => (works04_any wa159).mono ?_)
              rintro e w159 ⟨rfl, hb159⟩
              skip
              refine ⟨_, rfl, hb159, fun kb159 _ bb159 => wV rfl ?_⟩
              (repeat (first | refine wN ?_ | refine wQ ?_ | refine cx_r rfl ?_ | refine cx_d (by kernel_rfl) rfl ?_ | refine wO rfl rfl ?_ | refine wT rfl ?_ | refine wF rfl ?_ | refine wB ?_ | refine wK ?_ | refine wE rfl ?_ | refine wS ?_))
              refine VS.ret (cx_ok _ _) rfl rfl (fun wz kz bz => ?_)
              exact ⟨rfl, bz⟩
          · skip
            refine VO.fix 165 rfl (congrArg (fun b => AV.val (.bool b)) (decide_eq_false hab)) ?_
            (repeat (first | refine wN ?_ | refine wQ ?_ | refine cx_r rfl ?_ | refine cx_d (by kernel_rfl) rfl ?_ | refine wO rfl rfl ?_ | refine wT rfl ?_ | refine wF rfl ?_ | refine wB ?_ | refine wK ?_ | refine wE rfl ?_ | refine wS ?_))
            refine VO.call rfl rfl ⟨_, Tryz.func24, by kernel_rfl, by kernel_rfl⟩ (fun wa146 ka146 ba146 => (ratCmp_any _ _ (qa) (qb) (8) (8) wa146 (hA.kp (Kp.of (U := UU) ba146)) (hB.kp (Kp.of (U := UU) ba146)) (by omega) (by omega) ).mono ?_)
            rintro e w146 ⟨rfl, hb146⟩
            skip
            refine ⟨_, rfl, hb146, fun kb146 _ bb146 => wV rfl ?_⟩
            (repeat (first | refine wN ?_ | refine wQ ?_ | refine cx_r rfl ?_ | refine cx_d (by kernel_rfl) rfl ?_ | refine wO rfl rfl ?_ | refine wT rfl ?_ | refine wF rfl ?_ | refine wB ?_ | refine wK ?_ | refine wE rfl ?_ | refine wS ?_))
            refine VO.fix 183 rfl (congrArg (fun b => AV.val (.bool b)) (decide_eq_false hab)) ?_
            (repeat (first | refine wN ?_ | refine wQ ?_ | refine cx_r rfl ?_ | refine cx_d (by kernel_rfl) rfl ?_ | refine wO rfl rfl ?_ | refine wT rfl ?_ | refine wF rfl ?_ | refine wB ?_ | refine wK ?_ | refine wE rfl ?_ | refine wS ?_))
            refine VO.callF rfl ⟨_, Tryz.func34, by kernel_rfl, by kernel_rfl⟩ (fun wa147 β ka147 ba147 ho => (ratMin_any _ _ (qa) [qb, qc] 8 wa147 ((hA.kp (Kp.of (U := UU) ba147)).mono' (show 8 ≤ 8 by omega)) (ownV_rats (ho.own 197 (.base (List.mem_singleton.2 rfl)) _ _ rfl) [] (vs := [[.bool s', .slice bp xs'.length bc, .bool t', .slice br ys'.length bd], [.bool s'', .slice cp xs''.length cc, .bool t'', .slice cr ys''.length cd0]]) (by rfl) rfl (RatRow.cons ((hB.kp (Kp.of (U := UU) ba147)).mono' (show 8 ≤ 8 by omega)) (RatRow.cons ((hC.kp (Kp.of (U := UU) ba147)).mono' (show 8 ≤ 8 by omega)) RatRow.nil)) (Nat.le_of_ble_eq_true rfl) (by decide)) (by omega) (Nat.le_of_ble_eq_true rfl)).mono ?_)
            rintro e w147 ⟨r147, rfl, q147, z147, hb147⟩
            obtain ⟨s147, p147, n147, c147, t147, y147, m147, d147, rfl⟩ := q147.form
            refine ⟨_, rfl, hb147, fun kb147 _ bb147 => wV rfl ?_⟩
            (repeat (first | refine wN ?_ | refine wQ ?_ | refine cx_r rfl ?_ | refine cx_d (by kernel_rfl) rfl ?_ | refine wO rfl rfl ?_ | refine wT rfl ?_ | refine wF rfl ?_ | refine wB ?_ | refine wK ?_ | refine wE rfl ?_ | refine wS ?_))
            refine VO.callF rfl ⟨_, Tryz.func36, by kernel_rfl, by kernel_rfl⟩ (fun wa148 β ka148 ba148 ho => (ratMax_any _ _ (qa) [qb, qc] 8 wa148 ((hA.kp (Kp.of (U := UU) ba148)).mono' (show 8 ≤ 8 by omega)) (ownV_rats (ho.own 202 (.base (List.mem_singleton.2 rfl)) _ _ rfl) [] (vs := [[.bool s', .slice bp xs'.length bc, .bool t', .slice br ys'.length bd], [.bool s'', .slice cp xs''.length cc, .bool t'', .slice cr ys''.length cd0]]) (by rfl) rfl (RatRow.cons ((hB.kp (Kp.of (U := UU) ba148)).mono' (show 8 ≤ 8 by omega)) (RatRow.cons ((hC.kp (Kp.of (U := UU) ba148)).mono' (show 8 ≤ 8 by omega)) RatRow.nil)) (Nat.le_of_ble_eq_true rfl) (by decide)) (by omega) (Nat.le_of_ble_eq_true rfl)).mono ?_)
            rintro e w148 ⟨r148, rfl, q148, z148, hb148⟩
            obtain ⟨s148, p148, n148, c148, t148, y148, m148, d148, rfl⟩ := q148.form
            refine ⟨_, rfl, hb148, fun kb148 _ bb148 => wV rfl ?_⟩
            (repeat (first | refine wN ?_ | refine wQ ?_ | refine cx_r rfl ?_ | refine cx_d (by kernel_rfl) rfl ?_ | refine wO rfl rfl ?_ | refine wT rfl ?_ | refine wF rfl ?_ | refine wB ?_ | refine wK ?_ | refine wE rfl ?_ | refine wS ?_))
            refine VO.call rfl rfl ⟨_, Tryz.func24, by kernel_rfl, by kernel_rfl⟩ (fun wa149 ka149 ba149 => (ratCmp_any _ _ (rbest rless (qa) [qb, qc]) (qa) (8) (8) wa149 ((q147.kp (by (with_reducible (repeat (first | assumption | exact kR _ | refine kT ?_ (by assumption)))))).in (RSz.mono z147 (Nat.le_of_ble_eq_true rfl))) (hA.kp (Kp.of (U := UU) ba149)) (by omega) (by omega) ).mono ?_)
            rintro e w149 ⟨rfl, hb149⟩
            skip
            refine ⟨_, rfl, hb149, fun kb149 _ bb149 => wV rfl ?_⟩
            (repeat (first | refine wN ?_ | refine wQ ?_ | refine cx_r rfl ?_ | refine cx_d (by kernel_rfl) rfl ?_ | refine wO rfl rfl ?_ | refine wT rfl ?_ | refine wF rfl ?_ | refine wB ?_ | refine wK ?_ | refine wE rfl ?_ | refine wS ?_))
            refine VO.fix 208 rfl (congrArg (fun b => AV.val (.bool b)) (decide_eq_true (rf_lo0 qa qb qc))) ?_
            (repeat (first | refine wN ?_ | refine wQ ?_ | refine cx_r rfl ?_ | refine cx_d (by kernel_rfl) rfl ?_ | refine wO rfl rfl ?_ | refine wT rfl ?_ | refine wF rfl ?_ | refine wB ?_ | refine wK ?_ | refine wE rfl ?_ | refine wS ?_))
            refine VO.call rfl rfl ⟨_, Tryz.func24, by kernel_rfl, by kernel_rfl⟩ (fun wa150 ka150 ba150 => (ratCmp_any _ _ (rbest rless (qa) [qb, qc]) (qb) (8) (8) wa150 ((q147.kp (by (with_reducible (repeat (first | assumption | exact kR _ | refine kT ?_ (by assumption)))))).in (RSz.mono z147 (Nat.le_of_ble_eq_true rfl))) (hB.kp (Kp.of (U := UU) ba150)) (by omega) (by omega) ).mono ?_)
            rintro e w150 ⟨rfl, hb150⟩
            skip
            refine ⟨_, rfl, hb150, fun kb150 _ bb150 => wV rfl ?_⟩
            (repeat (first | refine wN ?_ | refine wQ ?_ | refine cx_r rfl ?_ | refine cx_d (by kernel_rfl) rfl ?_ | refine wO rfl rfl ?_ | refine wT rfl ?_ | refine wF rfl ?_ | refine wB ?_ | refine wK ?_ | refine wE rfl ?_ | refine wS ?_))
            refine VO.fix 214 rfl (congrArg (fun b => AV.val (.bool b)) (decide_eq_true (rf_lo1 qa qb qc))) ?_
            (repeat (first | refine wN ?_ | refine wQ ?_ | refine cx_r rfl ?_ | refine cx_d (by kernel_rfl) rfl ?_ | refine wO rfl rfl ?_ | refine wT rfl ?_ | refine wF rfl ?_ | refine wB ?_ | refine wK ?_ | refine wE rfl ?_ | refine wS ?_))
            refine VO.call rfl rfl ⟨_, Tryz.func24, by kernel_rfl, by kernel_rfl⟩ (fun wa151 ka151 ba151 => (ratCmp_any _ _ (rbest rless (qa) [qb, qc]) (qc) (8) (8) wa151 ((q147.kp (by (with_reducible (repeat (first | assumption | exact kR _ | refine kT ?_ (by assumption)))))).in (RSz.mono z147 (Nat.le_of_ble_eq_true rfl))) (hC.kp (Kp.of (U := UU) ba151)) (by omega) (by omega) ).mono ?_)
            rintro e w151 ⟨rfl, hb151⟩
            skip
            refine ⟨_, rfl, hb151, fun kb151 _ bb151 => wV rfl ?_⟩
            (repeat (first | refine wN ?_ | refine wQ ?_ | refine cx_r rfl ?_ | refine cx_d (by kernel_rfl) rfl ?_ | refine wO rfl rfl ?_ | refine wT rfl ?_ | refine wF rfl ?_ | refine wB ?_ | refine wK ?_ | refine wE rfl ?_ | refine wS ?_))
            refine VO.fix 220 rfl (congrArg (fun b => AV.val (.bool b)) (decide_eq_true (rf_lo2 qa qb qc))) ?_
            (repeat (first | refine wN ?_ | refine wQ ?_ | refine cx_r rfl ?_ | refine cx_d (by kernel_rfl) rfl ?_ | refine wO rfl rfl ?_ | refine wT rfl ?_ | refine wF rfl ?_ | refine wB ?_ | refine wK ?_ | refine wE rfl ?_ | refine wS ?_))
            refine VO.call rfl rfl ⟨_, Tryz.func24, by kernel_rfl, by kernel_rfl⟩ (fun wa152 ka152 ba152 => (ratCmp_any _ _ (rbest rmore (qa) [qb, qc]) (qa) (8) (8) wa152 ((q148.kp (by (with_reducible (repeat (first | assumption | exact kR _ | refine kT ?_ (by assumption)))))).in (RSz.mono z148 (Nat.le_of_ble_eq_true rfl))) (hA.kp (Kp.of (U := UU) ba152)) (by omega) (by omega) ).mono ?_)
            rintro e w152 ⟨rfl, hb152⟩
            skip
            refine ⟨_, rfl, hb152, fun kb152 _ bb152 => wV rfl ?_⟩
            (repeat (first | refine wN ?_ | refine wQ ?_ | refine cx_r rfl ?_ | refine cx_d (by kernel_rfl) rfl ?_ | refine wO rfl rfl ?_ | refine wT rfl ?_ | refine wF rfl ?_ | refine wB ?_ | refine wK ?_ | refine wE rfl ?_ | refine wS ?_))
            refine VO.fix 226 rfl (congrArg (fun b => AV.val (.bool b)) (decide_eq_true (rf_hi0 qa qb qc))) ?_
            (repeat (first | refine wN ?_ | refine wQ ?_ | refine cx_r rfl ?_ | refine cx_d (by kernel_rfl) rfl ?_ | refine wO rfl rfl ?_ | refine wT rfl ?_ | refine wF rfl ?_ | refine wB ?_ | refine wK ?_ | refine wE rfl ?_ | refine wS ?_))
            refine VO.call rfl rfl ⟨_, Tryz.func24, by kernel_rfl, by kernel_rfl⟩ (fun wa153 ka153 ba153 => (ratCmp_any _ _ (rbest rmore (qa) [qb, qc]) (qb) (8) (8) wa153 ((q148.kp (by (with_reducible (repeat (first | assumption | exact kR _ | refine kT ?_ (by assumption)))))).in (RSz.mono z148 (Nat.le_of_ble_eq_true rfl))) (hB.kp (Kp.of (U := UU) ba153)) (by omega) (by omega) ).mono ?_)
            rintro e w153 ⟨rfl, hb153⟩
            skip
            refine ⟨_, rfl, hb153, fun kb153 _ bb153 => wV rfl ?_⟩
            (repeat (first | refine wN ?_ | refine wQ ?_ | refine cx_r rfl ?_ | refine cx_d (by kernel_rfl) rfl ?_ | refine wO rfl rfl ?_ | refine wT rfl ?_ | refine wF rfl ?_ | refine wB ?_ | refine wK ?_ | refine wE rfl ?_ | refine wS ?_))
            refine VO.fix 232 rfl (congrArg (fun b => AV.val (.bool b)) (decide_eq_true (rf_hi1 qa qb qc))) ?_
            (repeat (first | refine wN ?_ | refine wQ ?_ | refine cx_r rfl ?_ | refine cx_d (by kernel_rfl) rfl ?_ | refine wO rfl rfl ?_ | refine wT rfl ?_ | refine wF rfl ?_ | refine wB ?_ | refine wK ?_ | refine wE rfl ?_ | refine wS ?_))
            refine VO.call rfl rfl ⟨_, Tryz.func24, by kernel_rfl, by kernel_rfl⟩ (fun wa154 ka154 ba154 => (ratCmp_any _ _ (rbest rmore (qa) [qb, qc]) (qc) (8) (8) wa154 ((q148.kp (by (with_reducible (repeat (first | assumption | exact kR _ | refine kT ?_ (by assumption)))))).in (RSz.mono z148 (Nat.le_of_ble_eq_true rfl))) (hC.kp (Kp.of (U := UU) ba154)) (by omega) (by omega) ).mono ?_)
            rintro e w154 ⟨rfl, hb154⟩
            skip
            refine ⟨_, rfl, hb154, fun kb154 _ bb154 => wV rfl ?_⟩
            (repeat (first | refine wN ?_ | refine wQ ?_ | refine cx_r rfl ?_ | refine cx_d (by kernel_rfl) rfl ?_ | refine wO rfl rfl ?_ | refine wT rfl ?_ | refine wF rfl ?_ | refine wB ?_ | refine wK ?_ | refine wE rfl ?_ | refine wS ?_))
            refine VO.fix 238 rfl (congrArg (fun b => AV.val (.bool b)) (decide_eq_true (rf_hi2 qa qb qc))) ?_
            (repeat (first | refine wN ?_ | refine wQ ?_ | refine cx_r rfl ?_ | refine cx_d (by kernel_rfl) rfl ?_ | refine wO rfl rfl ?_ | refine wT rfl ?_ | refine wF rfl ?_ | refine wB ?_ | refine wK ?_ | refine wE rfl ?_ | refine wS ?_))
            refine VO.call rfl rfl ⟨_, Tryz.func8, by kernel_rfl, by kernel_rfl⟩ (fun wa155 ka155 ba155 => (works04_any wa155).mono ?_)
            rintro e w155 ⟨rfl, hb155⟩
            skip
            refine ⟨_, rfl, hb155, fun kb155 _ bb155 => wV rfl ?_⟩
            (repeat (first | refine wN ?_ | refine wQ ?_ | refine cx_r rfl ?_ | refine cx_d (by kernel_rfl) rfl ?_ | refine wO rfl rfl ?_ | refine wT rfl ?_ | refine wF rfl ?_ | refine wB ?_ | refine wK ?_ | refine wE rfl ?_ | refine wS ?_))
            refine VS.ret (cx_ok _ _) rfl rfl (fun wz kz bz => ?_)
            exact ⟨rfl, bz⟩
        --GENEND
      · rw [decide_eq_false hfc]
        refine ⟨_, rfl, hb3, fun kb3 _ bb3 => wV rfl ?_⟩
        (repeat (first | refine wN ?_ | refine wQ ?_ | refine cx_r rfl ?_ | refine cx_d (by kernel_rfl) rfl ?_ | refine wO rfl rfl ?_ | refine wT rfl ?_ | refine wF rfl ?_ | refine wB ?_ | refine wK ?_ | refine wE rfl ?_ | refine wS ?_))
        refine VO.call rfl rfl ⟨_, Tryz.func8, by kernel_rfl, by kernel_rfl⟩ (fun wa4 ka4 ba4 => (works04_any wa4).mono ?_)
        rintro e w4 ⟨rfl, hb4⟩
        skip
        refine ⟨_, rfl, hb4, fun kb4 _ bb4 => wV rfl ?_⟩
        (repeat (first | refine wN ?_ | refine wQ ?_ | refine cx_r rfl ?_ | refine cx_d (by kernel_rfl) rfl ?_ | refine wO rfl rfl ?_ | refine wT rfl ?_ | refine wF rfl ?_ | refine wB ?_ | refine wK ?_ | refine wE rfl ?_ | refine wS ?_))
        refine VS.ret (cx_ok _ _) rfl rfl (fun wz kz bz => ?_)
        exact ⟨rfl, bz⟩
    · rw [decide_eq_false hfb]
      refine ⟨_, rfl, hb2, fun kb2 _ bb2 => wV rfl ?_⟩
      (repeat (first | refine wN ?_ | refine wQ ?_ | refine cx_r rfl ?_ | refine cx_d (by kernel_rfl) rfl ?_ | refine wO rfl rfl ?_ | refine wT rfl ?_ | refine wF rfl ?_ | refine wB ?_ | refine wK ?_ | refine wE rfl ?_ | refine wS ?_))
      refine VO.call rfl rfl ⟨_, Tryz.func8, by kernel_rfl, by kernel_rfl⟩ (fun wa3 ka3 ba3 => (works04_any wa3).mono ?_)
      rintro e w3 ⟨rfl, hb3⟩
      skip
      refine ⟨_, rfl, hb3, fun kb3 _ bb3 => wV rfl ?_⟩
      (repeat (first | refine wN ?_ | refine wQ ?_ | refine cx_r rfl ?_ | refine cx_d (by kernel_rfl) rfl ?_ | refine wO rfl rfl ?_ | refine wT rfl ?_ | refine wF rfl ?_ | refine wB ?_ | refine wK ?_ | refine wE rfl ?_ | refine wS ?_))
      refine VS.ret (cx_ok _ _) rfl rfl (fun wz kz bz => ?_)
      exact ⟨rfl, bz⟩
  · rw [decide_eq_false hfa]
    refine ⟨_, rfl, hb1, fun kb1 _ bb1 => wV rfl ?_⟩
    (repeat (first | refine wN ?_ | refine wQ ?_ | refine cx_r rfl ?_ | refine cx_d (by kernel_rfl) rfl ?_ | refine wO rfl rfl ?_ | refine wT rfl ?_ | refine wF rfl ?_ | refine wB ?_ | refine wK ?_ | refine wE rfl ?_ | refine wS ?_))
    refine VO.call rfl rfl ⟨_, Tryz.func8, by kernel_rfl, by kernel_rfl⟩ (fun wa3 ka3 ba3 => (works04_any wa3).mono ?_)
    rintro e w3 ⟨rfl, hb3⟩
    skip
    refine ⟨_, rfl, hb3, fun kb3 _ bb3 => wV rfl ?_⟩
    (repeat (first | refine wN ?_ | refine wQ ?_ | refine cx_r rfl ?_ | refine cx_d (by kernel_rfl) rfl ?_ | refine wO rfl rfl ?_ | refine wT rfl ?_ | refine wF rfl ?_ | refine wB ?_ | refine wK ?_ | refine wE rfl ?_ | refine wS ?_))
    refine VS.ret (cx_ok _ _) rfl rfl (fun wz kz bz => ?_)
    exact ⟨rfl, bz⟩
end Go.Proofs.YtppfcobomaaceaaGreat
