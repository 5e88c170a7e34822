/- RoundKnown: what this statement's function answers. -/
import Derived.Test.YtkafabgcdlfhiaaGreatLaw05D
import Derived.Test.YtkafabgcdlfhiaaGreatLaw05E
set_option linter.all false
namespace Go.Proofs.YtkafabgcdlfhiaaGreat
open Go.RowKit
attribute [local irreducible] vcOps VS

theorem NumAt.nul (w : World) (s : Bool) : NumAt w (.agg #[.bool s, .slice none 0 0]) s [] := ⟨none, 0, rfl, Rd.nil w 1, Lim.nil⟩
/-- four cells that read as two numbers -/
theorem raw_of {w : World} {s t : Bool} {p r : Option Addr} {n c m d : Nat} {xs ys : List Nat} (h1 : NumAt w (.agg #[.bool s, .slice p n c]) s xs) (h2 : NumAt w (.agg #[.bool t, .slice r m d]) t ys) : n = xs.length ∧ m = ys.length ∧ RatRaw w (.agg #[.bool s, .slice p n c, .bool t, .slice r m d]) s xs t ys := by
  have k1 := h1
  have k2 := h2
  obtain ⟨p', c', e1, _⟩ := h1
  obtain ⟨r', d', e2, _⟩ := h2
  simp only [Value.agg.injEq, Array.mk.injEq, List.cons.injEq, and_true, Value.slice.injEq, true_and] at e1 e2
  obtain ⟨rfl, rfl, rfl⟩ := e1
  obtain ⟨rfl, rfl, rfl⟩ := e2
  exact ⟨rfl, rfl, _, _, _, _, rfl, k1, k2⟩
theorem rawE_of {w : World} {s t : Bool} {p r : Option Addr} {n c m d k : Nat} {xs ys : List Nat} (h1 : NumAt w (.agg #[.bool s, .slice p n c]) s xs) (h2 : NumAt w (.agg #[.bool t, .slice r m d]) t ys) (l1 : xs.length ≤ k) (l2 : ys.length ≤ k) : RawE k w [.bool s, .slice p n c, .bool t, .slice r m d] (rtB s xs t ys, rq s xs t ys) := by
  obtain ⟨rfl, rfl, h⟩ := raw_of h1 h2
  exact ⟨s, p, c, t, r, d, xs, ys, rfl, h, rfl, l1, l2⟩
theorem IntRd.num {w : World} {s : Bool} {p : Option Addr} {n c : Nat} {X : Int} (h : IntRd w (.agg #[.bool s, .slice p n c]) X) : NumAt w (.agg #[.bool s, .slice p n c]) s (limbs X.natAbs) := by
  have := h.sgn
  subst this
  exact h
theorem RatRd.rawE {w : World} {s t : Bool} {p r : Option Addr} {n c m d k : Nat} {q : Rat} (h : RatRd w (.agg #[.bool s, .slice p n c, .bool t, .slice r m d]) q) (hs : RSz q k) : ∃ xs ys, RatRaw w (.agg #[.bool s, .slice p n c, .bool t, .slice r m d]) s xs t ys ∧ RawE k w [.bool s, .slice p n c, .bool t, .slice r m d] (rtB s xs t ys, rq s xs t ys) := by
  obtain ⟨h1, h2⟩ := h.parts
  exact ⟨_, _, (raw_of h1.num h2.num).2.2, rawE_of h1.num h2.num hs.1 hs.2⟩
theorem SlIn.drop {α : Type} {E : World → List Value → α → Prop} {sz : Nat} {w : World} {b n c z : Nat} {es : List α} (h : SlIn E sz w (.slice (some ⟨b, 0, none⟩) n c) es) (hz : z ≤ n) : SlIn E sz w (.slice (some ⟨b, z * sz, none⟩) (n - z) (c - z)) (es.drop z) := by
  obtain ⟨p, c', hv, h1, h2, h3⟩ := h
  simp only [Value.slice.injEq] at hv
  obtain ⟨rfl, rfl, rfl⟩ := hv
  refine ⟨_, _, by rw [List.length_drop], by rw [List.length_drop]; omega, by omega, fun i a ha => ?_⟩
  rw [List.getElem?_drop] at ha
  obtain ⟨b', off, cs, hp, hc, he⟩ := h3 (z + i) a ha
  simp only [Option.some.injEq, Addr.mk.injEq, and_true] at hp
  obtain ⟨rfl, rfl⟩ := hp
  refine ⟨b, z * sz, cs, rfl, fun j u hj => ?_, he⟩
  have := hc j u hj
  rw [show 0 + (z + i) * sz + j = z * sz + i * sz + j by rw [Nat.add_mul]; omega] at this
  exact this
theorem d_step {i : Nat} (h : i < 11) : IntKind.i64.wrap ((i : Int) + 1 + 1) = ((i + 1 : Nat) : Int) + 1 := by rw [IntWalk.i64_in _ (by omega)]; omega
theorem n_step {i : Nat} (h : i < 61) : IntKind.i64.wrap ((i : Int) - 30 + 1) = ((i + 1 : Nat) : Int) - 30 := by rw [IntWalk.i64_in _ (by omega)]; omega
theorem i64_b1 {x : Int} (h : -1000 ≤ x ∧ x ≤ 1000) : -9223372036854775808 ≤ x ∧ x ≤ 9223372036854775807 := by omega
set_option maxRecDepth 8000 in
set_option maxHeartbeats 8000000 in
theorem roundKnown_any (w : World) : Calls Tryz.prog 13 #[] w fun e w' => e = .returned (.bool true) ∧ Beh w w' := by
  refine calm_enter (C := cxOf Tryz.prog w _) (args := []) Tryz.func13 rfl Tryz.ntmps13 (Nat.le_of_ble_eq_true rfl) ?_
  (repeat (first | refine wN ?_ | refine wP rfl ?_ | refine cx_r rfl ?_ | refine cx_d (by kernel_rfl) rfl ?_ | refine wO rfl rfl ?_))
  refine VS.loop (J := fun m L M w' => ∃ k : Nat, k ≤ 11 ∧ m = 11 - k ∧ L = [(1, .val (.int .i64 ((k : Int) + 1)))] ∧ M = []) 11 ⟨_, _, ?_, ?_, ?_, ?_, ⟨0, by omega, rfl, rfl, rfl⟩⟩ ?_
  · (repeat (first | exact trivial | refine ⟨rfl, ?_⟩))
  · (repeat (first | exact trivial | refine ⟨rfl, ?_⟩))
  · rfl
  · (repeat (first | exact trivial | refine ⟨ClosedC.lit rfl, ?_⟩ | refine ⟨ClosedC.vals _, ?_⟩))
  rintro m L M w1 ⟨k, hk, rfl, rfl, rfl⟩
  obtain ⟨D, hD⟩ : ∃ D : Int, D = (k : Int) + 1 := ⟨_, rfl⟩
  rw [← hD]
  (repeat (first | refine wN ?_ | refine wP rfl ?_ | refine cx_r rfl ?_ | refine cx_d (by kernel_rfl) rfl ?_ | refine wO rfl rfl ?_))
  by_cases hk14 : k < 11
  · refine VS.condY rfl (decide_eq_true (show D < 12 by omega)) ?_
    (repeat (first | refine wN ?_ | refine wP rfl ?_ | refine cx_r rfl ?_ | refine cx_d (by kernel_rfl) rfl ?_ | refine wO rfl rfl ?_))
    refine VS.loop (J := fun m L M w' => ∃ i : Nat, i ≤ 61 ∧ m = 61 - i ∧ L = [(1, .val (.int .i64 D)), (2, .val (.int .i64 ((i : Int) - 30)))] ∧ M = []) 61 ⟨_, _, ?_, ?_, ?_, ?_, ⟨0, by omega, rfl, rfl, rfl⟩⟩ ?_
    · (repeat (first | exact trivial | refine ⟨rfl, ?_⟩))
    · (repeat (first | exact trivial | refine ⟨rfl, ?_⟩))
    · rfl
    · (repeat (first | exact trivial | refine ⟨ClosedC.lit rfl, ?_⟩ | refine ⟨ClosedC.vals _, ?_⟩))
    rintro m L M w2 ⟨i, hi, rfl, rfl, rfl⟩
    obtain ⟨n, hn⟩ : ∃ n : Int, n = (i : Int) - 30 := ⟨_, rfl⟩
    rw [← hn]
    (repeat (first | refine wN ?_ | refine wP rfl ?_ | refine cx_r rfl ?_ | refine cx_d (by kernel_rfl) rfl ?_ | refine wO rfl rfl ?_))
    by_cases hi7 : i < 61
    · refine VS.condY rfl (decide_eq_true (show n < 31 by omega)) ?_
      (repeat (first | refine wN ?_ | refine wP rfl ?_ | refine cx_r rfl ?_ | refine cx_d (by kernel_rfl) rfl ?_ | refine wO rfl rfl ?_))
      have hnb : IntKind.i64.wrap (n + 1) = n + 1 := IntWalk.i64_in _ (by omega)
      refine VO.call rfl rfl (fk Tryz.func86) (fun wa10 ka10 ba10 => (of05_any n D wa10 (by omega) (by omega) (by omega) (by omega)).mono ?_)
      rintro e w10 ⟨r10, rfl, q10, hb10⟩
      obtain ⟨s10, p10, n10, c10, t10, y10, m10, d10, rfl⟩ := q10.form
      refine ⟨_, rfl, hb10, fun kb10 _ bb10 => wV rfl ?_⟩
      (repeat (first | refine wN ?_ | refine wP rfl ?_ | refine cx_r rfl ?_ | refine cx_d (by kernel_rfl) rfl ?_ | refine wO rfl rfl ?_))
      have hz : RSz (Rat.divInt n D) 2 := i64_rsz (by omega) (by omega) (by omega) (by omega)
      obtain ⟨xs, ys, hx, hxe⟩ := q10.rd.rawE hz
      refine VO.call rfl rfl (fk Tryz.func8) (fun wa11 ka11 ba11 => (roundTells_any _ _ xs ys _ wa11 (hx.kp (by (with_reducible (repeat (first | assumption | exact kU _ | exact kR _ | exact Kp.of (U := UU) (by assumption) | exact KpS.of (by assumption) | refine kT ?_ (by assumption))))))).mono ?_)
      rintro e w11 ⟨rfl, hb11⟩
      skip
      refine ⟨_, rfl, hb11, fun kb11 _ bb11 => wV rfl ?_⟩
      (repeat (first | refine wN ?_ | refine wP rfl ?_ | refine cx_r rfl ?_ | refine cx_d (by kernel_rfl) rfl ?_ | refine wO rfl rfl ?_))
      refine VO.fix 25 rfl (congrArg (fun z => AV.val (.int .i64 z)) hnb) ?_
      (repeat (first | refine wN ?_ | refine wP rfl ?_ | refine cx_r rfl ?_ | refine cx_d (by kernel_rfl) rfl ?_ | refine wO rfl rfl ?_))
      refine VO.call rfl rfl (fk Tryz.func86) (fun wa12 ka12 ba12 => (of05_any (n + 1) D wa12 (by omega) (by omega) (by omega) (by omega)).mono ?_)
      rintro e w12 ⟨r12, rfl, q12, hb12⟩
      obtain ⟨s12, p12, n12, c12, t12, y12, m12, d12, rfl⟩ := q12.form
      refine ⟨_, rfl, hb12, fun kb12 _ bb12 => wV rfl ?_⟩
      (repeat (first | refine wN ?_ | refine wP rfl ?_ | refine cx_r rfl ?_ | refine cx_d (by kernel_rfl) rfl ?_ | refine wO rfl rfl ?_))
      obtain ⟨xs2, ys2, hx2, _⟩ := q12.rd.rawE (i64_rsz (n := n + 1) (d := D) (by omega) (by omega) (by omega) (by omega))
      refine VO.call rfl rfl (fk Tryz.func87) (fun wa13 ka13 ba13 => (roundNear_any _ _ _ _ xs ys xs2 ys2 _ _ wa13 (hx.kp (by (with_reducible (repeat (first | assumption | exact kU _ | exact kR _ | exact Kp.of (U := UU) (by assumption) | exact KpS.of (by assumption) | refine kT ?_ (by assumption)))))) (hx2.kp (by (with_reducible (repeat (first | assumption | exact kU _ | exact kR _ | exact Kp.of (U := UU) (by assumption) | exact KpS.of (by assumption) | refine kT ?_ (by assumption))))))).mono ?_)
      rintro e w13 ⟨rfl, hb13⟩
      skip
      refine ⟨_, rfl, hb13, fun kb13 _ bb13 => wV rfl ?_⟩
      (repeat (first | refine wN ?_ | refine wP rfl ?_ | refine cx_r rfl ?_ | refine cx_d (by kernel_rfl) rfl ?_ | refine wO rfl rfl ?_))
      refine VO.call rfl rfl (fk Tryz.func86) (fun wa14 ka14 ba14 => (of05_any D 3 wa14 (by omega) (by omega) (by omega) (by omega)).mono ?_)
      rintro e w14 ⟨r14, rfl, q14, hb14⟩
      obtain ⟨s14, p14, n14, c14, t14, y14, m14, d14, rfl⟩ := q14.form
      refine ⟨_, rfl, hb14, fun kb14 _ bb14 => wV rfl ?_⟩
      (repeat (first | refine wN ?_ | refine wP rfl ?_ | refine cx_r rfl ?_ | refine cx_d (by kernel_rfl) rfl ?_ | refine wO rfl rfl ?_))
      obtain ⟨xs3, ys3, hx3, _⟩ := q14.rd.rawE (i64_rsz (n := D) (d := 3) (by omega) (by omega) (by omega) (by omega))
      refine VO.call rfl rfl (fk Tryz.func87) (fun wa15 ka15 ba15 => (roundNear_any _ _ _ _ xs ys xs3 ys3 _ _ wa15 (hx.kp (by (with_reducible (repeat (first | assumption | exact kU _ | exact kR _ | exact Kp.of (U := UU) (by assumption) | exact KpS.of (by assumption) | refine kT ?_ (by assumption)))))) (hx3.kp (by (with_reducible (repeat (first | assumption | exact kU _ | exact kR _ | exact Kp.of (U := UU) (by assumption) | exact KpS.of (by assumption) | refine kT ?_ (by assumption))))))).mono ?_)
      rintro e w15 ⟨rfl, hb15⟩
      skip
      refine ⟨_, rfl, hb15, fun kb15 _ bb15 => wV rfl ?_⟩
      (repeat (first | refine wN ?_ | refine wP rfl ?_ | refine cx_r rfl ?_ | refine cx_d (by kernel_rfl) rfl ?_ | refine wO rfl rfl ?_))
      refine VO.call rfl rfl (fk Tryz.func86) (fun wa16 ka16 ba16 => (of05_any n 1 wa16 (by omega) (by omega) (by omega) (by omega)).mono ?_)
      rintro e w16 ⟨r16, rfl, q16, hb16⟩
      obtain ⟨s16, p16, n16, c16, t16, y16, m16, d16, rfl⟩ := q16.form
      refine ⟨_, rfl, hb16, fun kb16 _ bb16 => wV rfl ?_⟩
      (repeat (first | refine wN ?_ | refine wP rfl ?_ | refine cx_r rfl ?_ | refine cx_d (by kernel_rfl) rfl ?_ | refine wO rfl rfl ?_))
      obtain ⟨xs4, ys4, hx4, hx4e⟩ := q16.rd.rawE (i64_rsz (n := n) (d := 1) (by omega) (by omega) (by omega) (by omega))
      refine VO.callF rfl (fk Tryz.func7) (fun wa17 β ka17 ba17 ho => (roundPlaces_any _ _ xs ys _ _ _ [_, _] 2 wa17 (hx.kp (by (with_reducible (repeat (first | assumption | exact kU _ | exact kR _ | exact Kp.of (U := UU) (by assumption) | exact KpS.of (by assumption) | refine kT ?_ (by assumption)))))) (ownV_sl (rawE_ok 2) (ho.own 45 (.base (by simp [idsOf, AV.ids])) _ _ rfl) [] (vs := [[.bool s10, .slice p10 n10 c10, .bool t10, .slice y10 m10 d10], [.bool s16, .slice p16 n16 c16, .bool t16, .slice y16 m16 d16]]) rfl (.cons ((rawE_ok 2).kp hxe (by (with_reducible (repeat (first | assumption | exact kU _ | exact kR _ | exact Kp.of (U := UU) (by assumption) | exact KpS.of (by assumption) | refine kT ?_ (by assumption)))))) (.cons ((rawE_ok 2).kp hx4e (by (with_reducible (repeat (first | assumption | exact kU _ | exact kR _ | exact Kp.of (U := UU) (by assumption) | exact KpS.of (by assumption) | refine kT ?_ (by assumption)))))) .nil)) rfl (Nat.le_refl _) (show (2 : Nat) ≤ 9223372036854775807 by omega))).mono ?_)
      rintro e w17 ⟨rfl, hb17⟩
      refine ⟨_, rfl, hb17, fun kb17 _ bb17 => wV rfl ?_⟩
      (repeat (first | refine wN ?_ | refine wP rfl ?_ | refine cx_r rfl ?_ | refine cx_d (by kernel_rfl) rfl ?_ | refine wO rfl rfl ?_))
      refine VS.back (61 - (i + 1)) (by omega) ⟨_, _, ?_, ?_, ?_, ?_, ⟨i + 1, by omega, rfl, rfl, rfl⟩⟩
      · refine ⟨rfl, ?_, trivial⟩
        rw [← n_step hi7, ← hn]; rfl
      · (repeat (first | exact trivial | refine ⟨rfl, ?_⟩))
      · rfl
      · (repeat (first | exact trivial | refine ⟨ClosedC.lit rfl, ?_⟩ | refine ⟨ClosedC.vals _, ?_⟩))
    · refine VS.condN rfl (decide_eq_false (show ¬ n < 31 by omega)) ?_
      (repeat (first | refine wN ?_ | refine wP rfl ?_ | refine cx_r rfl ?_ | refine cx_d (by kernel_rfl) rfl ?_ | refine wO rfl rfl ?_))
      refine VS.back (11 - (k + 1)) (by omega) ⟨_, _, ?_, ?_, ?_, ?_, ⟨k + 1, by omega, rfl, rfl, rfl⟩⟩
      · refine ⟨?_, trivial⟩
        rw [← d_step hk14, ← hD]; rfl
      · (repeat (first | exact trivial | refine ⟨rfl, ?_⟩))
      · rfl
      · (repeat (first | exact trivial | refine ⟨ClosedC.lit rfl, ?_⟩ | refine ⟨ClosedC.vals _, ?_⟩))
  · refine VS.condN rfl (decide_eq_false (show ¬ D < 12 by omega)) ?_
    (repeat (first | refine wN ?_ | refine wP rfl ?_ | refine cx_r rfl ?_ | refine cx_d (by kernel_rfl) rfl ?_ | refine wO rfl rfl ?_))
    refine VO.call rfl rfl (fk Tryz.func45) (fun wa20 ka20 ba20 => (bOf_any 4 wa20 (by omega) (by omega)).mono ?_)
    rintro e w20 ⟨r20, rfl, q20, hb20⟩
    obtain ⟨s20, p20, n20, c20, rfl⟩ := q20.form
    refine ⟨_, rfl, hb20, fun kb20 _ bb20 => wV rfl ?_⟩
    (repeat (first | refine wN ?_ | refine wP rfl ?_ | refine cx_r rfl ?_ | refine cx_d (by kernel_rfl) rfl ?_ | refine wO rfl rfl ?_))
    refine VO.call rfl rfl (fk Tryz.func45) (fun wa21 ka21 ba21 => (bOf_any 6 wa21 (by omega) (by omega)).mono ?_)
    rintro e w21 ⟨r21, rfl, q21, hb21⟩
    obtain ⟨s21, p21, n21, c21, rfl⟩ := q21.form
    refine ⟨_, rfl, hb21, fun kb21 _ bb21 => wV rfl ?_⟩
    (repeat (first | refine wN ?_ | refine wP rfl ?_ | refine cx_r rfl ?_ | refine cx_d (by kernel_rfl) rfl ?_ | refine wO rfl rfl ?_))
    refine VO.call rfl rfl (fk Tryz.func45) (fun wa22 ka22 ba22 => (bOf_any 1 wa22 (by omega) (by omega)).mono ?_)
    rintro e w22 ⟨r22, rfl, q22, hb22⟩
    obtain ⟨s22, p22, n22, c22, rfl⟩ := q22.form
    refine ⟨_, rfl, hb22, fun kb22 _ bb22 => wV rfl ?_⟩
    (repeat (first | refine wN ?_ | refine wP rfl ?_ | refine cx_r rfl ?_ | refine cx_d (by kernel_rfl) rfl ?_ | refine wO rfl rfl ?_))
    refine VO.call rfl rfl (fk Tryz.func45) (fun wa23 ka23 ba23 => (bOf_any 1 wa23 (by omega) (by omega)).mono ?_)
    rintro e w23 ⟨r23, rfl, q23, hb23⟩
    obtain ⟨s23, p23, n23, c23, rfl⟩ := q23.form
    refine ⟨_, rfl, hb23, fun kb23 _ bb23 => wV rfl ?_⟩
    (repeat (first | refine wN ?_ | refine wP rfl ?_ | refine cx_r rfl ?_ | refine cx_d (by kernel_rfl) rfl ?_ | refine wO rfl rfl ?_))
    refine VO.call rfl rfl (fk Tryz.func45) (fun wa24 ka24 ba24 => (bOf_any (-2) wa24 (by omega) (by omega)).mono ?_)
    rintro e w24 ⟨r24, rfl, q24, hb24⟩
    obtain ⟨s24, p24, n24, c24, rfl⟩ := q24.form
    refine ⟨_, rfl, hb24, fun kb24 _ bb24 => wV rfl ?_⟩
    (repeat (first | refine wN ?_ | refine wP rfl ?_ | refine cx_r rfl ?_ | refine cx_d (by kernel_rfl) rfl ?_ | refine wO rfl rfl ?_))
    refine VO.call rfl rfl (fk Tryz.func45) (fun wa25 ka25 ba25 => (bOf_any 1 wa25 (by omega) (by omega)).mono ?_)
    rintro e w25 ⟨r25, rfl, q25, hb25⟩
    obtain ⟨s25, p25, n25, c25, rfl⟩ := q25.form
    refine ⟨_, rfl, hb25, fun kb25 _ bb25 => wV rfl ?_⟩
    (repeat (first | refine wN ?_ | refine wP rfl ?_ | refine cx_r rfl ?_ | refine cx_d (by kernel_rfl) rfl ?_ | refine wO rfl rfl ?_))
    have sm : ∀ X : Int, X.natAbs < 4294967296 → (limbs X.natAbs).length ≤ 2 := fun X h => Nat.le_trans (Sz.small h) (by omega)
    obtain ⟨vs, hvs⟩ : ∃ vs : List (List Value), vs = [[.bool false, .slice none 0 0, .bool false, .slice none 0 0], [.bool s20, .slice p20 n20 c20, .bool s21, .slice p21 n21 c21], [.bool s22, .slice p22 n22 c22, .bool false, .slice none 0 0], [.bool s23, .slice p23 n23 c23, .bool s24, .slice p24 n24 c24], [.bool true, .slice none 0 0, .bool s25, .slice p25 n25 c25]] := ⟨_, rfl⟩
    have hrow : ∃ es, RowE (RawE 2) w25 es vs := by
      rw [hvs]
      exact ⟨_, .cons (rawE_of (NumAt.nul _ _) (NumAt.nul _ _) (by simp) (by simp)) (.cons (rawE_of (q20.kr).num (q21.kr).num (sm 4 (by decide)) (sm 6 (by decide))) (.cons (rawE_of (q22.kr).num (NumAt.nul _ _) (sm 1 (by decide)) (by simp)) (.cons (rawE_of (q23.kr).num (q24.kr).num (sm 1 (by decide)) (sm (-2) (by decide))) (.cons (rawE_of (NumAt.nul _ _) q25.rd.num (by simp) (sm 1 (by decide))) .nil))))⟩
    obtain ⟨es, hrow⟩ := hrow
    have hes : es.length = 5 := by rw [← hrow.len, hvs]; rfl
    refine VS.loop (J := fun m L M w' => ∃ z : Nat, z ≤ 5 ∧ m = 5 - z ∧ L = [(4, .row 61 0 5 5), (5, .val (.int .i64 (z : Int)))] ∧ M = [(61, (27, vs.flatten.map .val ++ ([] : List AV)))] ∧ RowE (RawE 2) w' es vs) 5 ⟨_, _, ?_, ?_, ?_, ?_, ⟨0, by omega, rfl, rfl, rfl, hrow⟩⟩ ?_
    · (repeat (first | exact trivial | refine ⟨rfl, ?_⟩))
    · refine ⟨congrArg (fun l => some (_, l)) ?_, trivial⟩
      rw [hvs]; rfl
    · rfl
    · exact ⟨.append (.vals _) (.none rfl), trivial⟩
    clear hrow
    rintro m L M w3 ⟨z, hz, rfl, rfl, rfl, hrow⟩
    (repeat (first | refine wN ?_ | refine wP rfl ?_ | refine cx_r rfl ?_ | refine cx_d (by kernel_rfl) rfl ?_ | refine wO rfl rfl ?_))
    by_cases hz5 : z < 5
    · obtain ⟨a, ha⟩ : ∃ x, es[z]? = some x := ⟨_, List.getElem?_eq_getElem (by omega)⟩
      obtain ⟨cs, hcs, hE⟩ := hrow.at z a ha
      have hE0 := hE
      obtain ⟨s, p, c, t, r, d, xs, ys, rfl, hraw, -⟩ := hE
      refine VS.condY rfl (decide_eq_true (show (z : Int) < ((5 : Nat) : Int) by omega)) ?_
      (repeat (first | refine wN ?_ | refine wP rfl ?_ | refine cx_r rfl ?_ | refine cx_d (by kernel_rfl) rfl ?_ | refine wO rfl rfl ?_))
      refine VO.cond rfl ⟨by omega, by omega⟩ ?_
      refine wV rfl ?_
      (repeat (first | refine wN ?_ | refine wP rfl ?_ | refine cx_r rfl ?_ | refine cx_d (by kernel_rfl) rfl ?_ | refine wO rfl rfl ?_))
      refine VO.peek rfl ([.bool s, .slice p xs.length c, .bool t, .slice r ys.length d].map .val) rfl (row_peek (rawE_ok 2) hrow [] hcs) (wV rfl ?_)
      (repeat (first | refine wN ?_ | refine wP rfl ?_ | refine cx_r rfl ?_ | refine cx_d (by kernel_rfl) rfl ?_ | refine wO rfl rfl ?_))
      refine VO.call rfl rfl (fk Tryz.func8) (fun wa30 ka30 ba30 => (roundTells_any _ _ xs ys _ wa30 (hraw.kp (by (with_reducible (repeat (first | assumption | exact kU _ | exact kR _ | exact Kp.of (U := UU) (by assumption) | exact KpS.of (by assumption) | refine kT ?_ (by assumption))))))).mono ?_)
      rintro e w30 ⟨rfl, hb30⟩
      skip
      refine ⟨_, rfl, hb30, fun kb30 _ bb30 => wV rfl ?_⟩
      (repeat (first | refine wN ?_ | refine wP rfl ?_ | refine cx_r rfl ?_ | refine cx_d (by kernel_rfl) rfl ?_ | refine wO rfl rfl ?_))
      refine VO.cond rfl ⟨by omega, by omega⟩ ?_
      refine wV rfl ?_
      (repeat (first | refine wN ?_ | refine wP rfl ?_ | refine cx_r rfl ?_ | refine cx_d (by kernel_rfl) rfl ?_ | refine wO rfl rfl ?_))
      refine VO.peek rfl ([.bool s, .slice p xs.length c, .bool t, .slice r ys.length d].map .val) rfl (row_peek (rawE_ok 2) hrow [] hcs) (wV rfl ?_)
      (repeat (first | refine wN ?_ | refine wP rfl ?_ | refine cx_r rfl ?_ | refine cx_d (by kernel_rfl) rfl ?_ | refine wO rfl rfl ?_))
      refine VO.cond rfl ⟨(by first | exact Int.le_refl _ | omega | (simp; done) | (simp; omega)), (by first | exact Int.le_refl _ | omega | (simp; done) | (simp; omega)), (by first | exact Int.le_refl _ | omega | (simp; done) | (simp; omega)), (by first | exact Int.le_refl _ | omega | (simp; done) | (simp; omega))⟩ (wV rfl ?_)
      refine VO.fix 81 rfl (show _ = AV.row 61 (z * 4) (5 - z) (5 - z) by simp; omega) ?_
      (repeat (first | refine wN ?_ | refine wP rfl ?_ | refine cx_r rfl ?_ | refine cx_d (by kernel_rfl) rfl ?_ | refine wO rfl rfl ?_))
      refine VO.callF rfl (fk Tryz.func7) (fun wa31 β ka31 ba31 ho => (roundPlaces_any _ _ xs ys _ _ _ (es.drop z) 2 wa31 (hraw.kp (by (with_reducible (repeat (first | assumption | exact kU _ | exact kR _ | exact Kp.of (U := UU) (by assumption) | exact KpS.of (by assumption) | refine kT ?_ (by assumption)))))) ((ownV_sl (rawE_ok 2) (ho.own 61 (.base (by simp [idsOf, AV.ids])) _ _ rfl) [] rfl (hrow.kp (rawE_ok 2) (by (with_reducible (repeat (first | assumption | exact kU _ | exact kR _ | exact Kp.of (U := UU) (by assumption) | exact KpS.of (by assumption) | refine kT ?_ (by assumption)))))) hes.symm (Nat.le_refl _) (by omega)).drop (by omega))).mono ?_)
      rintro e w31 ⟨rfl, hb31⟩
      refine ⟨_, rfl, hb31, fun kb31 _ bb31 => wV rfl ?_⟩
      (repeat (first | refine wN ?_ | refine wP rfl ?_ | refine cx_r rfl ?_ | refine cx_d (by kernel_rfl) rfl ?_ | refine wO rfl rfl ?_))
      refine VS.back (5 - (z + 1)) (by omega) ⟨_, _, ?_, ?_, ?_, ?_, ⟨z + 1, by omega, rfl, rfl, rfl, hrow.kp (rawE_ok 2) (by (with_reducible (repeat (first | assumption | exact kU _ | exact kR _ | exact Kp.of (U := UU) (by assumption) | exact KpS.of (by assumption) | refine kT ?_ (by assumption)))))⟩⟩
      · refine ⟨rfl, ?_, trivial⟩
        rw [← nat_step (i := z) (by omega)]; rfl
      · (repeat (first | exact trivial | refine ⟨rfl, ?_⟩))
      · rfl
      · exact ⟨.append (.vals _) (.none rfl), trivial⟩
    · refine VS.condN rfl (decide_eq_false (show ¬ (z : Int) < ((5 : Nat) : Int) by omega)) ?_
      (repeat (first | refine wN ?_ | refine wP rfl ?_ | refine cx_r rfl ?_ | refine cx_d (by kernel_rfl) rfl ?_ | refine wO rfl rfl ?_))
      refine VS.loop (J := fun m L M w' => ∃ z : Nat, z ≤ 7 ∧ m = 7 - z ∧ L = [(85, .row 85 0 7 7), (86, .val (.int .i64 ((7 : Nat) : Int))), (87, .val (.int .i64 (z : Int)))] ∧ M = [(85, (3, ([-1, 0, 1, 39, 40, 41, -9223372036854775808] : List Int).map fun n => AV.val (.int .i64 n)))]) 7 ⟨_, _, ?_, ?_, ?_, ?_, ⟨0, by omega, rfl, rfl, rfl⟩⟩ ?_
      · (repeat (first | exact trivial | refine ⟨rfl, ?_⟩))
      · (repeat (first | exact trivial | refine ⟨rfl, ?_⟩))
      · rfl
      · exact ⟨.none rfl, trivial⟩
      rintro m L M w4 ⟨x, hx, rfl, rfl, rfl⟩
      (repeat (first | refine wN ?_ | refine wP rfl ?_ | refine cx_r rfl ?_ | refine cx_d (by kernel_rfl) rfl ?_ | refine wO rfl rfl ?_))
      by_cases hx7 : x < 7
      · obtain ⟨n, hn⟩ : ∃ n, ([-1, 0, 1, 39, 40, 41, -9223372036854775808] : List Int)[x]? = some n := ⟨_, List.getElem?_eq_getElem (by simpa using hx7)⟩
        refine VS.condY rfl (decide_eq_true (show (x : Int) < ((7 : Nat) : Int) by omega)) ?_
        (repeat (first | refine wN ?_ | refine wP rfl ?_ | refine cx_r rfl ?_ | refine cx_d (by kernel_rfl) rfl ?_ | refine wO rfl rfl ?_))
        refine VO.cond rfl ⟨by omega, by omega⟩ ?_
        refine wV rfl ?_
        (repeat (first | refine wN ?_ | refine wP rfl ?_ | refine cx_r rfl ?_ | refine cx_d (by kernel_rfl) rfl ?_ | refine wO rfl rfl ?_))
        refine VO.peek rfl [.val (.int .i64 n)] rfl (fun j u hj => by
          match j, hj with
          | 0, hj =>
            cases hj
            rw [Int.toNat_natCast, Nat.zero_add, Nat.mul_one, Nat.add_zero, List.getElem?_map, hn]; rfl
          | (j + 1), hj => cases hj) (wV rfl ?_)
        (repeat (first | refine wN ?_ | refine wP rfl ?_ | refine cx_r rfl ?_ | refine cx_d (by kernel_rfl) rfl ?_ | refine wO rfl rfl ?_))
        refine VO.call rfl rfl (fk Tryz.func86) (fun wa40 ka40 ba40 => (of05_any 2 7 wa40 (by omega) (by omega) (by omega) (by omega)).mono ?_)
        rintro e w40 ⟨r40, rfl, q40, hb40⟩
        obtain ⟨s40, p40, n40, c40, t40, y40, m40, d40, rfl⟩ := q40.form
        refine ⟨_, rfl, hb40, fun kb40 _ bb40 => wV rfl ?_⟩
        (repeat (first | refine wN ?_ | refine wP rfl ?_ | refine cx_r rfl ?_ | refine cx_d (by kernel_rfl) rfl ?_ | refine wO rfl rfl ?_))
        obtain ⟨xs, ys, hx, _⟩ := q40.rd.rawE (i64_rsz (n := 2) (d := 7) (by omega) (by omega) (by omega) (by omega))
        refine VO.call rfl rfl (fk Tryz.func7) (fun wa41 ka41 ba41 => (roundPlaces_any _ _ xs ys _ _ n [] 2 wa41 (hx.kp (by (with_reducible (repeat (first | assumption | exact kU _ | exact kR _ | exact Kp.of (U := UU) (by assumption) | exact KpS.of (by assumption) | refine kT ?_ (by assumption)))))) (SlIn.nil _ _ _)).mono ?_)
        rintro e w41 ⟨rfl, hb41⟩
        skip
        refine ⟨_, rfl, hb41, fun kb41 _ bb41 => wV rfl ?_⟩
        (repeat (first | refine wN ?_ | refine wP rfl ?_ | refine cx_r rfl ?_ | refine cx_d (by kernel_rfl) rfl ?_ | refine wO rfl rfl ?_))
        refine VS.back (7 - (x + 1)) (by omega) ⟨_, _, ?_, ?_, ?_, ?_, ⟨x + 1, by omega, rfl, rfl, rfl⟩⟩
        · refine ⟨rfl, rfl, ?_, trivial⟩
          rw [← nat_step (i := x) (by omega)]; rfl
        · (repeat (first | exact trivial | refine ⟨rfl, ?_⟩))
        · rfl
        · exact ⟨.none rfl, trivial⟩
      · refine VS.condN rfl (decide_eq_false (show ¬ (x : Int) < ((7 : Nat) : Int) by omega)) ?_
        (repeat (first | refine wN ?_ | refine wP rfl ?_ | refine cx_r rfl ?_ | refine cx_d (by kernel_rfl) rfl ?_ | refine wO rfl rfl ?_))
        refine VO.call rfl rfl (fk Tryz.func47) (fun wa50 ka50 ba50 => (works05_any wa50).mono ?_)
        rintro e w50 ⟨rfl, hb50⟩
        skip
        refine ⟨_, rfl, hb50, fun kb50 _ bb50 => wV rfl ?_⟩
        (repeat (first | refine wN ?_ | refine wP rfl ?_ | refine cx_r rfl ?_ | refine cx_d (by kernel_rfl) rfl ?_ | refine wO rfl rfl ?_))
        refine VS.ret (cx_ok _ _) rfl rfl (fun wz kz bz => ?_)
        exact ⟨rfl, bz⟩
end Go.Proofs.YtkafabgcdlfhiaaGreat
