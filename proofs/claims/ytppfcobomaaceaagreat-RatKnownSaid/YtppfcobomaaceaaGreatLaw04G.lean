/- RatRows: what a row of fractions comes to. -/
import Derived.Test.YtppfcobomaaceaaGreatLaw04D
namespace Go.Proofs.YtppfcobomaaceaaGreat
open Go.RowKit
attribute [local irreducible] vcOps VS

theorem RatRow.ok {w : World} {k : Nat} {qs : List Rat} {vs : List (List Value)} (h : RatRow w k qs vs) : vs.flatten.all okCell = true ∧ vs.flatten.length = qs.length * 4 := by
  induction h with
  | nil => exact ⟨rfl, rfl⟩
  | cons _ _ ih =>
    refine ⟨?_, ?_⟩
    · rw [List.flatten_cons, List.all_append, ih.1]; rfl
    · rw [List.flatten_cons, List.length_append, ih.2]; simp; omega
/-- the first fractions of a slice have at most two limbs above, and below -/
def RatsUp (w : World) (p : Option Addr) (qs : List Rat) (i : Nat) : Prop := ∀ (j : Nat) (q : Rat), j < i → qs[j]? = some q → ∃ b off s p' n' c' t r m d, p = some ⟨b, off, none⟩ ∧
    (∀ j' u, [Value.bool s, .slice p' n' c', .bool t, .slice r m d][j']? = some u → w.cell? ⟨b, off + j * 4 + j', none⟩ = some u) ∧ RatIn w (.agg #[.bool s, .slice p' n' c', .bool t, .slice r m d]) q 2
theorem RatsUp.all {w : World} {p : Option Addr} {qs : List Rat} {n c : Nat} (h : RatsUp w p qs n) (hn : n = qs.length) (hc : n ≤ c) (hm : c ≤ maxLen) : RatsIn w (.slice p n c) qs 2 := by
  subst hn
  exact ⟨p, c, rfl, hc, hm, fun i q hq => h i q (List.getElem?_eq_some_iff.1 hq).1 hq⟩
theorem RatsIn.nil (w : World) (k : Nat) : RatsIn w (.slice none 0 0) [] k := ⟨none, 0, rfl, Nat.le_refl _, by decide, fun i q hq => by simp at hq⟩
theorem RatRow.snoc {w : World} {k : Nat} {qs : List Rat} {vs : List (List Value)} (h : RatRow w k qs vs) {s : Bool} {p : Option Addr} {n c : Nat} {t : Bool} {r : Option Addr} {m d : Nat} {q : Rat} (hq : RatIn w (.agg #[.bool s, .slice p n c, .bool t, .slice r m d]) q k) : RatRow w k (qs ++ [q]) (vs ++ [[.bool s, .slice p n c, .bool t, .slice r m d]]) := h.append (.cons hq .nil)

set_option maxRecDepth 4000 in
set_option maxHeartbeats 8000000 in
theorem ratRows_any (s t : Bool) (xs ys : List Nat) (v u : Value) (qs : List Rat) (kk : Nat) (w : World) (hv : RatRaw w v s xs t ys) (hu : RatsIn w u qs kk) :
    Calls Tryz.prog 4 #[v, u] w fun e w' => e = .returned (.bool true) ∧ Beh w w' := by
  have hAr := hv
  obtain ⟨ap, ac, ar, ad, rfl, _, _⟩ := hv
  obtain ⟨p, c, rfl, hnc, hcm⟩ := hu.form
  obtain ⟨N, hN⟩ : ∃ N, N = qs.length := ⟨_, rfl⟩
  rw [← hN] at hu hnc ⊢
  refine calm_enter (C := cxOf Tryz.prog w _) (args := [_, _]) Tryz.func4 rfl Tryz.ntmps4 (Nat.le_of_ble_eq_true rfl) ?_
  (repeat (first | refine wN ?_ | refine wQ ?_ | refine cx_r rfl ?_ | refine cx_d (by kernel_rfl) rfl ?_ | refine wO rfl rfl ?_ | refine wT rfl ?_ | refine wF rfl ?_ | refine wB ?_ | refine wK ?_ | refine wE rfl ?_ | refine wS ?_))
  by_cases hN6 : N ≤ 6
  · refine VO.fix 11 rfl (congrArg (fun b => AV.val (.bool b)) (decide_eq_false (show ¬ ((N : Int) > 6) by omega))) ?_
    (repeat (first | refine wN ?_ | refine wQ ?_ | refine cx_r rfl ?_ | refine cx_d (by kernel_rfl) rfl ?_ | refine wO rfl rfl ?_ | refine wT rfl ?_ | refine wF rfl ?_ | refine wB ?_ | refine wK ?_ | refine wE rfl ?_ | refine wS ?_))
    refine VO.call rfl rfl ⟨_, Tryz.func7, by kernel_rfl, by kernel_rfl⟩ (fun wa1 ka1 ba1 => (few04_any s t xs ys _ 2 wa1 (hAr.kp (Kp.of (U := UU) ba1))).mono ?_)
    rintro e w1 ⟨rfl, hb1⟩
    by_cases hfa : xs.length ≤ 2 ∧ ys.length ≤ 2
    · rw [decide_eq_true hfa]
      refine ⟨_, rfl, hb1, fun kb1 _ bb1 => wV rfl ?_⟩
      (repeat (first | refine wN ?_ | refine wQ ?_ | refine cx_r rfl ?_ | refine cx_d (by kernel_rfl) rfl ?_ | refine wO rfl rfl ?_ | refine wT rfl ?_ | refine wF rfl ?_ | refine wB ?_ | refine wK ?_ | refine wE rfl ?_ | refine wS ?_))
      have hA := hAr.in hfa.1 hfa.2
      obtain ⟨q0, hq0⟩ : ∃ q, q = rq s xs t ys := ⟨_, rfl⟩
      rw [← hq0] at hA
      refine VO.call rfl rfl ⟨_, Tryz.func9, by kernel_rfl, by kernel_rfl⟩ (fun wa2 ka2 ba2 => (ref04_any s t xs ys _ wa2 (hAr.kp (Kp.of (U := UU) ba2)) (by omega) (by omega)).mono ?_)
      rintro e w2 ⟨r2, rfl, q2, hb2⟩
      obtain ⟨p2, c2, y2, d2, rfl, _⟩ := q2.form'
      refine ⟨_, rfl, hb2, fun kb2 _ bb2 => wV rfl ?_⟩
      (repeat (first | refine wN ?_ | refine wQ ?_ | refine cx_r rfl ?_ | refine cx_d (by kernel_rfl) rfl ?_ | refine wO rfl rfl ?_ | refine wT rfl ?_ | refine wF rfl ?_ | refine wB ?_ | refine wK ?_ | refine wE rfl ?_ | refine wS ?_))
      refine VS.loop (J := fun m L M w' => ∃ z : Nat, z ≤ N ∧ m = N - z ∧ RatsUp w p qs z ∧ RatRaw w' (.agg #[.bool s, .slice p2 xs.length c2, .bool t, .slice y2 ys.length d2]) s xs t ys ∧
        ((z = 0 ∧ L = [(1, .val (.slice p N c)), (2, .box 2 0), (5, .val (.slice none 0 0)), (6, .row 19 0 1 1), (7, .val (.int .i64 (z : Int)))] ∧
          M = [(2, (26, ([.bool s, .slice ap xs.length ac, .bool t, .slice ar ys.length ad] : List Value).map .val)), (19, (31, ([.bool s, .slice p2 xs.length c2, .bool t, .slice y2 ys.length d2] : List Value).map .val))]) ∨
        (0 < z ∧ ∃ vs spare cap, L = [(1, .val (.slice p N c)), (2, .box 2 0), (5, .row 40 0 z cap), (6, .row 19 0 1 1), (7, .val (.int .i64 (z : Int)))] ∧
          M = [(2, (26, ([.bool s, .slice ap xs.length ac, .bool t, .slice ar ys.length ad] : List Value).map .val)), (19, (31, ([.bool s, .slice p2 xs.length c2, .bool t, .slice y2 ys.length d2] : List Value).map .val)), (40, (31, vs.flatten.map .val ++ spare))] ∧
          RatRow w' 2 (qs.take z) vs ∧ (vs.flatten.map AV.val ++ spare).length = cap * 4 ∧ z ≤ cap ∧ cap ≤ 9223372036854775807 ∧ spare.all okLeaf = true ∧ lidsOf spare = []))) N ⟨_, _, ?_, ?_, ?_, ?_, ⟨0, by omega, rfl, fun j q hj => absurd hj (by omega), q2, .inl ⟨rfl, rfl, rfl⟩⟩⟩ ?_
      · (repeat (first | exact trivial | refine ⟨rfl, ?_⟩))
      · (repeat (first | exact trivial | refine ⟨rfl, ?_⟩))
      · rfl
      · (repeat (first | exact trivial | refine ⟨ClosedC.lit rfl, ?_⟩ | refine ⟨ClosedC.vals _, ?_⟩))
      rintro m L M wJ ⟨z, hz, rfl, hup, hxJ, ⟨rfl, rfl, rfl⟩ | ⟨hz0, vs, spare, cap, rfl, rfl, hrow, hlen, hzc, hcc, hsok, hsl⟩⟩
      ·
        --ROUND0
        (repeat (first | refine wN ?_ | refine wQ ?_ | refine cx_r rfl ?_ | refine cx_d (by kernel_rfl) rfl ?_ | refine wO rfl rfl ?_ | refine wT rfl ?_ | refine wF rfl ?_ | refine wB ?_ | refine wK ?_ | refine wE rfl ?_ | refine wS ?_))
        by_cases hlt : (0 : Nat) < N
        · obtain ⟨q, hq⟩ : ∃ q, qs[(0 : Nat)]? = some q := ⟨_, List.getElem?_eq_getElem (by omega)⟩
          obtain ⟨b, off, s3, p3, n3, c3, t3, r3, m3, d3, rfl, hc, hin⟩ := hu.at hq
          obtain ⟨s4, xs4, t4, ys4, hraw, hq4, _, _⟩ := hin
          refine VS.condY rfl (decide_eq_true (Int.ofNat_lt.2 hlt)) ?_
          (repeat (first | refine wN ?_ | refine wQ ?_ | refine cx_r rfl ?_ | refine cx_d (by kernel_rfl) rfl ?_ | refine wO rfl rfl ?_ | refine wT rfl ?_ | refine wF rfl ?_ | refine wB ?_ | refine wK ?_ | refine wE rfl ?_ | refine wS ?_))
          refine VO.cond rfl ⟨by omega, by omega⟩ (wV rfl ?_)
          refine VO.read rfl [.bool s3, .slice p3 n3 c3, .bool t3, .slice r3 m3 d3] rfl (fun j u hj => by rw [Addr.add_mid, Int.toNat_natCast]; exact hc j u hj) (wV rfl ?_)
          refine VO.call rfl rfl ⟨_, Tryz.func7, by kernel_rfl, by kernel_rfl⟩ (fun wa11 ka11 ba11 => (few04_any s4 t4 xs4 ys4 _ 2 wa11 (hraw.kp (Kp.of (U := UU) ba11))).mono ?_)
          rintro e w11 ⟨rfl, hb11⟩
          by_cases hfe : xs4.length ≤ 2 ∧ ys4.length ≤ 2
          · rw [decide_eq_true hfe]
            refine ⟨_, rfl, hb11, fun kb11 _ bb11 => wV rfl ?_⟩
            (repeat (first | refine wN ?_ | refine wQ ?_ | refine cx_r rfl ?_ | refine cx_d (by kernel_rfl) rfl ?_ | refine wO rfl rfl ?_ | refine wT rfl ?_ | refine wF rfl ?_ | refine wB ?_ | refine wK ?_ | refine wE rfl ?_ | refine wS ?_))
            refine VO.cond rfl ⟨by omega, by omega⟩ (wV rfl ?_)
            refine VO.read rfl [.bool s3, .slice p3 n3 c3, .bool t3, .slice r3 m3 d3] rfl (fun j u hj => by rw [Addr.add_mid, Int.toNat_natCast]; exact hc j u hj) (wV rfl ?_)
            refine VO.call rfl rfl ⟨_, Tryz.func9, by kernel_rfl, by kernel_rfl⟩ (fun wa12 ka12 ba12 => (ref04_any s4 t4 xs4 ys4 _ wa12 (hraw.kp (Kp.of (U := UU) ba12)) (by omega) (by omega)).mono ?_)
            rintro e w12 ⟨r12, rfl, q12, hb12⟩
            obtain ⟨p12, c12, y12, d12, rfl, _⟩ := q12.form'
            refine ⟨_, rfl, hb12, fun kb12 _ bb12 => wV rfl ?_⟩
            (repeat (first | refine wN ?_ | refine wQ ?_ | refine cx_r rfl ?_ | refine cx_d (by kernel_rfl) rfl ?_ | refine wO rfl rfl ?_ | refine wT rfl ?_ | refine wF rfl ?_ | refine wB ?_ | refine wK ?_ | refine wE rfl ?_ | refine wS ?_))
            have hI : RatIn w12 (.agg #[.bool s4, .slice p12 xs4.length c12, .bool t4, .slice y12 ys4.length d12]) q 2 := hq4 ▸ q12.in hfe.1 hfe.2
            refine VO.app (cx_ok _ _) (t := 53) (e := 31) (sz := 4) (n := 0) (c := 0) (mm := 1) (known := []) (spare := []) (news := [Value.bool s4, .slice p12 xs4.length c12, .bool t4, .slice y12 ys4.length d12].map .val) (dst := 40) (del := none) rfl rfl rfl rfl rfl rfl rfl rfl (Nat.le_of_ble_eq_true rfl) rfl (.inl ⟨rfl, rfl, rfl, rfl, rfl, rfl, by omega⟩) (.inl rfl) rfl rfl (by omega) (by omega) ⟨rfl, rfl, rfl⟩ ⟨rfl, rfl, rfl⟩ rfl (by omega)
              (fun w1 β k1 b1 ho => ⟨_, _, rfl, .inr ⟨β 39, 0, rfl, own_src (rest := []) (ho.own 39 (.base (List.mem_append_right _ (List.mem_singleton.2 rfl))) _ _ rfl) rfl⟩⟩)
              (fun w13 cap' spare' ρ k13 b13 hρ hc1 hc2 hlen' hok' hlid' => wV rfl ?_)
            (repeat (first | refine wN ?_ | refine wQ ?_ | refine cx_r rfl ?_ | refine cx_d (by kernel_rfl) rfl ?_ | refine wO rfl rfl ?_ | refine wT rfl ?_ | refine wF rfl ?_ | refine wB ?_ | refine wK ?_ | refine wE rfl ?_ | refine wS ?_))
            have hrow' : RatRow w13 2 (qs.take ((0 : Nat) + 1)) [[Value.bool s4, .slice p12 xs4.length c12, .bool t4, .slice y12 ys4.length d12]] := by
              rw [take_snoc_at hq]
              exact .cons (hI.kp k13) .nil
            have hup' : RatsUp w (some ⟨b, off, none⟩) qs ((0 : Nat) + 1) := by
              intro j q' hj hq'
              rcases Nat.lt_succ_iff_lt_or_eq.1 hj with h | h
              · exact hup j q' h hq'
              · subst h; rw [hq] at hq'; cases hq'; exact ⟨_, _, _, _, _, _, _, _, _, _, rfl, hc, hq4 ▸ hraw.in hfe.1 hfe.2⟩
            refine VS.back (N - ((0 : Nat) + 1)) (by omega) ⟨_, _, ?_, ?_, ?_, ?_, ⟨(0 : Nat) + 1, by omega, rfl, hup', hxJ.kp (by (with_reducible (repeat (first | assumption | exact kR _ | refine kT ?_ (by assumption))))), .inr ⟨by omega, [[Value.bool s4, .slice p12 xs4.length c12, .bool t4, .slice y12 ys4.length d12]], spare', cap', rfl, rfl, hrow', ?_, by omega, hc2, hok', hlid'⟩⟩⟩
            · refine ⟨rfl, rfl, rfl, rfl, ?_, trivial⟩
              rfl
            · exact ⟨rfl, rfl, rfl, trivial⟩
            · rfl
            · exact ⟨ClosedC.vals _, ClosedC.vals _, .append (.vals _) (.none hlid'), trivial⟩
            · simpa using hlen'
          · rw [decide_eq_false hfe]
            refine ⟨_, rfl, hb11, fun kb11 _ bb11 => wV rfl ?_⟩
            (repeat (first | refine wN ?_ | refine wQ ?_ | refine cx_r rfl ?_ | refine cx_d (by kernel_rfl) rfl ?_ | refine wO rfl rfl ?_ | refine wT rfl ?_ | refine wF rfl ?_ | refine wB ?_ | refine wK ?_ | refine wE rfl ?_ | refine wS ?_))
            refine VO.call rfl rfl ⟨_, Tryz.func8, by kernel_rfl, by kernel_rfl⟩ (fun wa12 ka12 ba12 => (works04_any wa12).mono ?_)
            rintro e w12 ⟨rfl, hb12⟩
            skip
            refine ⟨_, rfl, hb12, fun kb12 _ bb12 => wV rfl ?_⟩
            (repeat (first | refine wN ?_ | refine wQ ?_ | refine cx_r rfl ?_ | refine cx_d (by kernel_rfl) rfl ?_ | refine wO rfl rfl ?_ | refine wT rfl ?_ | refine wF rfl ?_ | refine wB ?_ | refine wK ?_ | refine wE rfl ?_ | refine wS ?_))
            refine VS.ret (cx_ok _ _) rfl rfl (fun wz kz bz => ?_)
            exact ⟨rfl, bz⟩
        · refine VS.condN rfl (decide_eq_false (fun e => hlt (Int.ofNat_lt.1 e))) ?_
          obtain rfl : N = 0 := by omega
          (repeat (first | refine wN ?_ | refine wQ ?_ | refine cx_r rfl ?_ | refine cx_d (by kernel_rfl) rfl ?_ | refine wO rfl rfl ?_ | refine wT rfl ?_ | refine wF rfl ?_ | refine wB ?_ | refine wK ?_ | refine wE rfl ?_ | refine wS ?_))
          have hA2 : RatIn wJ (.agg #[.bool s, .slice p2 xs.length c2, .bool t, .slice y2 ys.length d2]) q0 2 := hq0 ▸ hxJ.in hfa.1 hfa.2
          obtain rfl : qs = [] := List.length_eq_zero_iff.1 hN.symm
          have hall : RatsIn w (.slice p 0 c) [] 2 := hup.all rfl hnc (by simpa [maxLen] using hcm)
          refine VO.app (cx_ok _ _) (t := 53) (e := 31) (sz := 4) (n := 1) (c := 1) (mm := 0) (known := [Value.bool s, .slice p2 xs.length c2, .bool t, .slice y2 ys.length d2].map .val) (spare := []) (news := []) (dst := 43) (del := some 19) rfl rfl rfl rfl rfl rfl rfl rfl (Nat.le_of_ble_eq_true rfl) rfl (.inr ⟨19, rfl, rfl, rfl⟩) (.inl rfl) rfl rfl (by omega) (by omega) ⟨rfl, rfl, rfl⟩ ⟨rfl, rfl, rfl⟩ rfl (by omega)
            (fun w1 β k1 b1 ho => ⟨none, 0, rfl, .inl ⟨rfl, rfl⟩⟩)
            (fun w20 cap' spare' ρ k20 b20 hρ hc1 hc2 hlen' hok' hlid' => wV rfl ?_)
          (repeat (first | refine wN ?_ | refine wQ ?_ | refine cx_r rfl ?_ | refine cx_d (by kernel_rfl) rfl ?_ | refine wO rfl rfl ?_ | refine wT rfl ?_ | refine wF rfl ?_ | refine wB ?_ | refine wK ?_ | refine wE rfl ?_ | refine wS ?_))
          have hl6 : ([] : List Rat).length ≤ 6 := by simp
          have hz6 : stepSz 2 ([] : List Rat).length ≤ 19 := stepSz_le hl6
          have hl9 : ([] : List Rat).length < 9223372036854775806 := by omega
          refine VO.call rfl rfl ⟨_, Tryz.func30, by kernel_rfl, by kernel_rfl⟩ (fun wa21 ka21 ba21 => (ratSum_any _ [] 2 wa21 (hall.beh ba21) (Nat.le_trans hz6 (by omega))).mono ?_)
          rintro e w21 ⟨r21, rfl, q21, z21, hb21⟩
          obtain ⟨s21, p21, n21, c21, t21, y21, m21, d21, rfl⟩ := q21.form
          refine ⟨_, rfl, hb21, fun kb21 _ bb21 => wV rfl ?_⟩
          (repeat (first | refine wN ?_ | refine wQ ?_ | refine cx_r rfl ?_ | refine cx_d (by kernel_rfl) rfl ?_ | refine wO rfl rfl ?_ | refine wT rfl ?_ | refine wF rfl ?_ | refine wB ?_ | refine wK ?_ | refine wE rfl ?_ | refine wS ?_))
          refine VO.call rfl rfl ⟨_, Tryz.func31, by kernel_rfl, by kernel_rfl⟩ (fun wa22 ka22 ba22 => (q04Sum_any _ [] 2 wa22 (RatsIn.nil _ _) (Nat.le_trans hz6 (by omega))).mono ?_)
          rintro e w22 ⟨r22, rfl, q22, z22, hb22⟩
          obtain ⟨s22, p22, n22, c22, t22, y22, m22, d22, rfl⟩ := q22.form
          refine ⟨_, rfl, hb22, fun kb22 _ bb22 => wV rfl ?_⟩
          (repeat (first | refine wN ?_ | refine wQ ?_ | refine cx_r rfl ?_ | refine cx_d (by kernel_rfl) rfl ?_ | refine wO rfl rfl ?_ | refine wT rfl ?_ | refine wF rfl ?_ | refine wB ?_ | refine wK ?_ | refine wE rfl ?_ | refine wS ?_))
          refine VO.call rfl rfl ⟨_, Tryz.func16, by kernel_rfl, by kernel_rfl⟩ (fun wa23 ka23 ba23 => (is04_any (rsum []) _ _ wa23 (q21.kp (by (with_reducible (repeat (first | assumption | exact kR _ | refine kT ?_ (by assumption)))))).rd (q22.kp (by (with_reducible (repeat (first | assumption | exact kR _ | refine kT ?_ (by assumption)))))).rd).mono ?_)
          rintro e w23 ⟨rfl, hb23⟩
          skip
          refine ⟨_, rfl, hb23, fun kb23 _ bb23 => wV rfl ?_⟩
          (repeat (first | refine wN ?_ | refine wQ ?_ | refine cx_r rfl ?_ | refine cx_d (by kernel_rfl) rfl ?_ | refine wO rfl rfl ?_ | refine wT rfl ?_ | refine wF rfl ?_ | refine wB ?_ | refine wK ?_ | refine wE rfl ?_ | refine wS ?_))
          refine VO.call rfl rfl ⟨_, Tryz.func32, by kernel_rfl, by kernel_rfl⟩ (fun wa24 ka24 ba24 => (ratProduct_any _ [] 2 wa24 (hall.beh ba24) (Nat.le_trans hz6 (by omega))).mono ?_)
          rintro e w24 ⟨r24, rfl, q24, z24, hb24⟩
          obtain ⟨s24, p24, n24, c24, t24, y24, m24, d24, rfl⟩ := q24.form
          refine ⟨_, rfl, hb24, fun kb24 _ bb24 => wV rfl ?_⟩
          (repeat (first | refine wN ?_ | refine wQ ?_ | refine cx_r rfl ?_ | refine cx_d (by kernel_rfl) rfl ?_ | refine wO rfl rfl ?_ | refine wT rfl ?_ | refine wF rfl ?_ | refine wB ?_ | refine wK ?_ | refine wE rfl ?_ | refine wS ?_))
          refine VO.call rfl rfl ⟨_, Tryz.func33, by kernel_rfl, by kernel_rfl⟩ (fun wa25 ka25 ba25 => (q04Product_any _ [] 2 wa25 (RatsIn.nil _ _) (Nat.le_trans hz6 (by omega))).mono ?_)
          rintro e w25 ⟨r25, rfl, q25, z25, hb25⟩
          obtain ⟨s25, p25, n25, c25, t25, y25, m25, d25, rfl⟩ := q25.form
          refine ⟨_, rfl, hb25, fun kb25 _ bb25 => wV rfl ?_⟩
          (repeat (first | refine wN ?_ | refine wQ ?_ | refine cx_r rfl ?_ | refine cx_d (by kernel_rfl) rfl ?_ | refine wO rfl rfl ?_ | refine wT rfl ?_ | refine wF rfl ?_ | refine wB ?_ | refine wK ?_ | refine wE rfl ?_ | refine wS ?_))
          refine VO.call rfl rfl ⟨_, Tryz.func16, by kernel_rfl, by kernel_rfl⟩ (fun wa26 ka26 ba26 => (is04_any (rprod []) _ _ wa26 (q24.kp (by (with_reducible (repeat (first | assumption | exact kR _ | refine kT ?_ (by assumption)))))).rd (q25.kp (by (with_reducible (repeat (first | assumption | exact kR _ | refine kT ?_ (by assumption)))))).rd).mono ?_)
          rintro e w26 ⟨rfl, hb26⟩
          skip
          refine ⟨_, rfl, hb26, fun kb26 _ bb26 => wV rfl ?_⟩
          (repeat (first | refine wN ?_ | refine wQ ?_ | refine cx_r rfl ?_ | refine cx_d (by kernel_rfl) rfl ?_ | refine wO rfl rfl ?_ | refine wT rfl ?_ | refine wF rfl ?_ | refine wB ?_ | refine wK ?_ | refine wE rfl ?_ | refine wS ?_))
          refine VO.call rfl rfl ⟨_, Tryz.func34, by kernel_rfl, by kernel_rfl⟩ (fun wa27 ka27 ba27 => (ratMin_any _ _ q0 [] 2 wa27 (hA.kp (Kp.of (U := UU) ba27)) (hall.beh ba27) (by omega) (Nat.lt_succ_of_lt hl9)).mono ?_)
          rintro e w27 ⟨r27, rfl, q27, z27, hb27⟩
          obtain ⟨s27, p27, n27, c27, t27, y27, m27, d27, rfl⟩ := q27.form
          refine ⟨_, rfl, hb27, fun kb27 _ bb27 => wV rfl ?_⟩
          (repeat (first | refine wN ?_ | refine wQ ?_ | refine cx_r rfl ?_ | refine cx_d (by kernel_rfl) rfl ?_ | refine wO rfl rfl ?_ | refine wT rfl ?_ | refine wF rfl ?_ | refine wB ?_ | refine wK ?_ | refine wE rfl ?_ | refine wS ?_))
          refine VO.callF rfl ⟨_, Tryz.func35, by kernel_rfl, by kernel_rfl⟩ (fun wa28 β ka28 ba28 ho => (q04Min_any _ q0 [] 2 wa28 (ownV_rats (vs := [[Value.bool s, .slice p2 xs.length c2, .bool t, .slice y2 ys.length d2]]) (ho.own 43 (.base (List.mem_singleton.2 rfl)) _ _ rfl) spare' (by simp) (by simp) (RatRow.cons (hA2.kp (by (with_reducible (repeat (first | assumption | exact kR _ | refine kT ?_ (by assumption)))))) .nil) hc1 (by simpa [maxLen] using hc2)) (by omega) hl9).mono ?_)
          rintro e w28 ⟨r28, rfl, q28, z28, hb28⟩
          obtain ⟨s28, p28, n28, c28, t28, y28, m28, d28, rfl⟩ := q28.form
          refine ⟨_, rfl, hb28, fun kb28 _ bb28 => wV rfl ?_⟩
          (repeat (first | refine wN ?_ | refine wQ ?_ | refine cx_r rfl ?_ | refine cx_d (by kernel_rfl) rfl ?_ | refine wO rfl rfl ?_ | refine wT rfl ?_ | refine wF rfl ?_ | refine wB ?_ | refine wK ?_ | refine wE rfl ?_ | refine wS ?_))
          refine VO.call rfl rfl ⟨_, Tryz.func16, by kernel_rfl, by kernel_rfl⟩ (fun wa29 ka29 ba29 => (is04_any (rbest rless q0 []) _ _ wa29 (q27.kp (by (with_reducible (repeat (first | assumption | exact kR _ | refine kT ?_ (by assumption)))))).rd (q28.kp (by (with_reducible (repeat (first | assumption | exact kR _ | refine kT ?_ (by assumption))))))).mono ?_)
          rintro e w29 ⟨rfl, hb29⟩
          skip
          refine ⟨_, rfl, hb29, fun kb29 _ bb29 => wV rfl ?_⟩
          (repeat (first | refine wN ?_ | refine wQ ?_ | refine cx_r rfl ?_ | refine cx_d (by kernel_rfl) rfl ?_ | refine wO rfl rfl ?_ | refine wT rfl ?_ | refine wF rfl ?_ | refine wB ?_ | refine wK ?_ | refine wE rfl ?_ | refine wS ?_))
          refine VO.call rfl rfl ⟨_, Tryz.func36, by kernel_rfl, by kernel_rfl⟩ (fun wa30 ka30 ba30 => (ratMax_any _ _ q0 [] 2 wa30 (hA.kp (Kp.of (U := UU) ba30)) (hall.beh ba30) (by omega) (Nat.lt_succ_of_lt hl9)).mono ?_)
          rintro e w30 ⟨r30, rfl, q30, z30, hb30⟩
          obtain ⟨s30, p30, n30, c30, t30, y30, m30, d30, rfl⟩ := q30.form
          refine ⟨_, rfl, hb30, fun kb30 _ bb30 => wV rfl ?_⟩
          (repeat (first | refine wN ?_ | refine wQ ?_ | refine cx_r rfl ?_ | refine cx_d (by kernel_rfl) rfl ?_ | refine wO rfl rfl ?_ | refine wT rfl ?_ | refine wF rfl ?_ | refine wB ?_ | refine wK ?_ | refine wE rfl ?_ | refine wS ?_))
          refine VO.callF rfl ⟨_, Tryz.func37, by kernel_rfl, by kernel_rfl⟩ (fun wa31 β ka31 ba31 ho => (q04Max_any _ q0 [] 2 wa31 (ownV_rats (vs := [[Value.bool s, .slice p2 xs.length c2, .bool t, .slice y2 ys.length d2]]) (ho.own 43 (.base (List.mem_singleton.2 rfl)) _ _ rfl) spare' (by simp) (by simp) (RatRow.cons (hA2.kp (by (with_reducible (repeat (first | assumption | exact kR _ | refine kT ?_ (by assumption)))))) .nil) hc1 (by simpa [maxLen] using hc2)) (by omega) hl9).mono ?_)
          rintro e w31 ⟨r31, rfl, q31, z31, hb31⟩
          obtain ⟨s31, p31, n31, c31, t31, y31, m31, d31, rfl⟩ := q31.form
          refine ⟨_, rfl, hb31, fun kb31 _ bb31 => wV rfl ?_⟩
          (repeat (first | refine wN ?_ | refine wQ ?_ | refine cx_r rfl ?_ | refine cx_d (by kernel_rfl) rfl ?_ | refine wO rfl rfl ?_ | refine wT rfl ?_ | refine wF rfl ?_ | refine wB ?_ | refine wK ?_ | refine wE rfl ?_ | refine wS ?_))
          refine VO.call rfl rfl ⟨_, Tryz.func16, by kernel_rfl, by kernel_rfl⟩ (fun wa32 ka32 ba32 => (is04_any (rbest rmore q0 []) _ _ wa32 (q30.kp (by (with_reducible (repeat (first | assumption | exact kR _ | refine kT ?_ (by assumption)))))).rd (q31.kp (by (with_reducible (repeat (first | assumption | exact kR _ | refine kT ?_ (by assumption))))))).mono ?_)
          rintro e w32 ⟨rfl, hb32⟩
          skip
          refine ⟨_, rfl, hb32, fun kb32 _ bb32 => wV rfl ?_⟩
          (repeat (first | refine wN ?_ | refine wQ ?_ | refine cx_r rfl ?_ | refine cx_d (by kernel_rfl) rfl ?_ | refine wO rfl rfl ?_ | refine wT rfl ?_ | refine wF rfl ?_ | refine wB ?_ | refine wK ?_ | refine wE rfl ?_ | refine wS ?_))
          refine VO.call rfl rfl ⟨_, Tryz.func8, by kernel_rfl, by kernel_rfl⟩ (fun wa33 ka33 ba33 => (works04_any wa33).mono ?_)
          rintro e w33 ⟨rfl, hb33⟩
          skip
          refine ⟨_, rfl, hb33, fun kb33 _ bb33 => wV rfl ?_⟩
          (repeat (first | refine wN ?_ | refine wQ ?_ | refine cx_r rfl ?_ | refine cx_d (by kernel_rfl) rfl ?_ | refine wO rfl rfl ?_ | refine wT rfl ?_ | refine wF rfl ?_ | refine wB ?_ | refine wK ?_ | refine wE rfl ?_ | refine wS ?_))
          refine VS.ret (cx_ok _ _) rfl rfl (fun wz kz bz => ?_)
          exact ⟨rfl, bz⟩
        --GENEND
      ·
        --ROUND1
        (repeat (first | refine wN ?_ | refine wQ ?_ | refine cx_r rfl ?_ | refine cx_d (by kernel_rfl) rfl ?_ | refine wO rfl rfl ?_ | refine wT rfl ?_ | refine wF rfl ?_ | refine wB ?_ | refine wK ?_ | refine wE rfl ?_ | refine wS ?_))
        by_cases hlt : z < N
        · obtain ⟨q, hq⟩ : ∃ q, qs[z]? = some q := ⟨_, List.getElem?_eq_getElem (by omega)⟩
          obtain ⟨b, off, s3, p3, n3, c3, t3, r3, m3, d3, rfl, hc, hin⟩ := hu.at hq
          obtain ⟨s4, xs4, t4, ys4, hraw, hq4, _, _⟩ := hin
          refine VS.condY rfl (decide_eq_true (Int.ofNat_lt.2 hlt)) ?_
          (repeat (first | refine wN ?_ | refine wQ ?_ | refine cx_r rfl ?_ | refine cx_d (by kernel_rfl) rfl ?_ | refine wO rfl rfl ?_ | refine wT rfl ?_ | refine wF rfl ?_ | refine wB ?_ | refine wK ?_ | refine wE rfl ?_ | refine wS ?_))
          refine VO.cond rfl ⟨by omega, by omega⟩ (wV rfl ?_)
          refine VO.read rfl [.bool s3, .slice p3 n3 c3, .bool t3, .slice r3 m3 d3] rfl (fun j u hj => by rw [Addr.add_mid, Int.toNat_natCast]; exact hc j u hj) (wV rfl ?_)
          refine VO.call rfl rfl ⟨_, Tryz.func7, by kernel_rfl, by kernel_rfl⟩ (fun wa11 ka11 ba11 => (few04_any s4 t4 xs4 ys4 _ 2 wa11 (hraw.kp (Kp.of (U := UU) ba11))).mono ?_)
          rintro e w11 ⟨rfl, hb11⟩
          by_cases hfe : xs4.length ≤ 2 ∧ ys4.length ≤ 2
          · rw [decide_eq_true hfe]
            refine ⟨_, rfl, hb11, fun kb11 _ bb11 => wV rfl ?_⟩
            (repeat (first | refine wN ?_ | refine wQ ?_ | refine cx_r rfl ?_ | refine cx_d (by kernel_rfl) rfl ?_ | refine wO rfl rfl ?_ | refine wT rfl ?_ | refine wF rfl ?_ | refine wB ?_ | refine wK ?_ | refine wE rfl ?_ | refine wS ?_))
            refine VO.cond rfl ⟨by omega, by omega⟩ (wV rfl ?_)
            refine VO.read rfl [.bool s3, .slice p3 n3 c3, .bool t3, .slice r3 m3 d3] rfl (fun j u hj => by rw [Addr.add_mid, Int.toNat_natCast]; exact hc j u hj) (wV rfl ?_)
            refine VO.call rfl rfl ⟨_, Tryz.func9, by kernel_rfl, by kernel_rfl⟩ (fun wa12 ka12 ba12 => (ref04_any s4 t4 xs4 ys4 _ wa12 (hraw.kp (Kp.of (U := UU) ba12)) (by omega) (by omega)).mono ?_)
            rintro e w12 ⟨r12, rfl, q12, hb12⟩
            obtain ⟨p12, c12, y12, d12, rfl, _⟩ := q12.form'
            refine ⟨_, rfl, hb12, fun kb12 _ bb12 => wV rfl ?_⟩
            (repeat (first | refine wN ?_ | refine wQ ?_ | refine cx_r rfl ?_ | refine cx_d (by kernel_rfl) rfl ?_ | refine wO rfl rfl ?_ | refine wT rfl ?_ | refine wF rfl ?_ | refine wB ?_ | refine wK ?_ | refine wE rfl ?_ | refine wS ?_))
            have hI : RatIn w12 (.agg #[.bool s4, .slice p12 xs4.length c12, .bool t4, .slice y12 ys4.length d12]) q 2 := hq4 ▸ q12.in hfe.1 hfe.2
            obtain ⟨hok1, hln1⟩ := hrow.ok
            have htl : (qs.take z).length = z := by rw [List.length_take]; omega
            refine VO.app (cx_ok _ _) (t := 53) (e := 31) (sz := 4) (n := z) (c := cap) (mm := 1) (known := vs.flatten.map .val) (spare := spare) (news := [Value.bool s4, .slice p12 xs4.length c12, .bool t4, .slice y12 ys4.length d12].map .val) (dst := 40) (del := some 40) rfl rfl rfl rfl rfl rfl rfl rfl (Nat.le_of_ble_eq_true rfl) rfl (.inr ⟨40, rfl, rfl, rfl⟩) (.inr rfl) (by rw [List.length_map, hln1, htl]) hlen hzc hcc ⟨lidsOf_vals _, hsl, rfl⟩ ⟨vals_ok hok1, hsok, rfl⟩ rfl (by omega)
              (fun w1 β k1 b1 ho => ⟨_, _, rfl, .inr ⟨β 39, 0, rfl, own_src (rest := []) (ho.own 39 (.base (List.mem_append_right _ (List.mem_singleton.2 rfl))) _ _ rfl) rfl⟩⟩)
              (fun w13 cap' spare' ρ k13 b13 hρ hc1 hc2 hlen' hok' hlid' => wV rfl ?_)
            (repeat (first | refine wN ?_ | refine wQ ?_ | refine cx_r rfl ?_ | refine cx_d (by kernel_rfl) rfl ?_ | refine wO rfl rfl ?_ | refine wT rfl ?_ | refine wF rfl ?_ | refine wB ?_ | refine wK ?_ | refine wE rfl ?_ | refine wS ?_))
            have hrow' : RatRow w13 2 (qs.take (z + 1)) (vs ++ [[Value.bool s4, .slice p12 xs4.length c12, .bool t4, .slice y12 ys4.length d12]]) := by
              rw [take_snoc_at hq]
              exact (hrow.kp (by (with_reducible (repeat (first | assumption | exact kR _ | refine kT ?_ (by assumption)))))).snoc (hI.kp k13)
            have hup' : RatsUp w (some ⟨b, off, none⟩) qs (z + 1) := by
              intro j q' hj hq'
              rcases Nat.lt_succ_iff_lt_or_eq.1 hj with h | h
              · exact hup j q' h hq'
              · subst h; rw [hq] at hq'; cases hq'; exact ⟨_, _, _, _, _, _, _, _, _, _, rfl, hc, hq4 ▸ hraw.in hfe.1 hfe.2⟩
            refine VS.back (N - (z + 1)) (by omega) ⟨_, _, ?_, ?_, ?_, ?_, ⟨z + 1, by omega, rfl, hup', hxJ.kp (by (with_reducible (repeat (first | assumption | exact kR _ | refine kT ?_ (by assumption))))), .inr ⟨by omega, (vs ++ [[Value.bool s4, .slice p12 xs4.length c12, .bool t4, .slice y12 ys4.length d12]]), spare', cap', rfl, rfl, hrow', ?_, by omega, hc2, hok', hlid'⟩⟩⟩
            · refine ⟨rfl, rfl, rfl, rfl, ?_, trivial⟩
              rw [← nat_step (by omega)]; rfl
            · exact ⟨rfl, rfl, congrArg (fun l => some (_, l ++ spare')) (by simp), trivial⟩
            · rfl
            · exact ⟨ClosedC.vals _, ClosedC.vals _, .append (.vals _) (.none hlid'), trivial⟩
            · simpa using hlen'
          · rw [decide_eq_false hfe]
            refine ⟨_, rfl, hb11, fun kb11 _ bb11 => wV rfl ?_⟩
            (repeat (first | refine wN ?_ | refine wQ ?_ | refine cx_r rfl ?_ | refine cx_d (by kernel_rfl) rfl ?_ | refine wO rfl rfl ?_ | refine wT rfl ?_ | refine wF rfl ?_ | refine wB ?_ | refine wK ?_ | refine wE rfl ?_ | refine wS ?_))
            refine VO.call rfl rfl ⟨_, Tryz.func8, by kernel_rfl, by kernel_rfl⟩ (fun wa12 ka12 ba12 => (works04_any wa12).mono ?_)
            rintro e w12 ⟨rfl, hb12⟩
            skip
            refine ⟨_, rfl, hb12, fun kb12 _ bb12 => wV rfl ?_⟩
            (repeat (first | refine wN ?_ | refine wQ ?_ | refine cx_r rfl ?_ | refine cx_d (by kernel_rfl) rfl ?_ | refine wO rfl rfl ?_ | refine wT rfl ?_ | refine wF rfl ?_ | refine wB ?_ | refine wK ?_ | refine wE rfl ?_ | refine wS ?_))
            refine VS.ret (cx_ok _ _) rfl rfl (fun wz kz bz => ?_)
            exact ⟨rfl, bz⟩
        · refine VS.condN rfl (decide_eq_false (fun e => hlt (Int.ofNat_lt.1 e))) ?_
          obtain rfl : z = N := by omega
          (repeat (first | refine wN ?_ | refine wQ ?_ | refine cx_r rfl ?_ | refine cx_d (by kernel_rfl) rfl ?_ | refine wO rfl rfl ?_ | refine wT rfl ?_ | refine wF rfl ?_ | refine wB ?_ | refine wK ?_ | refine wE rfl ?_ | refine wS ?_))
          have hA2 : RatIn wJ (.agg #[.bool s, .slice p2 xs.length c2, .bool t, .slice y2 ys.length d2]) q0 2 := hq0 ▸ hxJ.in hfa.1 hfa.2
          have hrowN : RatRow wJ 2 qs vs := by rw [List.take_of_length_le (by omega)] at hrow; exact hrow
          have hall : RatsIn w (.slice p z c) qs 2 := hup.all hN hnc (by simpa [maxLen] using hcm)
          obtain ⟨hok1, hln1⟩ := hrowN.ok
          refine VO.app (cx_ok _ _) (t := 53) (e := 31) (sz := 4) (n := 1) (c := 1) (mm := z) (known := [Value.bool s, .slice p2 xs.length c2, .bool t, .slice y2 ys.length d2].map .val) (spare := []) (news := vs.flatten.map .val) (dst := 43) (del := some 19) rfl rfl rfl rfl rfl rfl rfl rfl (Nat.le_of_ble_eq_true rfl) rfl (.inr ⟨19, rfl, rfl, rfl⟩) (.inl rfl) rfl rfl (by omega) (by omega) ⟨rfl, rfl, lidsOf_vals _⟩ ⟨rfl, rfl, vals_ok hok1⟩ (by rw [List.length_map, hln1, hN]) (by omega)
            (fun w1 β k1 b1 ho => ⟨_, _, rfl, .inr ⟨β 40, 0, rfl, own_src (rest := spare) (ho.own 40 (.base (List.mem_append_right _ (List.mem_singleton.2 rfl))) _ _ rfl) rfl⟩⟩)
            (fun w20 cap' spare' ρ k20 b20 hρ hc1 hc2 hlen' hok' hlid' => VO.fixH 40 rfl (fgl_none (by rw [lidsOf_append, lidsOf_vals, hsl]; rfl) _ _) (wV rfl ?_))
          (repeat (first | refine wN ?_ | refine wQ ?_ | refine cx_r rfl ?_ | refine cx_d (by kernel_rfl) rfl ?_ | refine wO rfl rfl ?_ | refine wT rfl ?_ | refine wF rfl ?_ | refine wB ?_ | refine wK ?_ | refine wE rfl ?_ | refine wS ?_))
          have hl6 : qs.length ≤ 6 := by omega
          have hz6 : stepSz 2 qs.length ≤ 19 := stepSz_le hl6
          have hl9 : qs.length < 9223372036854775806 := by omega
          refine VO.call rfl rfl ⟨_, Tryz.func30, by kernel_rfl, by kernel_rfl⟩ (fun wa21 ka21 ba21 => (ratSum_any _ qs 2 wa21 (hall.beh ba21) (Nat.le_trans hz6 (by omega))).mono ?_)
          rintro e w21 ⟨r21, rfl, q21, z21, hb21⟩
          obtain ⟨s21, p21, n21, c21, t21, y21, m21, d21, rfl⟩ := q21.form
          refine ⟨_, rfl, hb21, fun kb21 _ bb21 => wV rfl ?_⟩
          (repeat (first | refine wN ?_ | refine wQ ?_ | refine cx_r rfl ?_ | refine cx_d (by kernel_rfl) rfl ?_ | refine wO rfl rfl ?_ | refine wT rfl ?_ | refine wF rfl ?_ | refine wB ?_ | refine wK ?_ | refine wE rfl ?_ | refine wS ?_))
          refine VO.callF rfl ⟨_, Tryz.func31, by kernel_rfl, by kernel_rfl⟩ (fun wa22 β ka22 ba22 ho => (q04Sum_any _ qs 2 wa22 (ownV_rats (ho.own 40 (.base (List.mem_singleton.2 rfl)) _ _ rfl) spare rfl hN (hrowN.kp (by (with_reducible (repeat (first | assumption | exact kR _ | refine kT ?_ (by assumption)))))) hzc (by simpa [maxLen] using hcc)) (Nat.le_trans hz6 (by omega))).mono ?_)
          rintro e w22 ⟨r22, rfl, q22, z22, hb22⟩
          obtain ⟨s22, p22, n22, c22, t22, y22, m22, d22, rfl⟩ := q22.form
          refine ⟨_, rfl, hb22, fun kb22 _ bb22 => wV rfl ?_⟩
          (repeat (first | refine wN ?_ | refine wQ ?_ | refine cx_r rfl ?_ | refine cx_d (by kernel_rfl) rfl ?_ | refine wO rfl rfl ?_ | refine wT rfl ?_ | refine wF rfl ?_ | refine wB ?_ | refine wK ?_ | refine wE rfl ?_ | refine wS ?_))
          refine VO.call rfl rfl ⟨_, Tryz.func16, by kernel_rfl, by kernel_rfl⟩ (fun wa23 ka23 ba23 => (is04_any (rsum qs) _ _ wa23 (q21.kp (by (with_reducible (repeat (first | assumption | exact kR _ | refine kT ?_ (by assumption)))))).rd (q22.kp (by (with_reducible (repeat (first | assumption | exact kR _ | refine kT ?_ (by assumption)))))).rd).mono ?_)
          rintro e w23 ⟨rfl, hb23⟩
          skip
          refine ⟨_, rfl, hb23, fun kb23 _ bb23 => wV rfl ?_⟩
          (repeat (first | refine wN ?_ | refine wQ ?_ | refine cx_r rfl ?_ | refine cx_d (by kernel_rfl) rfl ?_ | refine wO rfl rfl ?_ | refine wT rfl ?_ | refine wF rfl ?_ | refine wB ?_ | refine wK ?_ | refine wE rfl ?_ | refine wS ?_))
          refine VO.call rfl rfl ⟨_, Tryz.func32, by kernel_rfl, by kernel_rfl⟩ (fun wa24 ka24 ba24 => (ratProduct_any _ qs 2 wa24 (hall.beh ba24) (Nat.le_trans hz6 (by omega))).mono ?_)
          rintro e w24 ⟨r24, rfl, q24, z24, hb24⟩
          obtain ⟨s24, p24, n24, c24, t24, y24, m24, d24, rfl⟩ := q24.form
          refine ⟨_, rfl, hb24, fun kb24 _ bb24 => wV rfl ?_⟩
          (repeat (first | refine wN ?_ | refine wQ ?_ | refine cx_r rfl ?_ | refine cx_d (by kernel_rfl) rfl ?_ | refine wO rfl rfl ?_ | refine wT rfl ?_ | refine wF rfl ?_ | refine wB ?_ | refine wK ?_ | refine wE rfl ?_ | refine wS ?_))
          refine VO.callF rfl ⟨_, Tryz.func33, by kernel_rfl, by kernel_rfl⟩ (fun wa25 β ka25 ba25 ho => (q04Product_any _ qs 2 wa25 (ownV_rats (ho.own 40 (.base (List.mem_singleton.2 rfl)) _ _ rfl) spare rfl hN (hrowN.kp (by (with_reducible (repeat (first | assumption | exact kR _ | refine kT ?_ (by assumption)))))) hzc (by simpa [maxLen] using hcc)) (Nat.le_trans hz6 (by omega))).mono ?_)
          rintro e w25 ⟨r25, rfl, q25, z25, hb25⟩
          obtain ⟨s25, p25, n25, c25, t25, y25, m25, d25, rfl⟩ := q25.form
          refine ⟨_, rfl, hb25, fun kb25 _ bb25 => wV rfl ?_⟩
          (repeat (first | refine wN ?_ | refine wQ ?_ | refine cx_r rfl ?_ | refine cx_d (by kernel_rfl) rfl ?_ | refine wO rfl rfl ?_ | refine wT rfl ?_ | refine wF rfl ?_ | refine wB ?_ | refine wK ?_ | refine wE rfl ?_ | refine wS ?_))
          refine VO.call rfl rfl ⟨_, Tryz.func16, by kernel_rfl, by kernel_rfl⟩ (fun wa26 ka26 ba26 => (is04_any (rprod qs) _ _ wa26 (q24.kp (by (with_reducible (repeat (first | assumption | exact kR _ | refine kT ?_ (by assumption)))))).rd (q25.kp (by (with_reducible (repeat (first | assumption | exact kR _ | refine kT ?_ (by assumption)))))).rd).mono ?_)
          rintro e w26 ⟨rfl, hb26⟩
          skip
          refine ⟨_, rfl, hb26, fun kb26 _ bb26 => wV rfl ?_⟩
          (repeat (first | refine wN ?_ | refine wQ ?_ | refine cx_r rfl ?_ | refine cx_d (by kernel_rfl) rfl ?_ | refine wO rfl rfl ?_ | refine wT rfl ?_ | refine wF rfl ?_ | refine wB ?_ | refine wK ?_ | refine wE rfl ?_ | refine wS ?_))
          refine VO.call rfl rfl ⟨_, Tryz.func34, by kernel_rfl, by kernel_rfl⟩ (fun wa27 ka27 ba27 => (ratMin_any _ _ q0 qs 2 wa27 (hA.kp (Kp.of (U := UU) ba27)) (hall.beh ba27) (by omega) (Nat.lt_succ_of_lt hl9)).mono ?_)
          rintro e w27 ⟨r27, rfl, q27, z27, hb27⟩
          obtain ⟨s27, p27, n27, c27, t27, y27, m27, d27, rfl⟩ := q27.form
          refine ⟨_, rfl, hb27, fun kb27 _ bb27 => wV rfl ?_⟩
          (repeat (first | refine wN ?_ | refine wQ ?_ | refine cx_r rfl ?_ | refine cx_d (by kernel_rfl) rfl ?_ | refine wO rfl rfl ?_ | refine wT rfl ?_ | refine wF rfl ?_ | refine wB ?_ | refine wK ?_ | refine wE rfl ?_ | refine wS ?_))
          refine VO.callF rfl ⟨_, Tryz.func35, by kernel_rfl, by kernel_rfl⟩ (fun wa28 β ka28 ba28 ho => (q04Min_any _ q0 qs 2 wa28 (ownV_rats (vs := ([Value.bool s, .slice p2 xs.length c2, .bool t, .slice y2 ys.length d2] :: vs)) (ho.own 43 (.base (List.mem_singleton.2 rfl)) _ _ rfl) spare' (by simp) (by simp; omega) (RatRow.cons (hA2.kp (by (with_reducible (repeat (first | assumption | exact kR _ | refine kT ?_ (by assumption)))))) (hrowN.kp (by (with_reducible (repeat (first | assumption | exact kR _ | refine kT ?_ (by assumption))))))) hc1 (by simpa [maxLen] using hc2)) (by omega) hl9).mono ?_)
          rintro e w28 ⟨r28, rfl, q28, z28, hb28⟩
          obtain ⟨s28, p28, n28, c28, t28, y28, m28, d28, rfl⟩ := q28.form
          refine ⟨_, rfl, hb28, fun kb28 _ bb28 => wV rfl ?_⟩
          (repeat (first | refine wN ?_ | refine wQ ?_ | refine cx_r rfl ?_ | refine cx_d (by kernel_rfl) rfl ?_ | refine wO rfl rfl ?_ | refine wT rfl ?_ | refine wF rfl ?_ | refine wB ?_ | refine wK ?_ | refine wE rfl ?_ | refine wS ?_))
          refine VO.call rfl rfl ⟨_, Tryz.func16, by kernel_rfl, by kernel_rfl⟩ (fun wa29 ka29 ba29 => (is04_any (rbest rless q0 qs) _ _ wa29 (q27.kp (by (with_reducible (repeat (first | assumption | exact kR _ | refine kT ?_ (by assumption)))))).rd (q28.kp (by (with_reducible (repeat (first | assumption | exact kR _ | refine kT ?_ (by assumption))))))).mono ?_)
          rintro e w29 ⟨rfl, hb29⟩
          skip
          refine ⟨_, rfl, hb29, fun kb29 _ bb29 => wV rfl ?_⟩
          (repeat (first | refine wN ?_ | refine wQ ?_ | refine cx_r rfl ?_ | refine cx_d (by kernel_rfl) rfl ?_ | refine wO rfl rfl ?_ | refine wT rfl ?_ | refine wF rfl ?_ | refine wB ?_ | refine wK ?_ | refine wE rfl ?_ | refine wS ?_))
          refine VO.call rfl rfl ⟨_, Tryz.func36, by kernel_rfl, by kernel_rfl⟩ (fun wa30 ka30 ba30 => (ratMax_any _ _ q0 qs 2 wa30 (hA.kp (Kp.of (U := UU) ba30)) (hall.beh ba30) (by omega) (Nat.lt_succ_of_lt hl9)).mono ?_)
          rintro e w30 ⟨r30, rfl, q30, z30, hb30⟩
          obtain ⟨s30, p30, n30, c30, t30, y30, m30, d30, rfl⟩ := q30.form
          refine ⟨_, rfl, hb30, fun kb30 _ bb30 => wV rfl ?_⟩
          (repeat (first | refine wN ?_ | refine wQ ?_ | refine cx_r rfl ?_ | refine cx_d (by kernel_rfl) rfl ?_ | refine wO rfl rfl ?_ | refine wT rfl ?_ | refine wF rfl ?_ | refine wB ?_ | refine wK ?_ | refine wE rfl ?_ | refine wS ?_))
          refine VO.callF rfl ⟨_, Tryz.func37, by kernel_rfl, by kernel_rfl⟩ (fun wa31 β ka31 ba31 ho => (q04Max_any _ q0 qs 2 wa31 (ownV_rats (vs := ([Value.bool s, .slice p2 xs.length c2, .bool t, .slice y2 ys.length d2] :: vs)) (ho.own 43 (.base (List.mem_singleton.2 rfl)) _ _ rfl) spare' (by simp) (by simp; omega) (RatRow.cons (hA2.kp (by (with_reducible (repeat (first | assumption | exact kR _ | refine kT ?_ (by assumption)))))) (hrowN.kp (by (with_reducible (repeat (first | assumption | exact kR _ | refine kT ?_ (by assumption))))))) hc1 (by simpa [maxLen] using hc2)) (by omega) hl9).mono ?_)
          rintro e w31 ⟨r31, rfl, q31, z31, hb31⟩
          obtain ⟨s31, p31, n31, c31, t31, y31, m31, d31, rfl⟩ := q31.form
          refine ⟨_, rfl, hb31, fun kb31 _ bb31 => wV rfl ?_⟩
          (repeat (first | refine wN ?_ | refine wQ ?_ | refine cx_r rfl ?_ | refine cx_d (by kernel_rfl) rfl ?_ | refine wO rfl rfl ?_ | refine wT rfl ?_ | refine wF rfl ?_ | refine wB ?_ | refine wK ?_ | refine wE rfl ?_ | refine wS ?_))
          refine VO.call rfl rfl ⟨_, Tryz.func16, by kernel_rfl, by kernel_rfl⟩ (fun wa32 ka32 ba32 => (is04_any (rbest rmore q0 qs) _ _ wa32 (q30.kp (by (with_reducible (repeat (first | assumption | exact kR _ | refine kT ?_ (by assumption)))))).rd (q31.kp (by (with_reducible (repeat (first | assumption | exact kR _ | refine kT ?_ (by assumption))))))).mono ?_)
          rintro e w32 ⟨rfl, hb32⟩
          skip
          refine ⟨_, rfl, hb32, fun kb32 _ bb32 => wV rfl ?_⟩
          (repeat (first | refine wN ?_ | refine wQ ?_ | refine cx_r rfl ?_ | refine cx_d (by kernel_rfl) rfl ?_ | refine wO rfl rfl ?_ | refine wT rfl ?_ | refine wF rfl ?_ | refine wB ?_ | refine wK ?_ | refine wE rfl ?_ | refine wS ?_))
          refine VO.call rfl rfl ⟨_, Tryz.func8, by kernel_rfl, by kernel_rfl⟩ (fun wa33 ka33 ba33 => (works04_any wa33).mono ?_)
          rintro e w33 ⟨rfl, hb33⟩
          skip
          refine ⟨_, rfl, hb33, fun kb33 _ bb33 => wV rfl ?_⟩
          (repeat (first | refine wN ?_ | refine wQ ?_ | refine cx_r rfl ?_ | refine cx_d (by kernel_rfl) rfl ?_ | refine wO rfl rfl ?_ | refine wT rfl ?_ | refine wF rfl ?_ | refine wB ?_ | refine wK ?_ | refine wE rfl ?_ | refine wS ?_))
          refine VS.ret (cx_ok _ _) rfl rfl (fun wz kz bz => ?_)
          exact ⟨rfl, bz⟩
        --GENEND
    · rw [decide_eq_false hfa]
      refine ⟨_, rfl, hb1, fun kb1 _ bb1 => wV rfl ?_⟩
      (repeat (first | refine wN ?_ | refine wQ ?_ | refine cx_r rfl ?_ | refine cx_d (by kernel_rfl) rfl ?_ | refine wO rfl rfl ?_ | refine wT rfl ?_ | refine wF rfl ?_ | refine wB ?_ | refine wK ?_ | refine wE rfl ?_ | refine wS ?_))
      refine VO.call rfl rfl ⟨_, Tryz.func8, by kernel_rfl, by kernel_rfl⟩ (fun wa2 ka2 ba2 => (works04_any wa2).mono ?_)
      rintro e w2 ⟨rfl, hb2⟩
      skip
      refine ⟨_, rfl, hb2, fun kb2 _ bb2 => wV rfl ?_⟩
      (repeat (first | refine wN ?_ | refine wQ ?_ | refine cx_r rfl ?_ | refine cx_d (by kernel_rfl) rfl ?_ | refine wO rfl rfl ?_ | refine wT rfl ?_ | refine wF rfl ?_ | refine wB ?_ | refine wK ?_ | refine wE rfl ?_ | refine wS ?_))
      refine VS.ret (cx_ok _ _) rfl rfl (fun wz kz bz => ?_)
      exact ⟨rfl, bz⟩
  · refine VO.fix 11 rfl (congrArg (fun b => AV.val (.bool b)) (decide_eq_true (show ((N : Int) > 6) by omega))) ?_
    (repeat (first | refine wN ?_ | refine wQ ?_ | refine cx_r rfl ?_ | refine cx_d (by kernel_rfl) rfl ?_ | refine wO rfl rfl ?_ | refine wT rfl ?_ | refine wF rfl ?_ | refine wB ?_ | refine wK ?_ | refine wE rfl ?_ | refine wS ?_))
    refine VO.call rfl rfl ⟨_, Tryz.func8, by kernel_rfl, by kernel_rfl⟩ (fun wa2 ka2 ba2 => (works04_any wa2).mono ?_)
    rintro e w2 ⟨rfl, hb2⟩
    skip
    refine ⟨_, rfl, hb2, fun kb2 _ bb2 => wV rfl ?_⟩
    (repeat (first | refine wN ?_ | refine wQ ?_ | refine cx_r rfl ?_ | refine cx_d (by kernel_rfl) rfl ?_ | refine wO rfl rfl ?_ | refine wT rfl ?_ | refine wF rfl ?_ | refine wB ?_ | refine wK ?_ | refine wE rfl ?_ | refine wS ?_))
    refine VS.ret (cx_ok _ _) rfl rfl (fun wz kz bz => ?_)
    exact ⟨rfl, bz⟩
end Go.Proofs.YtppfcobomaaceaaGreat
