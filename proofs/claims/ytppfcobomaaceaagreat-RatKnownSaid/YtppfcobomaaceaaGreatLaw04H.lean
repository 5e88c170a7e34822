/- RatKnown: the examples. -/
import Derived.Test.YtppfcobomaaceaaGreatLaw04E
import Derived.Test.YtppfcobomaaceaaGreatLaw04F
import Derived.Test.YtppfcobomaaceaaGreatLaw04G
namespace Go.Proofs.YtppfcobomaaceaaGreat
open Go.RowKit
attribute [local irreducible] vcOps VS

theorem flat_peek {vs : List (List Value)} (h4 : ∀ v ∈ vs, v.length = 4) {i : Nat} {v : List Value} (hv : vs[i]? = some v) (o : Nat) : ∀ (j : Nat) (u : AV), ((v.drop o).map AV.val)[j]? = some u → (vs.flatten.map AV.val)[0 + ((i : Nat) : Int).toNat * 4 + o + j]? = some u := by
  intro j u hj
  rw [List.getElem?_map, List.getElem?_drop] at hj
  obtain ⟨x, hx, rfl⟩ := Option.map_eq_some_iff.1 hj
  have := flat_at vs i v h4 hv (o + j) x hx
  rw [Int.toNat_natCast, List.getElem?_map, show 0 + i * 4 + o + j = i * 4 + (o + j) by omega, this]; rfl
theorem two_of {a b c d : Value} {j : Nat} {u : AV} (h : [AV.val a, AV.val b][j]? = some u) : (([a, b, c, d].drop 0).map AV.val)[j]? = some u := by
  match j, h with
  | 0, h => exact h
  | 1, h => exact h
theorem NumAt.nil (w : World) (s : Bool) : NumAt w (.agg #[.bool s, .slice none 0 0]) s [] := ⟨none, 0, rfl, Rd.nil w 1, Dig.nil _⟩
theorem NumAt.row {w : World} {s : Bool} {b n : Nat} {xs : List Nat} {us : List Value} {B : Nat} (h : w.ownsRow B UU 1 (.slice (some ⟨b, 0, none⟩) n n) n us) (hu : us = ints .u32 xs) (hn : n = xs.length) (hl : Lim xs) : NumAt w (.agg #[.bool s, .slice (some ⟨b, 0, none⟩) n n]) s xs := by
  subst hu hn
  exact ⟨_, _, rfl, Rd.own h, hl⟩
theorem RatIn.two {w : World} {s t : Bool} {p r : Option Addr} {n c m d : Nat} {xs ys : List Nat} {k : Nat} (h1 : NumAt w (.agg #[.bool s, .slice p n c]) s xs) (h2 : NumAt w (.agg #[.bool t, .slice r m d]) t ys) (hx : xs.length ≤ k) (hy : ys.length ≤ k) : RatIn w (.agg #[.bool s, .slice p n c, .bool t, .slice r m d]) (rq s xs t ys) k := by
  refine ⟨s, xs, t, ys, ?_, rfl, hx, hy⟩
  obtain ⟨p', c', e1, _⟩ := id h1
  obtain ⟨r', d', e2, _⟩ := id h2
  simp only [Value.agg.injEq, Array.mk.injEq, List.cons.injEq, and_true, Value.slice.injEq, true_and] at e1 e2
  obtain ⟨rfl, rfl, rfl⟩ := e1
  obtain ⟨rfl, rfl, rfl⟩ := e2
  exact ⟨_, _, _, _, rfl, h1, h2⟩
theorem RatRaw.parts {w : World} {s t s' t' : Bool} {p r : Option Addr} {n c m d : Nat} {xs ys : List Nat} (h : RatRaw w (.agg #[.bool s', .slice p n c, .bool t', .slice r m d]) s xs t ys) : NumAt w (.agg #[.bool s', .slice p n c]) s xs ∧ NumAt w (.agg #[.bool t', .slice r m d]) t ys := by
  obtain ⟨p', c', r', d', e, h1, h2⟩ := h
  simp only [Value.agg.injEq, Array.mk.injEq, List.cons.injEq, and_true, Value.slice.injEq, Value.bool.injEq] at e
  obtain ⟨rfl, ⟨rfl, rfl, rfl⟩, rfl, rfl, rfl, rfl⟩ := e
  exact ⟨h1, h2⟩
theorem int_step {a : Int} (h0 : -9223372036854775808 ≤ a) (h1 : a < 9223372036854775807) {b : Int} (hb : a + 1 = b) : IntKind.i64.wrap (a + 1) = b := by rw [IntWalk.i64_in _ (by omega), hb]

set_option maxRecDepth 4000 in
set_option maxHeartbeats 8000000 in
theorem ratKnown_any (w : World) : Calls Tryz.prog 6 #[] w fun e w' => e = .returned (.bool true) ∧ Beh w w' := by
  refine calm_enter (C := cxOf Tryz.prog w _) (args := []) Tryz.func6 rfl Tryz.ntmps6 (Nat.le_of_ble_eq_true rfl) ?_
  (repeat (first | refine wN ?_ | refine wQ ?_ | refine cx_r rfl ?_ | refine cx_d (by kernel_rfl) rfl ?_ | refine wO rfl rfl ?_ | refine wT rfl ?_ | refine wF rfl ?_ | refine wB ?_ | refine wK ?_ | refine wE rfl ?_ | refine wS ?_))
  refine VS.loop (J := fun m L M w' => ∃ a : Nat, a ≤ 9 ∧ m = 9 - a ∧ L = [(1, .val (.int .i64 ((a : Int) - 4)))] ∧ M = []) 9 ⟨_, _, ?_, ?_, ?_, ?_, ⟨0, by omega, rfl, rfl, rfl⟩⟩ ?_
  · (repeat (first | exact trivial | refine ⟨rfl, ?_⟩))
  · (repeat (first | exact trivial | refine ⟨rfl, ?_⟩))
  · rfl
  · exact trivial
  rintro m L M w1 ⟨a, ha, rfl, rfl, rfl⟩
  (repeat (first | refine wN ?_ | refine wQ ?_ | refine cx_r rfl ?_ | refine cx_d (by kernel_rfl) rfl ?_ | refine wO rfl rfl ?_ | refine wT rfl ?_ | refine wF rfl ?_ | refine wB ?_ | refine wK ?_ | refine wE rfl ?_ | refine wS ?_))
  by_cases hlt : a < 9
  · refine VS.condY rfl (decide_eq_true (by omega)) ?_
    (repeat (first | refine wN ?_ | refine wQ ?_ | refine cx_r rfl ?_ | refine cx_d (by kernel_rfl) rfl ?_ | refine wO rfl rfl ?_ | refine wT rfl ?_ | refine wF rfl ?_ | refine wB ?_ | refine wK ?_ | refine wE rfl ?_ | refine wS ?_))
    refine VS.loop (J := fun m L M w' => ∃ b : Nat, b ≤ 8 ∧ m = 8 - b ∧ L = [(1, .val (.int .i64 ((a : Int) - 4))), (2, .val (.int .i64 ((b : Int) - 3)))] ∧ M = []) 8 ⟨_, _, ?_, ?_, ?_, ?_, ⟨0, by omega, rfl, rfl, rfl⟩⟩ ?_
    · (repeat (first | exact trivial | refine ⟨rfl, ?_⟩))
    · (repeat (first | exact trivial | refine ⟨rfl, ?_⟩))
    · rfl
    · exact trivial
    rintro m L M w2 ⟨b, hb, rfl, rfl, rfl⟩
    (repeat (first | refine wN ?_ | refine wQ ?_ | refine cx_r rfl ?_ | refine cx_d (by kernel_rfl) rfl ?_ | refine wO rfl rfl ?_ | refine wT rfl ?_ | refine wF rfl ?_ | refine wB ?_ | refine wK ?_ | refine wE rfl ?_ | refine wS ?_))
    by_cases hlt2 : b < 8
    · refine VS.condY rfl (decide_eq_true (by omega)) ?_
      (repeat (first | refine wN ?_ | refine wQ ?_ | refine cx_r rfl ?_ | refine cx_d (by kernel_rfl) rfl ?_ | refine wO rfl rfl ?_ | refine wT rfl ?_ | refine wF rfl ?_ | refine wB ?_ | refine wK ?_ | refine wE rfl ?_ | refine wS ?_))
      obtain ⟨n, hn⟩ : ∃ n : Int, n = (a : Int) - 4 := ⟨_, rfl⟩
      obtain ⟨d, hd⟩ : ∃ d : Int, d = (b : Int) - 3 := ⟨_, rfl⟩
      rw [← hn, ← hd]
      --ROUND
      refine VO.call rfl rfl ⟨_, Tryz.func39, by kernel_rfl, by kernel_rfl⟩ (fun wa11 ka11 ba11 => (bOf_any (n) wa11 (by omega) (by omega)).mono ?_)
      rintro e w11 ⟨r11, rfl, q11, hb11⟩
      obtain ⟨s11, p11, n11, c11, rfl⟩ := q11.form
      refine ⟨_, rfl, hb11, fun kb11 _ bb11 => wV rfl ?_⟩
      (repeat (first | refine wN ?_ | refine wQ ?_ | refine cx_r rfl ?_ | refine cx_d (by kernel_rfl) rfl ?_ | refine wO rfl rfl ?_ | refine wT rfl ?_ | refine wF rfl ?_ | refine wB ?_ | refine wK ?_ | refine wE rfl ?_ | refine wS ?_))
      refine VO.call rfl rfl ⟨_, Tryz.func39, by kernel_rfl, by kernel_rfl⟩ (fun wa12 ka12 ba12 => (bOf_any (d) wa12 (by omega) (by omega)).mono ?_)
      rintro e w12 ⟨r12, rfl, q12, hb12⟩
      obtain ⟨s12, p12, n12, c12, rfl⟩ := q12.form
      refine ⟨_, rfl, hb12, fun kb12 _ bb12 => wV rfl ?_⟩
      (repeat (first | refine wN ?_ | refine wQ ?_ | refine cx_r rfl ?_ | refine cx_d (by kernel_rfl) rfl ?_ | refine wO rfl rfl ?_ | refine wT rfl ?_ | refine wF rfl ?_ | refine wB ?_ | refine wK ?_ | refine wE rfl ?_ | refine wS ?_))
      refine VO.call rfl rfl ⟨_, Tryz.func38, by kernel_rfl, by kernel_rfl⟩ (fun wa13 ka13 ba13 => (ratMakes_any _ _ _ _ _ _ n d wa13 (q11.kp (by (with_reducible (repeat (first | assumption | exact kR _ | refine kT ?_ (by assumption)))))).rd (q12.kp (by (with_reducible (repeat (first | assumption | exact kR _ | refine kT ?_ (by assumption)))))).rd (by omega) (by omega) (by omega) (by omega)).mono ?_)
      rintro e w13 ⟨rfl, hb13⟩
      skip
      refine ⟨_, rfl, hb13, fun kb13 _ bb13 => wV rfl ?_⟩
      (repeat (first | refine wN ?_ | refine wQ ?_ | refine cx_r rfl ?_ | refine cx_d (by kernel_rfl) rfl ?_ | refine wO rfl rfl ?_ | refine wT rfl ?_ | refine wF rfl ?_ | refine wB ?_ | refine wK ?_ | refine wE rfl ?_ | refine wS ?_))
      refine VO.call rfl rfl ⟨_, Tryz.func40, by kernel_rfl, by kernel_rfl⟩ (fun wa14 ka14 ba14 => (by04_any (n) (4) wa14 (by omega) (by omega) (by omega) (by omega)).mono ?_)
      rintro e w14 ⟨r14, rfl, q14, hb14⟩
      obtain ⟨s14, p14, n14, c14, t14, y14, m14, d14, rfl⟩ := q14.form
      refine ⟨_, rfl, hb14, fun kb14 _ bb14 => wV rfl ?_⟩
      (repeat (first | refine wN ?_ | refine wQ ?_ | refine cx_r rfl ?_ | refine cx_d (by kernel_rfl) rfl ?_ | refine wO rfl rfl ?_ | refine wT rfl ?_ | refine wF rfl ?_ | refine wB ?_ | refine wK ?_ | refine wE rfl ?_ | refine wS ?_))
      refine VO.call rfl rfl ⟨_, Tryz.func40, by kernel_rfl, by kernel_rfl⟩ (fun wa15 ka15 ba15 => (by04_any (d) (6) wa15 (by omega) (by omega) (by omega) (by omega)).mono ?_)
      rintro e w15 ⟨r15, rfl, q15, hb15⟩
      obtain ⟨s15, p15, n15, c15, t15, y15, m15, d15, rfl⟩ := q15.form
      refine ⟨_, rfl, hb15, fun kb15 _ bb15 => wV rfl ?_⟩
      (repeat (first | refine wN ?_ | refine wQ ?_ | refine cx_r rfl ?_ | refine cx_d (by kernel_rfl) rfl ?_ | refine wO rfl rfl ?_ | refine wT rfl ?_ | refine wF rfl ?_ | refine wB ?_ | refine wK ?_ | refine wE rfl ?_ | refine wS ?_))
      refine VO.call rfl rfl ⟨_, Tryz.func3, by kernel_rfl, by kernel_rfl⟩ (fun wa16 ka16 ba16 => (ratTwo_any _ _ _ _ _ _ _ _ _ _ wa16 (q14.kp (by (with_reducible (repeat (first | assumption | exact kR _ | refine kT ?_ (by assumption)))))).rd.raw (q15.kp (by (with_reducible (repeat (first | assumption | exact kR _ | refine kT ?_ (by assumption)))))).rd.raw).mono ?_)
      rintro e w16 ⟨rfl, hb16⟩
      skip
      refine ⟨_, rfl, hb16, fun kb16 _ bb16 => wV rfl ?_⟩
      (repeat (first | refine wN ?_ | refine wQ ?_ | refine cx_r rfl ?_ | refine cx_d (by kernel_rfl) rfl ?_ | refine wO rfl rfl ?_ | refine wT rfl ?_ | refine wF rfl ?_ | refine wB ?_ | refine wK ?_ | refine wE rfl ?_ | refine wS ?_))
      refine VO.call rfl rfl ⟨_, Tryz.func40, by kernel_rfl, by kernel_rfl⟩ (fun wa17 ka17 ba17 => (by04_any (n) (3) wa17 (by omega) (by omega) (by omega) (by omega)).mono ?_)
      rintro e w17 ⟨r17, rfl, q17, hb17⟩
      obtain ⟨s17, p17, n17, c17, t17, y17, m17, d17, rfl⟩ := q17.form
      refine ⟨_, rfl, hb17, fun kb17 _ bb17 => wV rfl ?_⟩
      (repeat (first | refine wN ?_ | refine wQ ?_ | refine cx_r rfl ?_ | refine cx_d (by kernel_rfl) rfl ?_ | refine wO rfl rfl ?_ | refine wT rfl ?_ | refine wF rfl ?_ | refine wB ?_ | refine wK ?_ | refine wE rfl ?_ | refine wS ?_))
      refine VO.call rfl rfl ⟨_, Tryz.func40, by kernel_rfl, by kernel_rfl⟩ (fun wa18 ka18 ba18 => (by04_any (d) (2) wa18 (by omega) (by omega) (by omega) (by omega)).mono ?_)
      rintro e w18 ⟨r18, rfl, q18, hb18⟩
      obtain ⟨s18, p18, n18, c18, t18, y18, m18, d18, rfl⟩ := q18.form
      refine ⟨_, rfl, hb18, fun kb18 _ bb18 => wV rfl ?_⟩
      (repeat (first | refine wN ?_ | refine wQ ?_ | refine cx_r rfl ?_ | refine cx_d (by kernel_rfl) rfl ?_ | refine wO rfl rfl ?_ | refine wT rfl ?_ | refine wF rfl ?_ | refine wB ?_ | refine wK ?_ | refine wE rfl ?_ | refine wS ?_))
      refine VO.fix 37 rfl (congrArg (fun z => AV.val (.int .i64 z)) (show _ = n + d from IntWalk.i64_in _ (by omega))) ?_
      (repeat (first | refine wN ?_ | refine wQ ?_ | refine cx_r rfl ?_ | refine cx_d (by kernel_rfl) rfl ?_ | refine wO rfl rfl ?_ | refine wT rfl ?_ | refine wF rfl ?_ | refine wB ?_ | refine wK ?_ | refine wE rfl ?_ | refine wS ?_))
      refine VO.call rfl rfl ⟨_, Tryz.func40, by kernel_rfl, by kernel_rfl⟩ (fun wa19 ka19 ba19 => (by04_any (n + d) (5) wa19 (by omega) (by omega) (by omega) (by omega)).mono ?_)
      rintro e w19 ⟨r19, rfl, q19, hb19⟩
      obtain ⟨s19, p19, n19, c19, t19, y19, m19, d19, rfl⟩ := q19.form
      refine ⟨_, rfl, hb19, fun kb19 _ bb19 => wV rfl ?_⟩
      (repeat (first | refine wN ?_ | refine wQ ?_ | refine cx_r rfl ?_ | refine cx_d (by kernel_rfl) rfl ?_ | refine wO rfl rfl ?_ | refine wT rfl ?_ | refine wF rfl ?_ | refine wB ?_ | refine wK ?_ | refine wE rfl ?_ | refine wS ?_))
      refine VO.call rfl rfl ⟨_, Tryz.func40, by kernel_rfl, by kernel_rfl⟩ (fun wa20 ka20 ba20 => (by04_any (1) (1) wa20 (by omega) (by omega) (by omega) (by omega)).mono ?_)
      rintro e w20 ⟨r20, rfl, q20, hb20⟩
      obtain ⟨s20, p20, n20, c20, t20, y20, m20, d20, rfl⟩ := q20.form
      refine ⟨_, rfl, hb20, fun kb20 _ bb20 => wV rfl ?_⟩
      (repeat (first | refine wN ?_ | refine wQ ?_ | refine cx_r rfl ?_ | refine cx_d (by kernel_rfl) rfl ?_ | refine wO rfl rfl ?_ | refine wT rfl ?_ | refine wF rfl ?_ | refine wB ?_ | refine wK ?_ | refine wE rfl ?_ | refine wS ?_))
      refine VO.callF rfl ⟨_, Tryz.func4, by kernel_rfl, by kernel_rfl⟩ (fun wa21 β ka21 ba21 ho => (ratRows_any _ _ _ _ _ _ [Rat.divInt (d) (2), Rat.divInt (n + d) (5), Rat.divInt (1) (1)] 1 wa21 (q17.kp (by (with_reducible (repeat (first | assumption | exact kR _ | refine kT ?_ (by assumption)))))).rd.raw (ownV_rats (ho.own 40 (.base (List.mem_singleton.2 rfl)) _ _ rfl) [] (vs := [[.bool s18, .slice p18 n18 c18, .bool t18, .slice y18 m18 d18], [.bool s19, .slice p19 n19 c19, .bool t19, .slice y19 m19 d19], [.bool s20, .slice p20 n20 c20, .bool t20, .slice y20 m20 d20]]) (by rfl) rfl (RatRow.cons (((q18.kp (by (with_reducible (repeat (first | assumption | exact kR _ | refine kT ?_ (by assumption)))))).in (RSz.of (by omega) (by omega))).mono' (show 1 ≤ 1 by omega)) (RatRow.cons (((q19.kp (by (with_reducible (repeat (first | assumption | exact kR _ | refine kT ?_ (by assumption)))))).in (RSz.of (by omega) (by omega))).mono' (show 1 ≤ 1 by omega)) (RatRow.cons (((q20.kp (by (with_reducible (repeat (first | assumption | exact kR _ | refine kT ?_ (by assumption)))))).in (RSz.of (by omega) (by omega))).mono' (show 1 ≤ 1 by omega)) RatRow.nil))) (Nat.le_of_ble_eq_true rfl) (by decide))).mono ?_)
      rintro e w21 ⟨rfl, hb21⟩
      skip
      refine ⟨_, rfl, hb21, fun kb21 _ bb21 => wV rfl ?_⟩
      (repeat (first | refine wN ?_ | refine wQ ?_ | refine cx_r rfl ?_ | refine cx_d (by kernel_rfl) rfl ?_ | refine wO rfl rfl ?_ | refine wT rfl ?_ | refine wF rfl ?_ | refine wB ?_ | refine wK ?_ | refine wE rfl ?_ | refine wS ?_))
      refine VO.call rfl rfl ⟨_, Tryz.func40, by kernel_rfl, by kernel_rfl⟩ (fun wa22 ka22 ba22 => (by04_any (n) (6) wa22 (by omega) (by omega) (by omega) (by omega)).mono ?_)
      rintro e w22 ⟨r22, rfl, q22, hb22⟩
      obtain ⟨s22, p22, n22, c22, t22, y22, m22, d22, rfl⟩ := q22.form
      refine ⟨_, rfl, hb22, fun kb22 _ bb22 => wV rfl ?_⟩
      (repeat (first | refine wN ?_ | refine wQ ?_ | refine cx_r rfl ?_ | refine cx_d (by kernel_rfl) rfl ?_ | refine wO rfl rfl ?_ | refine wT rfl ?_ | refine wF rfl ?_ | refine wB ?_ | refine wK ?_ | refine wE rfl ?_ | refine wS ?_))
      refine VO.call rfl rfl ⟨_, Tryz.func40, by kernel_rfl, by kernel_rfl⟩ (fun wa23 ka23 ba23 => (by04_any (d) (4) wa23 (by omega) (by omega) (by omega) (by omega)).mono ?_)
      rintro e w23 ⟨r23, rfl, q23, hb23⟩
      obtain ⟨s23, p23, n23, c23, t23, y23, m23, d23, rfl⟩ := q23.form
      refine ⟨_, rfl, hb23, fun kb23 _ bb23 => wV rfl ?_⟩
      (repeat (first | refine wN ?_ | refine wQ ?_ | refine cx_r rfl ?_ | refine cx_d (by kernel_rfl) rfl ?_ | refine wO rfl rfl ?_ | refine wT rfl ?_ | refine wF rfl ?_ | refine wB ?_ | refine wK ?_ | refine wE rfl ?_ | refine wS ?_))
      refine VO.fix 51 rfl (congrArg (fun z => AV.val (.int .i64 z)) (show _ = n - d from IntWalk.i64_in _ (by omega))) ?_
      (repeat (first | refine wN ?_ | refine wQ ?_ | refine cx_r rfl ?_ | refine cx_d (by kernel_rfl) rfl ?_ | refine wO rfl rfl ?_ | refine wT rfl ?_ | refine wF rfl ?_ | refine wB ?_ | refine wK ?_ | refine wE rfl ?_ | refine wS ?_))
      refine VO.call rfl rfl ⟨_, Tryz.func40, by kernel_rfl, by kernel_rfl⟩ (fun wa24 ka24 ba24 => (by04_any (n - d) (10) wa24 (by omega) (by omega) (by omega) (by omega)).mono ?_)
      rintro e w24 ⟨r24, rfl, q24, hb24⟩
      obtain ⟨s24, p24, n24, c24, t24, y24, m24, d24, rfl⟩ := q24.form
      refine ⟨_, rfl, hb24, fun kb24 _ bb24 => wV rfl ?_⟩
      (repeat (first | refine wN ?_ | refine wQ ?_ | refine cx_r rfl ?_ | refine cx_d (by kernel_rfl) rfl ?_ | refine wO rfl rfl ?_ | refine wT rfl ?_ | refine wF rfl ?_ | refine wB ?_ | refine wK ?_ | refine wE rfl ?_ | refine wS ?_))
      refine VO.call rfl rfl ⟨_, Tryz.func5, by kernel_rfl, by kernel_rfl⟩ (fun wa25 ka25 ba25 => (ratField_any _ _ _ _ _ _ _ _ _ _ _ _ _ _ _ wa25 (q22.kp (by (with_reducible (repeat (first | assumption | exact kR _ | refine kT ?_ (by assumption)))))).rd.raw (q23.kp (by (with_reducible (repeat (first | assumption | exact kR _ | refine kT ?_ (by assumption)))))).rd.raw (q24.kp (by (with_reducible (repeat (first | assumption | exact kR _ | refine kT ?_ (by assumption)))))).rd.raw).mono ?_)
      rintro e w25 ⟨rfl, hb25⟩
      skip
      refine ⟨_, rfl, hb25, fun kb25 _ bb25 => wV rfl ?_⟩
      (repeat (first | refine wN ?_ | refine wQ ?_ | refine cx_r rfl ?_ | refine cx_d (by kernel_rfl) rfl ?_ | refine wO rfl rfl ?_ | refine wT rfl ?_ | refine wF rfl ?_ | refine wB ?_ | refine wK ?_ | refine wE rfl ?_ | refine wS ?_))
      refine VS.back (8 - (b + 1)) (by omega) ⟨_, _, ?_, ?_, ?_, ?_, ⟨b + 1, by omega, rfl, rfl, rfl⟩⟩
      · refine ⟨rfl, congrArg (fun z => some (AV.val (.int .i64 z))) (int_step (by omega) (by omega) (by omega)), trivial⟩
      · (repeat (first | exact trivial | refine ⟨rfl, ?_⟩))
      · rfl
      · exact trivial
      --GENEND
    · refine VS.condN rfl (decide_eq_false (by omega)) ?_
      (repeat (first | refine wN ?_ | refine wQ ?_ | refine cx_r rfl ?_ | refine cx_d (by kernel_rfl) rfl ?_ | refine wO rfl rfl ?_ | refine wT rfl ?_ | refine wF rfl ?_ | refine wB ?_ | refine wK ?_ | refine wE rfl ?_ | refine wS ?_))
      refine VS.back (9 - (a + 1)) (by omega) ⟨_, _, ?_, ?_, ?_, ?_, ⟨a + 1, by omega, rfl, rfl, rfl⟩⟩
      · refine ⟨?_, trivial⟩
        exact congrArg (fun z => some (AV.val (.int .i64 z))) (int_step (by omega) (by omega) (by omega))
      · (repeat (first | exact trivial | refine ⟨rfl, ?_⟩))
      · rfl
      · exact trivial
  · refine VS.condN rfl (decide_eq_false (by omega)) ?_
    (repeat (first | refine wN ?_ | refine wQ ?_ | refine cx_r rfl ?_ | refine cx_d (by kernel_rfl) rfl ?_ | refine wO rfl rfl ?_ | refine wT rfl ?_ | refine wF rfl ?_ | refine wB ?_ | refine wK ?_ | refine wE rfl ?_ | refine wS ?_))
    --LIST
    refine VO.lit (cx_ok _ _) [.int .u32 2] rfl rfl rfl rfl rfl rfl rfl rfl rfl (by omega) (fun v0 b0 k0 bb0 ho0 => wV rfl ?_)
    refine VO.lit (cx_ok _ _) [.int .u32 2] rfl rfl rfl rfl rfl rfl rfl rfl rfl (by omega) (fun v1 b1 k1 bb1 ho1 => wV rfl ?_)
    refine VO.lit (cx_ok _ _) [.int .u32 4] rfl rfl rfl rfl rfl rfl rfl rfl rfl (by omega) (fun v2 b2 k2 bb2 ho2 => wV rfl ?_)
    refine VO.lit (cx_ok _ _) [.int .u32 2] rfl rfl rfl rfl rfl rfl rfl rfl rfl (by omega) (fun v3 b3 k3 bb3 ho3 => wV rfl ?_)
    refine VO.lit (cx_ok _ _) [.int .u32 3] rfl rfl rfl rfl rfl rfl rfl rfl rfl (by omega) (fun v4 b4 k4 bb4 ho4 => wV rfl ?_)
    refine VO.lit (cx_ok _ _) [.int .u32 1] rfl rfl rfl rfl rfl rfl rfl rfl rfl (by omega) (fun v5 b5 k5 bb5 ho5 => wV rfl ?_)
    refine VO.lit (cx_ok _ _) [.int .u32 2, .int .u32 0] rfl rfl rfl rfl rfl rfl rfl rfl rfl (by omega) (fun v6 b6 k6 bb6 ho6 => wV rfl ?_)
    refine VO.lit (cx_ok _ _) [.int .u32 3] rfl rfl rfl rfl rfl rfl rfl rfl rfl (by omega) (fun v7 b7 k7 bb7 ho7 => wV rfl ?_)
    refine VO.lit (cx_ok _ _) [.int .u32 2] rfl rfl rfl rfl rfl rfl rfl rfl rfl (by omega) (fun v8 b8 k8 bb8 ho8 => wV rfl ?_)
    refine VO.lit (cx_ok _ _) [.int .u32 3, .int .u32 0] rfl rfl rfl rfl rfl rfl rfl rfl rfl (by omega) (fun v9 b9 k9 bb9 ho9 => wV rfl ?_)
    refine VO.lit (cx_ok _ _) [.int .u32 2] rfl rfl rfl rfl rfl rfl rfl rfl rfl (by omega) (fun v10 b10 k10 bb10 ho10 => wV rfl ?_)
    refine VO.lit (cx_ok _ _) [.int .u32 1] rfl rfl rfl rfl rfl rfl rfl rfl rfl (by omega) (fun v11 b11 k11 bb11 ho11 => wV rfl ?_)
    refine VO.lit (cx_ok _ _) [.int .u32 4294967295, .int .u32 1] rfl rfl rfl rfl rfl rfl rfl rfl rfl (by omega) (fun v12 b12 k12 bb12 ho12 => wV rfl ?_)
    refine VO.lit (cx_ok _ _) [.int .u32 0, .int .u32 1] rfl rfl rfl rfl rfl rfl rfl rfl rfl (by omega) (fun v13 b13 k13 bb13 ho13 => wV rfl ?_)
    (repeat (first | refine wN ?_ | refine wQ ?_ | refine cx_r rfl ?_ | refine cx_d (by kernel_rfl) rfl ?_ | refine wO rfl rfl ?_ | refine wT rfl ?_ | refine wF rfl ?_ | refine wB ?_ | refine wK ?_ | refine wE rfl ?_ | refine wS ?_))
    obtain ⟨qs, hqs⟩ : ∃ qs : List Rat, qs = [rq false [] false [], rq false [2] false [], rq false [2] false [4], rq false [2] true [3], rq true [] false [1], rq false [2, 0] false [3], rq false [2] false [3, 0], rq false [] false [2], rq false [] false [1], rq true [4294967295, 1] false [0, 1]] := ⟨_, rfl⟩
    obtain ⟨vs, hvs⟩ : ∃ vs : List (List Value), vs = [[Value.bool false, .slice none 0 0, .bool false, .slice none 0 0], [Value.bool false, .slice (some ⟨b0, 0, none⟩) 1 1, .bool false, .slice none 0 0], [Value.bool false, .slice (some ⟨b1, 0, none⟩) 1 1, .bool false, .slice (some ⟨b2, 0, none⟩) 1 1], [Value.bool false, .slice (some ⟨b3, 0, none⟩) 1 1, .bool true, .slice (some ⟨b4, 0, none⟩) 1 1], [Value.bool true, .slice none 0 0, .bool false, .slice (some ⟨b5, 0, none⟩) 1 1], [Value.bool false, .slice (some ⟨b6, 0, none⟩) 2 2, .bool false, .slice (some ⟨b7, 0, none⟩) 1 1], [Value.bool false, .slice (some ⟨b8, 0, none⟩) 1 1, .bool false, .slice (some ⟨b9, 0, none⟩) 2 2], [Value.bool false, .slice none 0 0, .bool false, .slice (some ⟨b10, 0, none⟩) 1 1], [Value.bool false, .slice none 0 0, .bool false, .slice (some ⟨b11, 0, none⟩) 1 1], [Value.bool true, .slice (some ⟨b12, 0, none⟩) 2 2, .bool false, .slice (some ⟨b13, 0, none⟩) 2 2]] := ⟨_, rfl⟩
    have hrow : RatRow v13 2 qs vs := by
      rw [hqs, hvs]
      exact (.cons (RatIn.two (NumAt.nil _ false) (NumAt.nil _ false) (by decide) (by decide)) (.cons (RatIn.two (NumAt.kp (U := UU) (NumAt.row ho0 (xs := [2]) rfl rfl (Dig.cons (by omega) (Dig.nil _))) (by (with_reducible (repeat (first | assumption | exact kR _ | refine kT ?_ (by assumption)))))) (NumAt.nil _ false) (by decide) (by decide)) (.cons (RatIn.two (NumAt.kp (U := UU) (NumAt.row ho1 (xs := [2]) rfl rfl (Dig.cons (by omega) (Dig.nil _))) (by (with_reducible (repeat (first | assumption | exact kR _ | refine kT ?_ (by assumption)))))) (NumAt.kp (U := UU) (NumAt.row ho2 (xs := [4]) rfl rfl (Dig.cons (by omega) (Dig.nil _))) (by (with_reducible (repeat (first | assumption | exact kR _ | refine kT ?_ (by assumption)))))) (by decide) (by decide)) (.cons (RatIn.two (NumAt.kp (U := UU) (NumAt.row ho3 (xs := [2]) rfl rfl (Dig.cons (by omega) (Dig.nil _))) (by (with_reducible (repeat (first | assumption | exact kR _ | refine kT ?_ (by assumption)))))) (NumAt.kp (U := UU) (NumAt.row ho4 (xs := [3]) rfl rfl (Dig.cons (by omega) (Dig.nil _))) (by (with_reducible (repeat (first | assumption | exact kR _ | refine kT ?_ (by assumption)))))) (by decide) (by decide)) (.cons (RatIn.two (NumAt.nil _ true) (NumAt.kp (U := UU) (NumAt.row ho5 (xs := [1]) rfl rfl (Dig.cons (by omega) (Dig.nil _))) (by (with_reducible (repeat (first | assumption | exact kR _ | refine kT ?_ (by assumption)))))) (by decide) (by decide)) (.cons (RatIn.two (NumAt.kp (U := UU) (NumAt.row ho6 (xs := [2, 0]) rfl rfl (Dig.cons (by omega) (Dig.cons (by omega) (Dig.nil _)))) (by (with_reducible (repeat (first | assumption | exact kR _ | refine kT ?_ (by assumption)))))) (NumAt.kp (U := UU) (NumAt.row ho7 (xs := [3]) rfl rfl (Dig.cons (by omega) (Dig.nil _))) (by (with_reducible (repeat (first | assumption | exact kR _ | refine kT ?_ (by assumption)))))) (by decide) (by decide)) (.cons (RatIn.two (NumAt.kp (U := UU) (NumAt.row ho8 (xs := [2]) rfl rfl (Dig.cons (by omega) (Dig.nil _))) (by (with_reducible (repeat (first | assumption | exact kR _ | refine kT ?_ (by assumption)))))) (NumAt.kp (U := UU) (NumAt.row ho9 (xs := [3, 0]) rfl rfl (Dig.cons (by omega) (Dig.cons (by omega) (Dig.nil _)))) (by (with_reducible (repeat (first | assumption | exact kR _ | refine kT ?_ (by assumption)))))) (by decide) (by decide)) (.cons (RatIn.two (NumAt.nil _ false) (NumAt.kp (U := UU) (NumAt.row ho10 (xs := [2]) rfl rfl (Dig.cons (by omega) (Dig.nil _))) (by (with_reducible (repeat (first | assumption | exact kR _ | refine kT ?_ (by assumption)))))) (by decide) (by decide)) (.cons (RatIn.two (NumAt.nil _ false) (NumAt.kp (U := UU) (NumAt.row ho11 (xs := [1]) rfl rfl (Dig.cons (by omega) (Dig.nil _))) (by (with_reducible (repeat (first | assumption | exact kR _ | refine kT ?_ (by assumption)))))) (by decide) (by decide)) (.cons (RatIn.two (NumAt.kp (U := UU) (NumAt.row ho12 (xs := [4294967295, 1]) rfl rfl (Dig.cons (by omega) (Dig.cons (by omega) (Dig.nil _)))) (by (with_reducible (repeat (first | assumption | exact kR _ | refine kT ?_ (by assumption)))))) (NumAt.kp (U := UU) (NumAt.row ho13 (xs := [0, 1]) rfl rfl (Dig.cons (by omega) (Dig.cons (by omega) (Dig.nil _)))) (by (with_reducible (repeat (first | assumption | exact kR _ | refine kT ?_ (by assumption)))))) (by decide) (by decide)) .nil))))))))))
    have hql : qs.length = 10 := by rw [hqs]; rfl
    have h4 := hrow.four
    clear hqs
    refine VS.loop (J := fun m L M w' => ∃ i : Nat, i ≤ 10 ∧ m = 10 - i ∧ L = [(3, .row 95 0 10 10), (4, .val (.int .i64 (i : Int)))] ∧ M = [(95, (26, vs.flatten.map .val))] ∧ RatRow w' 2 qs vs) 10 ⟨_, _, ?_, ?_, ?_, ?_, ⟨0, by omega, rfl, rfl, rfl, hrow⟩⟩ ?_
    · (repeat (first | exact trivial | refine ⟨rfl, ?_⟩))
    · exact ⟨by rw [hvs]; rfl, trivial⟩
    · rfl
    · (repeat (first | exact trivial | refine ⟨ClosedC.lit rfl, ?_⟩ | refine ⟨ClosedC.vals _, ?_⟩))
    clear hvs hrow
    rintro m L M w3 ⟨i, hi, rfl, rfl, rfl, hrow⟩
    (repeat (first | refine wN ?_ | refine wQ ?_ | refine cx_r rfl ?_ | refine cx_d (by kernel_rfl) rfl ?_ | refine wO rfl rfl ?_ | refine wT rfl ?_ | refine wF rfl ?_ | refine wB ?_ | refine wK ?_ | refine wE rfl ?_ | refine wS ?_))
    by_cases hi10 : i < 10
    · refine VS.condY rfl (decide_eq_true (by omega)) ?_
      (repeat (first | refine wN ?_ | refine wQ ?_ | refine cx_r rfl ?_ | refine cx_d (by kernel_rfl) rfl ?_ | refine wO rfl rfl ?_ | refine wT rfl ?_ | refine wF rfl ?_ | refine wB ?_ | refine wK ?_ | refine wE rfl ?_ | refine wS ?_))
      refine VS.loop (J := fun m L M w' => ∃ k : Nat, k ≤ 10 ∧ m = 10 - k ∧ L = [(3, .row 95 0 10 10), (4, .val (.int .i64 (i : Int))), (5, .val (.int .i64 (k : Int)))] ∧ M = [(95, (26, vs.flatten.map .val))] ∧ RatRow w' 2 qs vs) 10 ⟨_, _, ?_, ?_, ?_, ?_, ⟨0, by omega, rfl, rfl, rfl, hrow⟩⟩ ?_
      · (repeat (first | exact trivial | refine ⟨rfl, ?_⟩))
      · (repeat (first | exact trivial | refine ⟨rfl, ?_⟩))
      · rfl
      · (repeat (first | exact trivial | refine ⟨ClosedC.lit rfl, ?_⟩ | refine ⟨ClosedC.vals _, ?_⟩))
      clear hrow
      rintro m L M w4 ⟨k, hk, rfl, rfl, rfl, hrow⟩
      (repeat (first | refine wN ?_ | refine wQ ?_ | refine cx_r rfl ?_ | refine cx_d (by kernel_rfl) rfl ?_ | refine wO rfl rfl ?_ | refine wT rfl ?_ | refine wF rfl ?_ | refine wB ?_ | refine wK ?_ | refine wE rfl ?_ | refine wS ?_))
      by_cases hk10 : k < 10
      · refine VS.condY rfl (decide_eq_true (by omega)) ?_
        (repeat (first | refine wN ?_ | refine wQ ?_ | refine cx_r rfl ?_ | refine cx_d (by kernel_rfl) rfl ?_ | refine wO rfl rfl ?_ | refine wT rfl ?_ | refine wF rfl ?_ | refine wB ?_ | refine wK ?_ | refine wE rfl ?_ | refine wS ?_))
        obtain ⟨qi, hqi⟩ : ∃ q, qs[i]? = some q := ⟨_, List.getElem?_eq_getElem (by omega)⟩
        obtain ⟨si, pi, ni, ci, ti, ri, mi, di, hvi, hini⟩ := hrow.at i qi hqi
        have hini' := hini
        obtain ⟨fsi, xsi, fti, ysi, hrawi, -, -, -⟩ := hini'
        obtain ⟨qk, hqk⟩ : ∃ q, qs[k]? = some q := ⟨_, List.getElem?_eq_getElem (by omega)⟩
        obtain ⟨sk, pk, nk, ck, tk, rk, mk, dk, hvk, hink⟩ := hrow.at k qk hqk
        have hink' := hink
        obtain ⟨fsk, xsk, ftk, ysk, hrawk, -, -, -⟩ := hink'
        refine VO.cond rfl ⟨by omega, by omega⟩ (wV rfl ?_)
        (repeat (first | refine wN ?_ | refine wQ ?_ | refine cx_r rfl ?_ | refine cx_d (by kernel_rfl) rfl ?_ | refine wO rfl rfl ?_ | refine wT rfl ?_ | refine wF rfl ?_ | refine wB ?_ | refine wK ?_ | refine wE rfl ?_ | refine wS ?_))
        refine VO.peek rfl [.val (.bool si), .val (.slice pi ni ci), .val (.bool ti), .val (.slice ri mi di)] rfl (flat_peek h4 hvi 0) (wV rfl ?_)
        (repeat (first | refine wN ?_ | refine wQ ?_ | refine cx_r rfl ?_ | refine cx_d (by kernel_rfl) rfl ?_ | refine wO rfl rfl ?_ | refine wT rfl ?_ | refine wF rfl ?_ | refine wB ?_ | refine wK ?_ | refine wE rfl ?_ | refine wS ?_))
        refine VO.cond rfl ⟨by omega, by omega⟩ (wV rfl ?_)
        (repeat (first | refine wN ?_ | refine wQ ?_ | refine cx_r rfl ?_ | refine cx_d (by kernel_rfl) rfl ?_ | refine wO rfl rfl ?_ | refine wT rfl ?_ | refine wF rfl ?_ | refine wB ?_ | refine wK ?_ | refine wE rfl ?_ | refine wS ?_))
        refine VO.peek rfl [.val (.bool sk), .val (.slice pk nk ck), .val (.bool tk), .val (.slice rk mk dk)] rfl (flat_peek h4 hvk 0) (wV rfl ?_)
        (repeat (first | refine wN ?_ | refine wQ ?_ | refine cx_r rfl ?_ | refine cx_d (by kernel_rfl) rfl ?_ | refine wO rfl rfl ?_ | refine wT rfl ?_ | refine wF rfl ?_ | refine wB ?_ | refine wK ?_ | refine wE rfl ?_ | refine wS ?_))
        refine VO.call rfl rfl ⟨_, Tryz.func3, by kernel_rfl, by kernel_rfl⟩ (fun wa11 ka11 ba11 => (ratTwo_any _ _ _ _ _ _ _ _ _ _ wa11 (hrawi.kp (by (with_reducible (repeat (first | assumption | exact kR _ | refine kT ?_ (by assumption)))))) (hrawk.kp (by (with_reducible (repeat (first | assumption | exact kR _ | refine kT ?_ (by assumption))))))).mono ?_)
        rintro e w11 ⟨rfl, hb11⟩
        skip
        refine ⟨_, rfl, hb11, fun kb11 _ bb11 => wV rfl ?_⟩
        (repeat (first | refine wN ?_ | refine wQ ?_ | refine cx_r rfl ?_ | refine cx_d (by kernel_rfl) rfl ?_ | refine wO rfl rfl ?_ | refine wT rfl ?_ | refine wF rfl ?_ | refine wB ?_ | refine wK ?_ | refine wE rfl ?_ | refine wS ?_))
        refine VO.cond rfl ⟨by omega, by omega⟩ (wV rfl ?_)
        (repeat (first | refine wN ?_ | refine wQ ?_ | refine cx_r rfl ?_ | refine cx_d (by kernel_rfl) rfl ?_ | refine wO rfl rfl ?_ | refine wT rfl ?_ | refine wF rfl ?_ | refine wB ?_ | refine wK ?_ | refine wE rfl ?_ | refine wS ?_))
        refine VO.peek rfl [.val (.bool si), .val (.slice pi ni ci), .val (.bool ti), .val (.slice ri mi di)] rfl (flat_peek h4 hvi 0) (wV rfl ?_)
        (repeat (first | refine wN ?_ | refine wQ ?_ | refine cx_r rfl ?_ | refine cx_d (by kernel_rfl) rfl ?_ | refine wO rfl rfl ?_ | refine wT rfl ?_ | refine wF rfl ?_ | refine wB ?_ | refine wK ?_ | refine wE rfl ?_ | refine wS ?_))
        refine VO.cond rfl ⟨by omega, by omega⟩ (wV rfl ?_)
        (repeat (first | refine wN ?_ | refine wQ ?_ | refine cx_r rfl ?_ | refine cx_d (by kernel_rfl) rfl ?_ | refine wO rfl rfl ?_ | refine wT rfl ?_ | refine wF rfl ?_ | refine wB ?_ | refine wK ?_ | refine wE rfl ?_ | refine wS ?_))
        refine VO.peek rfl [.val (.bool sk), .val (.slice pk nk ck), .val (.bool tk), .val (.slice rk mk dk)] rfl (flat_peek h4 hvk 0) (wV rfl ?_)
        (repeat (first | refine wN ?_ | refine wQ ?_ | refine cx_r rfl ?_ | refine cx_d (by kernel_rfl) rfl ?_ | refine wO rfl rfl ?_ | refine wT rfl ?_ | refine wF rfl ?_ | refine wB ?_ | refine wK ?_ | refine wE rfl ?_ | refine wS ?_))
        refine VO.call rfl rfl ⟨_, Tryz.func40, by kernel_rfl, by kernel_rfl⟩ (fun wa12 ka12 ba12 => (by04_any (1) (2) wa12 (by omega) (by omega) (by omega) (by omega)).mono ?_)
        rintro e w12 ⟨r12, rfl, q12, hb12⟩
        obtain ⟨s12, p12, n12, c12, t12, y12, m12, d12, rfl⟩ := q12.form
        refine ⟨_, rfl, hb12, fun kb12 _ bb12 => wV rfl ?_⟩
        (repeat (first | refine wN ?_ | refine wQ ?_ | refine cx_r rfl ?_ | refine cx_d (by kernel_rfl) rfl ?_ | refine wO rfl rfl ?_ | refine wT rfl ?_ | refine wF rfl ?_ | refine wB ?_ | refine wK ?_ | refine wE rfl ?_ | refine wS ?_))
        refine VO.callF rfl ⟨_, Tryz.func4, by kernel_rfl, by kernel_rfl⟩ (fun wa13 β ka13 ba13 ho => (ratRows_any _ _ _ _ _ _ [qk, Rat.divInt (1) (2)] 2 wa13 (hrawi.kp (by (with_reducible (repeat (first | assumption | exact kR _ | refine kT ?_ (by assumption)))))) (ownV_rats (ho.own 128 (.base (List.mem_singleton.2 rfl)) _ _ rfl) [] (vs := [[.bool sk, .slice pk nk ck, .bool tk, .slice rk mk dk], [.bool s12, .slice p12 n12 c12, .bool t12, .slice y12 m12 d12]]) (by rfl) rfl (RatRow.cons ((hink.kp (by (with_reducible (repeat (first | assumption | exact kR _ | refine kT ?_ (by assumption)))))).mono' (show 2 ≤ 2 by omega)) (RatRow.cons (((q12.kp (by (with_reducible (repeat (first | assumption | exact kR _ | refine kT ?_ (by assumption)))))).in (RSz.of (by decide) (by decide))).mono' (show 1 ≤ 2 by omega)) RatRow.nil)) (Nat.le_of_ble_eq_true rfl) (by decide))).mono ?_)
        rintro e w13 ⟨rfl, hb13⟩
        skip
        refine ⟨_, rfl, hb13, fun kb13 _ bb13 => wV rfl ?_⟩
        (repeat (first | refine wN ?_ | refine wQ ?_ | refine cx_r rfl ?_ | refine cx_d (by kernel_rfl) rfl ?_ | refine wO rfl rfl ?_ | refine wT rfl ?_ | refine wF rfl ?_ | refine wB ?_ | refine wK ?_ | refine wE rfl ?_ | refine wS ?_))
        refine VO.cond rfl ⟨by omega, by omega⟩ (wV rfl ?_)
        (repeat (first | refine wN ?_ | refine wQ ?_ | refine cx_r rfl ?_ | refine cx_d (by kernel_rfl) rfl ?_ | refine wO rfl rfl ?_ | refine wT rfl ?_ | refine wF rfl ?_ | refine wB ?_ | refine wK ?_ | refine wE rfl ?_ | refine wS ?_))
        refine VO.peek rfl [.val (.bool si), .val (.slice pi ni ci), .val (.bool ti), .val (.slice ri mi di)] rfl (flat_peek h4 hvi 0) (wV rfl ?_)
        (repeat (first | refine wN ?_ | refine wQ ?_ | refine cx_r rfl ?_ | refine cx_d (by kernel_rfl) rfl ?_ | refine wO rfl rfl ?_ | refine wT rfl ?_ | refine wF rfl ?_ | refine wB ?_ | refine wK ?_ | refine wE rfl ?_ | refine wS ?_))
        refine VO.cond rfl ⟨by omega, by omega⟩ (wV rfl ?_)
        (repeat (first | refine wN ?_ | refine wQ ?_ | refine cx_r rfl ?_ | refine cx_d (by kernel_rfl) rfl ?_ | refine wO rfl rfl ?_ | refine wT rfl ?_ | refine wF rfl ?_ | refine wB ?_ | refine wK ?_ | refine wE rfl ?_ | refine wS ?_))
        refine VO.peek rfl [.val (.bool sk), .val (.slice pk nk ck), .val (.bool tk), .val (.slice rk mk dk)] rfl (flat_peek h4 hvk 0) (wV rfl ?_)
        (repeat (first | refine wN ?_ | refine wQ ?_ | refine cx_r rfl ?_ | refine cx_d (by kernel_rfl) rfl ?_ | refine wO rfl rfl ?_ | refine wT rfl ?_ | refine wF rfl ?_ | refine wB ?_ | refine wK ?_ | refine wE rfl ?_ | refine wS ?_))
        refine VO.call rfl rfl ⟨_, Tryz.func40, by kernel_rfl, by kernel_rfl⟩ (fun wa14 ka14 ba14 => (by04_any (-7) (3) wa14 (by omega) (by omega) (by omega) (by omega)).mono ?_)
        rintro e w14 ⟨r14, rfl, q14, hb14⟩
        obtain ⟨s14, p14, n14, c14, t14, y14, m14, d14, rfl⟩ := q14.form
        refine ⟨_, rfl, hb14, fun kb14 _ bb14 => wV rfl ?_⟩
        (repeat (first | refine wN ?_ | refine wQ ?_ | refine cx_r rfl ?_ | refine cx_d (by kernel_rfl) rfl ?_ | refine wO rfl rfl ?_ | refine wT rfl ?_ | refine wF rfl ?_ | refine wB ?_ | refine wK ?_ | refine wE rfl ?_ | refine wS ?_))
        refine VO.call rfl rfl ⟨_, Tryz.func5, by kernel_rfl, by kernel_rfl⟩ (fun wa15 ka15 ba15 => (ratField_any _ _ _ _ _ _ _ _ _ _ _ _ _ _ _ wa15 (hrawi.kp (by (with_reducible (repeat (first | assumption | exact kR _ | refine kT ?_ (by assumption)))))) (hrawk.kp (by (with_reducible (repeat (first | assumption | exact kR _ | refine kT ?_ (by assumption)))))) (q14.kp (by (with_reducible (repeat (first | assumption | exact kR _ | refine kT ?_ (by assumption)))))).rd.raw).mono ?_)
        rintro e w15 ⟨rfl, hb15⟩
        skip
        refine ⟨_, rfl, hb15, fun kb15 _ bb15 => wV rfl ?_⟩
        (repeat (first | refine wN ?_ | refine wQ ?_ | refine cx_r rfl ?_ | refine cx_d (by kernel_rfl) rfl ?_ | refine wO rfl rfl ?_ | refine wT rfl ?_ | refine wF rfl ?_ | refine wB ?_ | refine wK ?_ | refine wE rfl ?_ | refine wS ?_))
        refine VO.cond rfl ⟨by omega, by omega⟩ (wV rfl ?_)
        (repeat (first | refine wN ?_ | refine wQ ?_ | refine cx_r rfl ?_ | refine cx_d (by kernel_rfl) rfl ?_ | refine wO rfl rfl ?_ | refine wT rfl ?_ | refine wF rfl ?_ | refine wB ?_ | refine wK ?_ | refine wE rfl ?_ | refine wS ?_))
        refine VO.peek rfl [.val (.bool si), .val (.slice pi ni ci)] rfl (fun j u hj => flat_peek h4 hvi 0 j u (two_of hj)) (wV rfl ?_)
        (repeat (first | refine wN ?_ | refine wQ ?_ | refine cx_r rfl ?_ | refine cx_d (by kernel_rfl) rfl ?_ | refine wO rfl rfl ?_ | refine wT rfl ?_ | refine wF rfl ?_ | refine wB ?_ | refine wK ?_ | refine wE rfl ?_ | refine wS ?_))
        refine VO.cond rfl ⟨by omega, by omega⟩ (wV rfl ?_)
        (repeat (first | refine wN ?_ | refine wQ ?_ | refine cx_r rfl ?_ | refine cx_d (by kernel_rfl) rfl ?_ | refine wO rfl rfl ?_ | refine wT rfl ?_ | refine wF rfl ?_ | refine wB ?_ | refine wK ?_ | refine wE rfl ?_ | refine wS ?_))
        refine VO.peek rfl [.val (.bool tk), .val (.slice rk mk dk)] rfl (flat_peek h4 hvk 2) (wV rfl ?_)
        (repeat (first | refine wN ?_ | refine wQ ?_ | refine cx_r rfl ?_ | refine cx_d (by kernel_rfl) rfl ?_ | refine wO rfl rfl ?_ | refine wT rfl ?_ | refine wF rfl ?_ | refine wB ?_ | refine wK ?_ | refine wE rfl ?_ | refine wS ?_))
        refine VO.fix 158 rfl (congrArg (fun z => AV.val (.int .i64 z)) (show _ = (i : Int) - (k : Int) from IntWalk.i64_in _ (by omega))) ?_
        refine VO.call rfl rfl ⟨_, Tryz.func38, by kernel_rfl, by kernel_rfl⟩ (fun wa16 ka16 ba16 => (ratMakes_any _ _ _ _ _ _ (-9223372036854775808) ((i : Int) - (k : Int)) wa16 (hrawi.kp (by (with_reducible (repeat (first | assumption | exact kR _ | refine kT ?_ (by assumption)))))).parts.1 (hrawk.kp (by (with_reducible (repeat (first | assumption | exact kR _ | refine kT ?_ (by assumption)))))).parts.2 (by omega) (by omega) (by omega) (by omega)).mono ?_)
        rintro e w16 ⟨rfl, hb16⟩
        skip
        refine ⟨_, rfl, hb16, fun kb16 _ bb16 => wV rfl ?_⟩
        (repeat (first | refine wN ?_ | refine wQ ?_ | refine cx_r rfl ?_ | refine cx_d (by kernel_rfl) rfl ?_ | refine wO rfl rfl ?_ | refine wT rfl ?_ | refine wF rfl ?_ | refine wB ?_ | refine wK ?_ | refine wE rfl ?_ | refine wS ?_))
        refine VS.back (10 - (k + 1)) (by omega) ⟨_, _, ?_, ?_, ?_, ?_, ⟨k + 1, by omega, rfl, rfl, rfl, hrow.kp (by (with_reducible (repeat (first | assumption | exact kR _ | refine kT ?_ (by assumption)))))⟩⟩
        · exact ⟨rfl, rfl, congrArg (fun z => some (AV.val (.int .i64 z))) (nat_step (by omega)), trivial⟩
        · (repeat (first | exact trivial | refine ⟨rfl, ?_⟩))
        · rfl
        · (repeat (first | exact trivial | refine ⟨ClosedC.lit rfl, ?_⟩ | refine ⟨ClosedC.vals _, ?_⟩))
      · refine VS.condN rfl (decide_eq_false (by omega)) ?_
        (repeat (first | refine wN ?_ | refine wQ ?_ | refine cx_r rfl ?_ | refine cx_d (by kernel_rfl) rfl ?_ | refine wO rfl rfl ?_ | refine wT rfl ?_ | refine wF rfl ?_ | refine wB ?_ | refine wK ?_ | refine wE rfl ?_ | refine wS ?_))
        refine VS.back (10 - (i + 1)) (by omega) ⟨_, _, ?_, ?_, ?_, ?_, ⟨i + 1, by omega, rfl, rfl, rfl, hrow⟩⟩
        · exact ⟨rfl, congrArg (fun z => some (AV.val (.int .i64 z))) (nat_step (by omega)), trivial⟩
        · (repeat (first | exact trivial | refine ⟨rfl, ?_⟩))
        · rfl
        · (repeat (first | exact trivial | refine ⟨ClosedC.lit rfl, ?_⟩ | refine ⟨ClosedC.vals _, ?_⟩))
    · refine VS.condN rfl (decide_eq_false (by omega)) ?_
      (repeat (first | refine wN ?_ | refine wQ ?_ | refine cx_r rfl ?_ | refine cx_d (by kernel_rfl) rfl ?_ | refine wO rfl rfl ?_ | refine wT rfl ?_ | refine wF rfl ?_ | refine wB ?_ | refine wK ?_ | refine wE rfl ?_ | refine wS ?_))
      refine VO.call rfl rfl ⟨_, Tryz.func39, by kernel_rfl, by kernel_rfl⟩ (fun wa61 ka61 ba61 => (bOf_any (0) wa61 (by omega) (by omega)).mono ?_)
      rintro e w61 ⟨r61, rfl, q61, hb61⟩
      obtain ⟨s61, p61, n61, c61, rfl⟩ := q61.form
      refine ⟨_, rfl, hb61, fun kb61 _ bb61 => wV rfl ?_⟩
      (repeat (first | refine wN ?_ | refine wQ ?_ | refine cx_r rfl ?_ | refine cx_d (by kernel_rfl) rfl ?_ | refine wO rfl rfl ?_ | refine wT rfl ?_ | refine wF rfl ?_ | refine wB ?_ | refine wK ?_ | refine wE rfl ?_ | refine wS ?_))
      refine VO.call rfl rfl ⟨_, Tryz.func39, by kernel_rfl, by kernel_rfl⟩ (fun wa62 ka62 ba62 => (bOf_any (-5) wa62 (by omega) (by omega)).mono ?_)
      rintro e w62 ⟨r62, rfl, q62, hb62⟩
      obtain ⟨s62, p62, n62, c62, rfl⟩ := q62.form
      refine ⟨_, rfl, hb62, fun kb62 _ bb62 => wV rfl ?_⟩
      (repeat (first | refine wN ?_ | refine wQ ?_ | refine cx_r rfl ?_ | refine cx_d (by kernel_rfl) rfl ?_ | refine wO rfl rfl ?_ | refine wT rfl ?_ | refine wF rfl ?_ | refine wB ?_ | refine wK ?_ | refine wE rfl ?_ | refine wS ?_))
      refine VO.call rfl rfl ⟨_, Tryz.func38, by kernel_rfl, by kernel_rfl⟩ (fun wa63 ka63 ba63 => (ratMakes_any _ _ _ _ _ _ (-9223372036854775808) (-9223372036854775808) wa63 (q61.kp (by (with_reducible (repeat (first | assumption | exact kR _ | refine kT ?_ (by assumption)))))).rd (q62.kp (by (with_reducible (repeat (first | assumption | exact kR _ | refine kT ?_ (by assumption)))))).rd (by omega) (by omega) (by omega) (by omega)).mono ?_)
      rintro e w63 ⟨rfl, hb63⟩
      skip
      refine ⟨_, rfl, hb63, fun kb63 _ bb63 => wV rfl ?_⟩
      (repeat (first | refine wN ?_ | refine wQ ?_ | refine cx_r rfl ?_ | refine cx_d (by kernel_rfl) rfl ?_ | refine wO rfl rfl ?_ | refine wT rfl ?_ | refine wF rfl ?_ | refine wB ?_ | refine wK ?_ | refine wE rfl ?_ | refine wS ?_))
      refine VO.call rfl rfl ⟨_, Tryz.func39, by kernel_rfl, by kernel_rfl⟩ (fun wa64 ka64 ba64 => (bOf_any (1) wa64 (by omega) (by omega)).mono ?_)
      rintro e w64 ⟨r64, rfl, q64, hb64⟩
      obtain ⟨s64, p64, n64, c64, rfl⟩ := q64.form
      refine ⟨_, rfl, hb64, fun kb64 _ bb64 => wV rfl ?_⟩
      (repeat (first | refine wN ?_ | refine wQ ?_ | refine cx_r rfl ?_ | refine cx_d (by kernel_rfl) rfl ?_ | refine wO rfl rfl ?_ | refine wT rfl ?_ | refine wF rfl ?_ | refine wB ?_ | refine wK ?_ | refine wE rfl ?_ | refine wS ?_))
      refine VO.call rfl rfl ⟨_, Tryz.func38, by kernel_rfl, by kernel_rfl⟩ (fun wa65 ka65 ba65 => (ratMakes_any _ false _ [] _ _ 9223372036854775807 (-1) wa65 (q64.kp (by (with_reducible (repeat (first | assumption | exact kR _ | refine kT ?_ (by assumption)))))).rd (NumAt.nil _ false) (by omega) (by omega) (by omega) (by omega)).mono ?_)
      rintro e w65 ⟨rfl, hb65⟩
      skip
      refine ⟨_, rfl, hb65, fun kb65 _ bb65 => wV rfl ?_⟩
      (repeat (first | refine wN ?_ | refine wQ ?_ | refine cx_r rfl ?_ | refine cx_d (by kernel_rfl) rfl ?_ | refine wO rfl rfl ?_ | refine wT rfl ?_ | refine wF rfl ?_ | refine wB ?_ | refine wK ?_ | refine wE rfl ?_ | refine wS ?_))
      refine VO.call rfl rfl ⟨_, Tryz.func40, by kernel_rfl, by kernel_rfl⟩ (fun wa66 ka66 ba66 => (by04_any (1) (2) wa66 (by omega) (by omega) (by omega) (by omega)).mono ?_)
      rintro e w66 ⟨r66, rfl, q66, hb66⟩
      obtain ⟨s66, p66, n66, c66, t66, y66, m66, d66, rfl⟩ := q66.form
      refine ⟨_, rfl, hb66, fun kb66 _ bb66 => wV rfl ?_⟩
      (repeat (first | refine wN ?_ | refine wQ ?_ | refine cx_r rfl ?_ | refine cx_d (by kernel_rfl) rfl ?_ | refine wO rfl rfl ?_ | refine wT rfl ?_ | refine wF rfl ?_ | refine wB ?_ | refine wK ?_ | refine wE rfl ?_ | refine wS ?_))
      refine VO.call rfl rfl ⟨_, Tryz.func4, by kernel_rfl, by kernel_rfl⟩ (fun wa67 ka67 ba67 => (ratRows_any _ _ _ _ _ _ [] 1 wa67 (q66.kp (by (with_reducible (repeat (first | assumption | exact kR _ | refine kT ?_ (by assumption)))))).rd.raw (RatsIn.nil _ _)).mono ?_)
      rintro e w67 ⟨rfl, hb67⟩
      skip
      refine ⟨_, rfl, hb67, fun kb67 _ bb67 => wV rfl ?_⟩
      (repeat (first | refine wN ?_ | refine wQ ?_ | refine cx_r rfl ?_ | refine cx_d (by kernel_rfl) rfl ?_ | refine wO rfl rfl ?_ | refine wT rfl ?_ | refine wF rfl ?_ | refine wB ?_ | refine wK ?_ | refine wE rfl ?_ | refine wS ?_))
      refine VO.call rfl rfl ⟨_, Tryz.func8, by kernel_rfl, by kernel_rfl⟩ (fun wa68 ka68 ba68 => (works04_any wa68).mono ?_)
      rintro e w68 ⟨rfl, hb68⟩
      skip
      refine ⟨_, rfl, hb68, fun kb68 _ bb68 => wV rfl ?_⟩
      (repeat (first | refine wN ?_ | refine wQ ?_ | refine cx_r rfl ?_ | refine cx_d (by kernel_rfl) rfl ?_ | refine wO rfl rfl ?_ | refine wT rfl ?_ | refine wF rfl ?_ | refine wB ?_ | refine wK ?_ | refine wE rfl ?_ | refine wS ?_))
      refine VS.ret (cx_ok _ _) rfl rfl (fun wz kz bz => ?_)
      exact ⟨rfl, bz⟩
    --GENEND
end Go.Proofs.YtppfcobomaaceaaGreat
