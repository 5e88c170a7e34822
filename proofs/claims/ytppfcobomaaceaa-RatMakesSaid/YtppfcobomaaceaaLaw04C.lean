/- The chapter's examples (works), and rows of fractions of a call's own. -/
import Derived.Test.YtppfcobomaaceaaLaw04B
namespace Go.Proofs.Ytppfcobomaaceaa
open Go.RowKit
attribute [local irreducible] vcOps VS

theorem RatIn.mono' {w : World} {v : Value} {q : Rat} {j k : Nat} (h : RatIn w v q j) (hjk : j ≤ k) : RatIn w v q k := by
  obtain ⟨s, xs, t, ys, h1, h2, h3, h4⟩ := h
  exact ⟨s, xs, t, ys, h1, h2, Nat.le_trans h3 hjk, Nat.le_trans h4 hjk⟩
theorem ratOf_ok (n d : Int) (w : World) (h0 : -9223372036854775808 ≤ n) (h1 : n ≤ 9223372036854775807) (g0 : -9223372036854775808 ≤ d) (g1 : d ≤ 9223372036854775807) (c : Int) (hc : dcode d = c) :
    Calls Try.prog 6 #[.int .i64 n, .int .i64 d] w fun e w' => ∃ r, e = .returned (.tuple #[r, .int .i64 c]) ∧ RatOwn w' w.heap.size r (Rat.divInt n d) ∧ Beh w w' := hc ▸ ratOf_any n d w h0 h1 g0 g1
theorem q04Of_ok (n d : Int) (w : World) (h0 : -9223372036854775808 ≤ n) (h1 : n ≤ 9223372036854775807) (g0 : -9223372036854775808 ≤ d) (g1 : d ≤ 9223372036854775807) (c : Int) (hc : dcode d = c) :
    Calls Try.prog 7 #[.int .i64 n, .int .i64 d] w fun e w' => ∃ r, e = .returned (.tuple #[r, .int .i64 c]) ∧ RatOwn w' w.heap.size r (Rat.divInt n d) ∧ Beh w w' := hc ▸ q04Of_any n d w h0 h1 g0 g1
theorem ratNew_ok (v u : Value) (X Y : Int) (j k : Nat) (w : World) (hv : IntIn w v X j) (hu : IntIn w u Y k) (hj : j ≤ 268435456) (hk : k ≤ 268435456) (c : Int) (hc : dcode Y = c) :
    Calls Try.prog 5 #[v, u] w fun e w' => ∃ r, e = .returned (.tuple #[r, .int .i64 c]) ∧ RatOwn w' w.heap.size r (Rat.divInt X Y) ∧ Beh w w' := hc ▸ ratNew_any v u X Y j k w hv hu hj hk
theorem ratDiv_ok (v u : Value) (q r : Rat) (k l : Nat) (w : World) (hv : RatIn w v q k) (hu : RatIn w u r l) (hk : k ≤ 67108864) (hl : l ≤ 67108864) (c : Int) (hc : rcode r = c) :
    Calls Try.prog 14 #[v, u] w fun e w' => ∃ x, e = .returned (.tuple #[x, .int .i64 c]) ∧ RatOwn w' w.heap.size x (q / r) ∧ Beh w w' := hc ▸ ratDiv_any v u q r k l w hv hu hk hl
theorem ratCmp_ok (v u : Value) (q r : Rat) (k l : Nat) (w : World) (hv : RatIn w v q k) (hu : RatIn w u r l) (hk : k ≤ 67108864) (hl : l ≤ 67108864) (c : Int) (hc : rcmp q r = c) :
    Calls Try.prog 19 #[v, u] w fun e w' => e = .returned (.int .i64 c) ∧ Beh w w' := hc ▸ ratCmp_any v u q r k l w hv hu hk hl
theorem RSz.of {n d : Int} (hn : n.natAbs < 4294967296) (hd : d.natAbs < 4294967296) : RSz (Rat.divInt n d) 1 := by
  by_cases h : d = 0
  · rw [h, Rat.divInt_zero]; exact RSz.zero
  · exact divInt_sz (Sz.small hn) (Sz.small hd) h

theorem RatRd.cast {w : World} {v : Value} {q q' : Rat} (h : RatRd w v q) (e : q' = q) : RatRd w v q' := e ▸ h
/-- rows of fractions that a call made itself -/
inductive RatRow (w : World) (k : Nat) : List Rat → List (List Value) → Prop
  | nil : RatRow w k [] []
  | cons {s : Bool} {p : Option Addr} {n c : Nat} {t : Bool} {r : Option Addr} {m d : Nat} {q : Rat} {qs : List Rat} {vs : List (List Value)} : RatIn w (.agg #[.bool s, .slice p n c, .bool t, .slice r m d]) q k → RatRow w k qs vs → RatRow w k (q :: qs) ([.bool s, .slice p n c, .bool t, .slice r m d] :: vs)
theorem RatRow.len {w : World} {k : Nat} {qs : List Rat} {vs : List (List Value)} (h : RatRow w k qs vs) : vs.length = qs.length := by
  induction h with
  | nil => rfl
  | cons _ _ ih => simp [ih]
theorem RatRow.four {w : World} {k : Nat} {qs : List Rat} {vs : List (List Value)} (h : RatRow w k qs vs) : ∀ v ∈ vs, v.length = 4 := by
  induction h with
  | nil => intro v hv; cases hv
  | cons _ _ ih =>
    intro v hv
    rcases List.mem_cons.1 hv with rfl | e
    · rfl
    · exact ih v e
theorem RatRow.kp {U : TypeId} {w w' : World} {k : Nat} {qs : List Rat} {vs : List (List Value)} (h : RatRow w k qs vs) (kp : Kp U w w') : RatRow w' k qs vs := by
  induction h with
  | nil => exact .nil
  | cons h1 _ ih => exact .cons (h1.kp kp) ih
theorem RatRow.at {w : World} {k : Nat} {qs : List Rat} {vs : List (List Value)} (h : RatRow w k qs vs) : ∀ (j : Nat) (q : Rat), qs[j]? = some q → ∃ s p' n' c' t r m d, vs[j]? = some [Value.bool s, .slice p' n' c', .bool t, .slice r m d] ∧ RatIn w (.agg #[.bool s, .slice p' n' c', .bool t, .slice r m d]) q k := by
  induction h with
  | nil => intro j q hq; simp at hq
  | cons h1 _ ih =>
    intro j q hq
    cases j with
    | zero => cases hq; exact ⟨_, _, _, _, _, _, _, _, rfl, h1⟩
    | succ j => exact ih j q (by simpa using hq)
theorem RatRow.append {w : World} {k : Nat} {qs qs' : List Rat} {vs vs' : List (List Value)} (h : RatRow w k qs vs) (h' : RatRow w k qs' vs') : RatRow w k (qs ++ qs') (vs ++ vs') := by
  induction h with
  | nil => exact h'
  | cons h1 _ ih => exact .cons h1 ih
theorem flat_at : ∀ (vs : List (List Value)) (j : Nat) (v : List Value), (∀ v ∈ vs, v.length = 4) → vs[j]? = some v → ∀ (o : Nat) (u : Value), v[o]? = some u → vs.flatten[j * 4 + o]? = some u := by
  intro vs
  induction vs with
  | nil => intro j v _ h; simp at h
  | cons x r ih =>
    intro j v hl h o u hu
    have hx : x.length = 4 := hl x (by simp)
    cases j with
    | zero =>
      simp at h
      subst h
      have ho : o < 4 := by have := (List.getElem?_eq_some_iff.1 hu).1; omega
      rw [List.flatten_cons, List.getElem?_append_left (by omega)]
      simpa using hu
    | succ j =>
      have h' : r[j]? = some v := by simpa using h
      rw [List.flatten_cons, List.getElem?_append_right (by omega), hx, show (j + 1) * 4 + o - 4 = j * 4 + o by omega]
      exact ih j v (fun v hv => hl v (by simp [hv])) h' o u hu
theorem ownV_rats {C : Cx} {β : Nat → Nat} {w : World} {i : Nat} {t : TypeId} {cs : List AV} {qs : List Rat} {k : Nat} {vs : List (List Value)} {n c : Nat} (h : OwnV C β w i t cs) (spare : List AV) (hcs : cs = vs.flatten.map .val ++ spare) (hn : n = qs.length) (hq : RatRow w k qs vs) (hc : n ≤ c) (hcm : c ≤ maxLen) :
    RatsIn w (.slice (some ⟨β i, 0, none⟩) n c) qs k := by
  subst hn
  refine ⟨_, _, rfl, hc, hcm, fun j q hj => ?_⟩
  obtain ⟨s, p', n', c', t', r, m, d, hvj, hin⟩ := hq.at j q hj
  refine ⟨β i, 0, s, p', n', c', t', r, m, d, rfl, fun o u hu => ?_, hin⟩
  refine h.cls.cell ?_
  have := flat_at vs j _ hq.four hvj o u hu
  rw [hcs, List.map_append, leaf_vals, List.getElem?_toArray, Nat.zero_add, List.getElem?_append_left (List.getElem?_eq_some_iff.1 this).1]
  exact this

set_option maxHeartbeats 2000000 in
theorem works04_any (w : World) : Calls Try.prog 4 #[] w fun e w' => e = .returned (.bool true) ∧ Beh w w' := by
  refine calm_enter (C := cxOf Try.prog w _) (args := []) Try.func4 rfl Try.ntmps4 (Nat.le_of_ble_eq_true rfl) ?_
  (repeat (first | refine wN ?_ | refine wQ ?_ | refine cx_r rfl ?_ | refine cx_d (by kernel_rfl) rfl ?_ | refine wO rfl rfl ?_ | refine wT rfl ?_ | refine wF rfl ?_ | refine wB ?_ | refine wK ?_ | refine wE rfl ?_ | refine wS ?_))
  refine VO.call rfl rfl ⟨_, Try.func6, by kernel_rfl, by kernel_rfl⟩ (fun wa1 ka1 ba1 => (ratOf_ok (6) (-4) wa1 (by omega) (by omega) (by omega) (by omega) (0) rfl).mono ?_)
  rintro e w1 ⟨r1, rfl, q1, hb1⟩
  obtain ⟨s1, p1, n1, c1, t1, y1, m1, d1, rfl⟩ := q1.form
  refine ⟨_, rfl, hb1, fun kb1 _ bb1 => wV rfl ?_⟩
  (repeat (first | refine wN ?_ | refine wQ ?_ | refine cx_r rfl ?_ | refine cx_d (by kernel_rfl) rfl ?_ | refine wO rfl rfl ?_ | refine wT rfl ?_ | refine wF rfl ?_ | refine wB ?_ | refine wK ?_ | refine wE rfl ?_ | refine wS ?_))
  refine VO.call rfl rfl ⟨_, Try.func13, by kernel_rfl, by kernel_rfl⟩ (fun wa2 ka2 ba2 => (bOf_any (0) wa2 (by omega) (by omega)).mono ?_)
  rintro e w2 ⟨r2, rfl, q2, hb2⟩
  obtain ⟨s2, p2, n2, c2, rfl⟩ := q2.form
  refine ⟨_, rfl, hb2, fun kb2 _ bb2 => wV rfl ?_⟩
  (repeat (first | refine wN ?_ | refine wQ ?_ | refine cx_r rfl ?_ | refine cx_d (by kernel_rfl) rfl ?_ | refine wO rfl rfl ?_ | refine wT rfl ?_ | refine wF rfl ?_ | refine wB ?_ | refine wK ?_ | refine wE rfl ?_ | refine wS ?_))
  refine VO.call rfl rfl ⟨_, Try.func13, by kernel_rfl, by kernel_rfl⟩ (fun wa3 ka3 ba3 => (bOf_any (5) wa3 (by omega) (by omega)).mono ?_)
  rintro e w3 ⟨r3, rfl, q3, hb3⟩
  obtain ⟨s3, p3, n3, c3, rfl⟩ := q3.form
  refine ⟨_, rfl, hb3, fun kb3 _ bb3 => wV rfl ?_⟩
  (repeat (first | refine wN ?_ | refine wQ ?_ | refine cx_r rfl ?_ | refine cx_d (by kernel_rfl) rfl ?_ | refine wO rfl rfl ?_ | refine wT rfl ?_ | refine wF rfl ?_ | refine wB ?_ | refine wK ?_ | refine wE rfl ?_ | refine wS ?_))
  refine VO.call rfl rfl ⟨_, Try.func5, by kernel_rfl, by kernel_rfl⟩ (fun wa4 ka4 ba4 => (ratNew_ok _ _ 0 5 1 1 wa4 ((q2.kp (by (with_reducible (repeat (first | assumption | exact kR _ | refine kT ?_ (by assumption)))))).in (Sz.small (by decide))) ((q3.kp (by (with_reducible (repeat (first | assumption | exact kR _ | refine kT ?_ (by assumption)))))).in (Sz.small (by decide))) (by omega) (by omega) 0 rfl).mono ?_)
  rintro e w4 ⟨r4, rfl, q4, hb4⟩
  obtain ⟨s4, p4, n4, c4, t4, y4, m4, d4, rfl⟩ := q4.form
  refine ⟨_, rfl, hb4, fun kb4 _ bb4 => wV rfl ?_⟩
  (repeat (first | refine wN ?_ | refine wQ ?_ | refine cx_r rfl ?_ | refine cx_d (by kernel_rfl) rfl ?_ | refine wO rfl rfl ?_ | refine wT rfl ?_ | refine wF rfl ?_ | refine wB ?_ | refine wK ?_ | refine wE rfl ?_ | refine wS ?_))
  refine VO.call rfl rfl ⟨_, Try.func15, by kernel_rfl, by kernel_rfl⟩ (fun wa5 ka5 ba5 => (by04_any (1) (2) wa5 (by omega) (by omega) (by omega) (by omega)).mono ?_)
  rintro e w5 ⟨r5, rfl, q5, hb5⟩
  obtain ⟨s5, p5, n5, c5, t5, y5, m5, d5, rfl⟩ := q5.form
  refine ⟨_, rfl, hb5, fun kb5 _ bb5 => wV rfl ?_⟩
  (repeat (first | refine wN ?_ | refine wQ ?_ | refine cx_r rfl ?_ | refine cx_d (by kernel_rfl) rfl ?_ | refine wO rfl rfl ?_ | refine wT rfl ?_ | refine wF rfl ?_ | refine wB ?_ | refine wK ?_ | refine wE rfl ?_ | refine wS ?_))
  refine VO.call rfl rfl ⟨_, Try.func15, by kernel_rfl, by kernel_rfl⟩ (fun wa6 ka6 ba6 => (by04_any (-1) (4) wa6 (by omega) (by omega) (by omega) (by omega)).mono ?_)
  rintro e w6 ⟨r6, rfl, q6, hb6⟩
  obtain ⟨s6, p6, n6, c6, t6, y6, m6, d6, rfl⟩ := q6.form
  refine ⟨_, rfl, hb6, fun kb6 _ bb6 => wV rfl ?_⟩
  (repeat (first | refine wN ?_ | refine wQ ?_ | refine cx_r rfl ?_ | refine cx_d (by kernel_rfl) rfl ?_ | refine wO rfl rfl ?_ | refine wT rfl ?_ | refine wF rfl ?_ | refine wB ?_ | refine wK ?_ | refine wE rfl ?_ | refine wS ?_))
  refine VO.call rfl rfl ⟨_, Try.func14, by kernel_rfl, by kernel_rfl⟩ (fun wa7 ka7 ba7 => (ratDiv_ok _ _ (Rat.divInt (1) (2)) (Rat.divInt (-1) (4)) (1) (1) wa7 ((q5.kp (by (with_reducible (repeat (first | assumption | exact kR _ | refine kT ?_ (by assumption)))))).in (RSz.of (by decide) (by decide))) ((q6.kp (by (with_reducible (repeat (first | assumption | exact kR _ | refine kT ?_ (by assumption)))))).in (RSz.of (by decide) (by decide))) (by omega) (by omega) 0 (by decide +kernel)).mono ?_)
  rintro e w7 ⟨r7, rfl, q7, hb7⟩
  obtain ⟨s7, p7, n7, c7, t7, y7, m7, d7, rfl⟩ := q7.form
  refine ⟨_, rfl, hb7, fun kb7 _ bb7 => wV rfl ?_⟩
  (repeat (first | refine wN ?_ | refine wQ ?_ | refine cx_r rfl ?_ | refine cx_d (by kernel_rfl) rfl ?_ | refine wO rfl rfl ?_ | refine wT rfl ?_ | refine wF rfl ?_ | refine wB ?_ | refine wK ?_ | refine wE rfl ?_ | refine wS ?_))
  refine VO.call rfl rfl ⟨_, Try.func6, by kernel_rfl, by kernel_rfl⟩ (fun wa8 ka8 ba8 => (ratOf_ok (1) (0) wa8 (by omega) (by omega) (by omega) (by omega) (20) rfl).mono ?_)
  rintro e w8 ⟨r8, rfl, q8, hb8⟩
  obtain ⟨s8, p8, n8, c8, t8, y8, m8, d8, rfl⟩ := q8.form
  refine ⟨_, rfl, hb8, fun kb8 _ bb8 => wV rfl ?_⟩
  (repeat (first | refine wN ?_ | refine wQ ?_ | refine cx_r rfl ?_ | refine cx_d (by kernel_rfl) rfl ?_ | refine wO rfl rfl ?_ | refine wT rfl ?_ | refine wF rfl ?_ | refine wB ?_ | refine wK ?_ | refine wE rfl ?_ | refine wS ?_))
  refine VO.call rfl rfl ⟨_, Try.func7, by kernel_rfl, by kernel_rfl⟩ (fun wa9 ka9 ba9 => (q04Of_ok (-3) (2) wa9 (by omega) (by omega) (by omega) (by omega) (0) rfl).mono ?_)
  rintro e w9 ⟨r9, rfl, q9, hb9⟩
  obtain ⟨s9, p9, n9, c9, t9, y9, m9, d9, rfl⟩ := q9.form
  refine ⟨_, rfl, hb9, fun kb9 _ bb9 => wV rfl ?_⟩
  (repeat (first | refine wN ?_ | refine wQ ?_ | refine cx_r rfl ?_ | refine cx_d (by kernel_rfl) rfl ?_ | refine wO rfl rfl ?_ | refine wT rfl ?_ | refine wF rfl ?_ | refine wB ?_ | refine wK ?_ | refine wE rfl ?_ | refine wS ?_))
  refine VO.call rfl rfl ⟨_, Try.func7, by kernel_rfl, by kernel_rfl⟩ (fun wa10 ka10 ba10 => (q04Of_ok (5) (6) wa10 (by omega) (by omega) (by omega) (by omega) (0) rfl).mono ?_)
  rintro e w10 ⟨r10, rfl, q10, hb10⟩
  obtain ⟨s10, p10, n10, c10, t10, y10, m10, d10, rfl⟩ := q10.form
  refine ⟨_, rfl, hb10, fun kb10 _ bb10 => wV rfl ?_⟩
  (repeat (first | refine wN ?_ | refine wQ ?_ | refine cx_r rfl ?_ | refine cx_d (by kernel_rfl) rfl ?_ | refine wO rfl rfl ?_ | refine wT rfl ?_ | refine wF rfl ?_ | refine wB ?_ | refine wK ?_ | refine wE rfl ?_ | refine wS ?_))
  refine VO.call rfl rfl ⟨_, Try.func7, by kernel_rfl, by kernel_rfl⟩ (fun wa11 ka11 ba11 => (q04Of_ok (-2) (1) wa11 (by omega) (by omega) (by omega) (by omega) (0) rfl).mono ?_)
  rintro e w11 ⟨r11, rfl, q11, hb11⟩
  obtain ⟨s11, p11, n11, c11, t11, y11, m11, d11, rfl⟩ := q11.form
  refine ⟨_, rfl, hb11, fun kb11 _ bb11 => wV rfl ?_⟩
  (repeat (first | refine wN ?_ | refine wQ ?_ | refine cx_r rfl ?_ | refine cx_d (by kernel_rfl) rfl ?_ | refine wO rfl rfl ?_ | refine wT rfl ?_ | refine wF rfl ?_ | refine wB ?_ | refine wK ?_ | refine wE rfl ?_ | refine wS ?_))
  refine VO.call rfl rfl ⟨_, Try.func7, by kernel_rfl, by kernel_rfl⟩ (fun wa12 ka12 ba12 => (q04Of_ok (2) (3) wa12 (by omega) (by omega) (by omega) (by omega) (0) rfl).mono ?_)
  rintro e w12 ⟨r12, rfl, q12, hb12⟩
  obtain ⟨s12, p12, n12, c12, t12, y12, m12, d12, rfl⟩ := q12.form
  refine ⟨_, rfl, hb12, fun kb12 _ bb12 => wV rfl ?_⟩
  (repeat (first | refine wN ?_ | refine wQ ?_ | refine cx_r rfl ?_ | refine cx_d (by kernel_rfl) rfl ?_ | refine wO rfl rfl ?_ | refine wT rfl ?_ | refine wF rfl ?_ | refine wB ?_ | refine wK ?_ | refine wE rfl ?_ | refine wS ?_))
  refine VO.call rfl rfl ⟨_, Try.func11, by kernel_rfl, by kernel_rfl⟩ (fun wa13 ka13 ba13 => (is04_any (Rat.divInt (6) (-4)) _ _ wa13 (q1.kp (by (with_reducible (repeat (first | assumption | exact kR _ | refine kT ?_ (by assumption)))))).rd (RatRd.cast (q9.kp (by (with_reducible (repeat (first | assumption | exact kR _ | refine kT ?_ (by assumption)))))).rd (by decide +kernel))).mono ?_)
  rintro e w13 ⟨rfl, hb13⟩
  skip
  refine ⟨_, rfl, hb13, fun kb13 _ bb13 => wV rfl ?_⟩
  (repeat (first | refine wN ?_ | refine wQ ?_ | refine cx_r rfl ?_ | refine cx_d (by kernel_rfl) rfl ?_ | refine wO rfl rfl ?_ | refine wT rfl ?_ | refine wF rfl ?_ | refine wB ?_ | refine wK ?_ | refine wE rfl ?_ | refine wS ?_))
  refine VO.call rfl rfl ⟨_, Try.func16, by kernel_rfl, by kernel_rfl⟩ (fun wa14 ka14 ba14 => (q04Zero_any wa14).mono ?_)
  rintro e w14 ⟨r14, rfl, q14, hb14⟩
  obtain ⟨s14, p14, n14, c14, t14, y14, m14, d14, rfl⟩ := q14.form
  refine ⟨_, rfl, hb14, fun kb14 _ bb14 => wV rfl ?_⟩
  (repeat (first | refine wN ?_ | refine wQ ?_ | refine cx_r rfl ?_ | refine cx_d (by kernel_rfl) rfl ?_ | refine wO rfl rfl ?_ | refine wT rfl ?_ | refine wF rfl ?_ | refine wB ?_ | refine wK ?_ | refine wE rfl ?_ | refine wS ?_))
  refine VO.call rfl rfl ⟨_, Try.func11, by kernel_rfl, by kernel_rfl⟩ (fun wa15 ka15 ba15 => (is04_any (Rat.divInt 0 5) _ _ wa15 (q4.kp (by (with_reducible (repeat (first | assumption | exact kR _ | refine kT ?_ (by assumption)))))).rd (RatRd.cast (q14.kp (by (with_reducible (repeat (first | assumption | exact kR _ | refine kT ?_ (by assumption)))))).rd (by decide +kernel))).mono ?_)
  rintro e w15 ⟨rfl, hb15⟩
  skip
  refine ⟨_, rfl, hb15, fun kb15 _ bb15 => wV rfl ?_⟩
  (repeat (first | refine wN ?_ | refine wQ ?_ | refine cx_r rfl ?_ | refine cx_d (by kernel_rfl) rfl ?_ | refine wO rfl rfl ?_ | refine wT rfl ?_ | refine wF rfl ?_ | refine wB ?_ | refine wK ?_ | refine wE rfl ?_ | refine wS ?_))
  refine VO.call rfl rfl ⟨_, Try.func15, by kernel_rfl, by kernel_rfl⟩ (fun wa16 ka16 ba16 => (by04_any (1) (2) wa16 (by omega) (by omega) (by omega) (by omega)).mono ?_)
  rintro e w16 ⟨r16, rfl, q16, hb16⟩
  obtain ⟨s16, p16, n16, c16, t16, y16, m16, d16, rfl⟩ := q16.form
  refine ⟨_, rfl, hb16, fun kb16 _ bb16 => wV rfl ?_⟩
  (repeat (first | refine wN ?_ | refine wQ ?_ | refine cx_r rfl ?_ | refine cx_d (by kernel_rfl) rfl ?_ | refine wO rfl rfl ?_ | refine wT rfl ?_ | refine wF rfl ?_ | refine wB ?_ | refine wK ?_ | refine wE rfl ?_ | refine wS ?_))
  refine VO.call rfl rfl ⟨_, Try.func15, by kernel_rfl, by kernel_rfl⟩ (fun wa17 ka17 ba17 => (by04_any (1) (3) wa17 (by omega) (by omega) (by omega) (by omega)).mono ?_)
  rintro e w17 ⟨r17, rfl, q17, hb17⟩
  obtain ⟨s17, p17, n17, c17, t17, y17, m17, d17, rfl⟩ := q17.form
  refine ⟨_, rfl, hb17, fun kb17 _ bb17 => wV rfl ?_⟩
  (repeat (first | refine wN ?_ | refine wQ ?_ | refine cx_r rfl ?_ | refine cx_d (by kernel_rfl) rfl ?_ | refine wO rfl rfl ?_ | refine wT rfl ?_ | refine wF rfl ?_ | refine wB ?_ | refine wK ?_ | refine wE rfl ?_ | refine wS ?_))
  refine VO.call rfl rfl ⟨_, Try.func17, by kernel_rfl, by kernel_rfl⟩ (fun wa18 ka18 ba18 => (ratAdd_any _ _ (Rat.divInt (1) (2)) (Rat.divInt (1) (3)) (1) (1) wa18 ((q16.kp (by (with_reducible (repeat (first | assumption | exact kR _ | refine kT ?_ (by assumption)))))).in (RSz.of (by decide) (by decide))) ((q17.kp (by (with_reducible (repeat (first | assumption | exact kR _ | refine kT ?_ (by assumption)))))).in (RSz.of (by decide) (by decide))) (by omega) (by omega)).mono ?_)
  rintro e w18 ⟨r18, rfl, q18, hb18⟩
  obtain ⟨s18, p18, n18, c18, t18, y18, m18, d18, rfl⟩ := q18.form
  refine ⟨_, rfl, hb18, fun kb18 _ bb18 => wV rfl ?_⟩
  (repeat (first | refine wN ?_ | refine wQ ?_ | refine cx_r rfl ?_ | refine cx_d (by kernel_rfl) rfl ?_ | refine wO rfl rfl ?_ | refine wT rfl ?_ | refine wF rfl ?_ | refine wB ?_ | refine wK ?_ | refine wE rfl ?_ | refine wS ?_))
  refine VO.call rfl rfl ⟨_, Try.func11, by kernel_rfl, by kernel_rfl⟩ (fun wa19 ka19 ba19 => (is04_any ((Rat.divInt (1) (2)) + (Rat.divInt (1) (3))) _ _ wa19 (q18.kp (by (with_reducible (repeat (first | assumption | exact kR _ | refine kT ?_ (by assumption)))))).rd (RatRd.cast (q10.kp (by (with_reducible (repeat (first | assumption | exact kR _ | refine kT ?_ (by assumption)))))).rd (by decide +kernel))).mono ?_)
  rintro e w19 ⟨rfl, hb19⟩
  skip
  refine ⟨_, rfl, hb19, fun kb19 _ bb19 => wV rfl ?_⟩
  (repeat (first | refine wN ?_ | refine wQ ?_ | refine cx_r rfl ?_ | refine cx_d (by kernel_rfl) rfl ?_ | refine wO rfl rfl ?_ | refine wT rfl ?_ | refine wF rfl ?_ | refine wB ?_ | refine wK ?_ | refine wE rfl ?_ | refine wS ?_))
  refine VO.call rfl rfl ⟨_, Try.func15, by kernel_rfl, by kernel_rfl⟩ (fun wa20 ka20 ba20 => (by04_any (-2) (3) wa20 (by omega) (by omega) (by omega) (by omega)).mono ?_)
  rintro e w20 ⟨r20, rfl, q20, hb20⟩
  obtain ⟨s20, p20, n20, c20, t20, y20, m20, d20, rfl⟩ := q20.form
  refine ⟨_, rfl, hb20, fun kb20 _ bb20 => wV rfl ?_⟩
  (repeat (first | refine wN ?_ | refine wQ ?_ | refine cx_r rfl ?_ | refine cx_d (by kernel_rfl) rfl ?_ | refine wO rfl rfl ?_ | refine wT rfl ?_ | refine wF rfl ?_ | refine wB ?_ | refine wK ?_ | refine wE rfl ?_ | refine wS ?_))
  refine VO.call rfl rfl ⟨_, Try.func15, by kernel_rfl, by kernel_rfl⟩ (fun wa21 ka21 ba21 => (by04_any (9) (4) wa21 (by omega) (by omega) (by omega) (by omega)).mono ?_)
  rintro e w21 ⟨r21, rfl, q21, hb21⟩
  obtain ⟨s21, p21, n21, c21, t21, y21, m21, d21, rfl⟩ := q21.form
  refine ⟨_, rfl, hb21, fun kb21 _ bb21 => wV rfl ?_⟩
  (repeat (first | refine wN ?_ | refine wQ ?_ | refine cx_r rfl ?_ | refine cx_d (by kernel_rfl) rfl ?_ | refine wO rfl rfl ?_ | refine wT rfl ?_ | refine wF rfl ?_ | refine wB ?_ | refine wK ?_ | refine wE rfl ?_ | refine wS ?_))
  refine VO.call rfl rfl ⟨_, Try.func18, by kernel_rfl, by kernel_rfl⟩ (fun wa22 ka22 ba22 => (ratMul_any _ _ (Rat.divInt (-2) (3)) (Rat.divInt (9) (4)) (1) (1) wa22 ((q20.kp (by (with_reducible (repeat (first | assumption | exact kR _ | refine kT ?_ (by assumption)))))).in (RSz.of (by decide) (by decide))) ((q21.kp (by (with_reducible (repeat (first | assumption | exact kR _ | refine kT ?_ (by assumption)))))).in (RSz.of (by decide) (by decide))) (by omega) (by omega)).mono ?_)
  rintro e w22 ⟨r22, rfl, q22, hb22⟩
  obtain ⟨s22, p22, n22, c22, t22, y22, m22, d22, rfl⟩ := q22.form
  refine ⟨_, rfl, hb22, fun kb22 _ bb22 => wV rfl ?_⟩
  (repeat (first | refine wN ?_ | refine wQ ?_ | refine cx_r rfl ?_ | refine cx_d (by kernel_rfl) rfl ?_ | refine wO rfl rfl ?_ | refine wT rfl ?_ | refine wF rfl ?_ | refine wB ?_ | refine wK ?_ | refine wE rfl ?_ | refine wS ?_))
  refine VO.call rfl rfl ⟨_, Try.func11, by kernel_rfl, by kernel_rfl⟩ (fun wa23 ka23 ba23 => (is04_any ((Rat.divInt (-2) (3)) * (Rat.divInt (9) (4))) _ _ wa23 (q22.kp (by (with_reducible (repeat (first | assumption | exact kR _ | refine kT ?_ (by assumption)))))).rd (RatRd.cast (q9.kp (by (with_reducible (repeat (first | assumption | exact kR _ | refine kT ?_ (by assumption)))))).rd (by decide +kernel))).mono ?_)
  rintro e w23 ⟨rfl, hb23⟩
  skip
  refine ⟨_, rfl, hb23, fun kb23 _ bb23 => wV rfl ?_⟩
  (repeat (first | refine wN ?_ | refine wQ ?_ | refine cx_r rfl ?_ | refine cx_d (by kernel_rfl) rfl ?_ | refine wO rfl rfl ?_ | refine wT rfl ?_ | refine wF rfl ?_ | refine wB ?_ | refine wK ?_ | refine wE rfl ?_ | refine wS ?_))
  refine VO.call rfl rfl ⟨_, Try.func11, by kernel_rfl, by kernel_rfl⟩ (fun wa24 ka24 ba24 => (is04_any ((Rat.divInt (1) (2)) / (Rat.divInt (-1) (4))) _ _ wa24 (q7.kp (by (with_reducible (repeat (first | assumption | exact kR _ | refine kT ?_ (by assumption)))))).rd (RatRd.cast (q11.kp (by (with_reducible (repeat (first | assumption | exact kR _ | refine kT ?_ (by assumption)))))).rd (by decide +kernel))).mono ?_)
  rintro e w24 ⟨rfl, hb24⟩
  skip
  refine ⟨_, rfl, hb24, fun kb24 _ bb24 => wV rfl ?_⟩
  (repeat (first | refine wN ?_ | refine wQ ?_ | refine cx_r rfl ?_ | refine cx_d (by kernel_rfl) rfl ?_ | refine wO rfl rfl ?_ | refine wT rfl ?_ | refine wF rfl ?_ | refine wB ?_ | refine wK ?_ | refine wE rfl ?_ | refine wS ?_))
  refine VO.call rfl rfl ⟨_, Try.func15, by kernel_rfl, by kernel_rfl⟩ (fun wa25 ka25 ba25 => (by04_any (1) (3) wa25 (by omega) (by omega) (by omega) (by omega)).mono ?_)
  rintro e w25 ⟨r25, rfl, q25, hb25⟩
  obtain ⟨s25, p25, n25, c25, t25, y25, m25, d25, rfl⟩ := q25.form
  refine ⟨_, rfl, hb25, fun kb25 _ bb25 => wV rfl ?_⟩
  (repeat (first | refine wN ?_ | refine wQ ?_ | refine cx_r rfl ?_ | refine cx_d (by kernel_rfl) rfl ?_ | refine wO rfl rfl ?_ | refine wT rfl ?_ | refine wF rfl ?_ | refine wB ?_ | refine wK ?_ | refine wE rfl ?_ | refine wS ?_))
  refine VO.call rfl rfl ⟨_, Try.func15, by kernel_rfl, by kernel_rfl⟩ (fun wa26 ka26 ba26 => (by04_any (33) (100) wa26 (by omega) (by omega) (by omega) (by omega)).mono ?_)
  rintro e w26 ⟨r26, rfl, q26, hb26⟩
  obtain ⟨s26, p26, n26, c26, t26, y26, m26, d26, rfl⟩ := q26.form
  refine ⟨_, rfl, hb26, fun kb26 _ bb26 => wV rfl ?_⟩
  (repeat (first | refine wN ?_ | refine wQ ?_ | refine cx_r rfl ?_ | refine cx_d (by kernel_rfl) rfl ?_ | refine wO rfl rfl ?_ | refine wT rfl ?_ | refine wF rfl ?_ | refine wB ?_ | refine wK ?_ | refine wE rfl ?_ | refine wS ?_))
  refine VO.call rfl rfl ⟨_, Try.func19, by kernel_rfl, by kernel_rfl⟩ (fun wa27 ka27 ba27 => (ratCmp_ok _ _ (Rat.divInt (1) (3)) (Rat.divInt (33) (100)) (1) (1) wa27 ((q25.kp (by (with_reducible (repeat (first | assumption | exact kR _ | refine kT ?_ (by assumption)))))).in (RSz.of (by decide) (by decide))) ((q26.kp (by (with_reducible (repeat (first | assumption | exact kR _ | refine kT ?_ (by assumption)))))).in (RSz.of (by decide) (by decide))) (by omega) (by omega) 1 (by decide +kernel)).mono ?_)
  rintro e w27 ⟨rfl, hb27⟩
  skip
  refine ⟨_, rfl, hb27, fun kb27 _ bb27 => wV rfl ?_⟩
  (repeat (first | refine wN ?_ | refine wQ ?_ | refine cx_r rfl ?_ | refine cx_d (by kernel_rfl) rfl ?_ | refine wO rfl rfl ?_ | refine wT rfl ?_ | refine wF rfl ?_ | refine wB ?_ | refine wK ?_ | refine wE rfl ?_ | refine wS ?_))
  refine VO.call rfl rfl ⟨_, Try.func15, by kernel_rfl, by kernel_rfl⟩ (fun wa28 ka28 ba28 => (by04_any (1) (2) wa28 (by omega) (by omega) (by omega) (by omega)).mono ?_)
  rintro e w28 ⟨r28, rfl, q28, hb28⟩
  obtain ⟨s28, p28, n28, c28, t28, y28, m28, d28, rfl⟩ := q28.form
  refine ⟨_, rfl, hb28, fun kb28 _ bb28 => wV rfl ?_⟩
  (repeat (first | refine wN ?_ | refine wQ ?_ | refine cx_r rfl ?_ | refine cx_d (by kernel_rfl) rfl ?_ | refine wO rfl rfl ?_ | refine wT rfl ?_ | refine wF rfl ?_ | refine wB ?_ | refine wK ?_ | refine wE rfl ?_ | refine wS ?_))
  refine VO.call rfl rfl ⟨_, Try.func15, by kernel_rfl, by kernel_rfl⟩ (fun wa29 ka29 ba29 => (by04_any (2) (3) wa29 (by omega) (by omega) (by omega) (by omega)).mono ?_)
  rintro e w29 ⟨r29, rfl, q29, hb29⟩
  obtain ⟨s29, p29, n29, c29, t29, y29, m29, d29, rfl⟩ := q29.form
  refine ⟨_, rfl, hb29, fun kb29 _ bb29 => wV rfl ?_⟩
  (repeat (first | refine wN ?_ | refine wQ ?_ | refine cx_r rfl ?_ | refine cx_d (by kernel_rfl) rfl ?_ | refine wO rfl rfl ?_ | refine wT rfl ?_ | refine wF rfl ?_ | refine wB ?_ | refine wK ?_ | refine wE rfl ?_ | refine wS ?_))
  refine VO.call rfl rfl ⟨_, Try.func15, by kernel_rfl, by kernel_rfl⟩ (fun wa30 ka30 ba30 => (by04_any (3) (5) wa30 (by omega) (by omega) (by omega) (by omega)).mono ?_)
  rintro e w30 ⟨r30, rfl, q30, hb30⟩
  obtain ⟨s30, p30, n30, c30, t30, y30, m30, d30, rfl⟩ := q30.form
  refine ⟨_, rfl, hb30, fun kb30 _ bb30 => wV rfl ?_⟩
  (repeat (first | refine wN ?_ | refine wQ ?_ | refine cx_r rfl ?_ | refine cx_d (by kernel_rfl) rfl ?_ | refine wO rfl rfl ?_ | refine wT rfl ?_ | refine wF rfl ?_ | refine wB ?_ | refine wK ?_ | refine wE rfl ?_ | refine wS ?_))
  refine VO.callF rfl ⟨_, Try.func20, by kernel_rfl, by kernel_rfl⟩ (fun wa31 β ka31 ba31 ho => (ratMax_any _ _ (Rat.divInt (1) (2)) [Rat.divInt (2) (3), Rat.divInt (3) (5)] 1 wa31 (((q28.kp (by (with_reducible (repeat (first | assumption | exact kR _ | refine kT ?_ (by assumption)))))).in (RSz.of (by decide) (by decide))).mono' (show 1 ≤ 1 by omega)) (ownV_rats (ho.own 102 (.base (List.mem_singleton.2 rfl)) _ _ rfl) [] (vs := [[.bool s29, .slice p29 n29 c29, .bool t29, .slice y29 m29 d29], [.bool s30, .slice p30 n30 c30, .bool t30, .slice y30 m30 d30]]) (by rfl) rfl (RatRow.cons (((q29.kp (by (with_reducible (repeat (first | assumption | exact kR _ | refine kT ?_ (by assumption)))))).in (RSz.of (by decide) (by decide))).mono' (show 1 ≤ 1 by omega)) (RatRow.cons (((q30.kp (by (with_reducible (repeat (first | assumption | exact kR _ | refine kT ?_ (by assumption)))))).in (RSz.of (by decide) (by decide))).mono' (show 1 ≤ 1 by omega)) RatRow.nil)) (Nat.le_of_ble_eq_true rfl) (by decide)) (by omega) (Nat.le_of_ble_eq_true rfl)).mono ?_)
  rintro e w31 ⟨r31, rfl, q31, z31, hb31⟩
  obtain ⟨s31, p31, n31, c31, t31, y31, m31, d31, rfl⟩ := q31.form
  refine ⟨_, rfl, hb31, fun kb31 _ bb31 => wV rfl ?_⟩
  (repeat (first | refine wN ?_ | refine wQ ?_ | refine cx_r rfl ?_ | refine cx_d (by kernel_rfl) rfl ?_ | refine wO rfl rfl ?_ | refine wT rfl ?_ | refine wF rfl ?_ | refine wB ?_ | refine wK ?_ | refine wE rfl ?_ | refine wS ?_))
  refine VO.call rfl rfl ⟨_, Try.func11, by kernel_rfl, by kernel_rfl⟩ (fun wa32 ka32 ba32 => (is04_any (rbest rmore (Rat.divInt (1) (2)) [Rat.divInt (2) (3), Rat.divInt (3) (5)]) _ _ wa32 (q31.kp (by (with_reducible (repeat (first | assumption | exact kR _ | refine kT ?_ (by assumption)))))).rd (RatRd.cast (q12.kp (by (with_reducible (repeat (first | assumption | exact kR _ | refine kT ?_ (by assumption)))))).rd (by decide +kernel))).mono ?_)
  rintro e w32 ⟨rfl, hb32⟩
  skip
  refine ⟨_, rfl, hb32, fun kb32 _ bb32 => wV rfl ?_⟩
  (repeat (first | refine wN ?_ | refine wQ ?_ | refine cx_r rfl ?_ | refine cx_d (by kernel_rfl) rfl ?_ | refine wO rfl rfl ?_ | refine wT rfl ?_ | refine wF rfl ?_ | refine wB ?_ | refine wK ?_ | refine wE rfl ?_ | refine wS ?_))
  refine VS.ret (cx_ok _ _) rfl rfl (fun wz kz bz => ?_)
  exact ⟨rfl, bz⟩
end Go.Proofs.Ytppfcobomaaceaa
