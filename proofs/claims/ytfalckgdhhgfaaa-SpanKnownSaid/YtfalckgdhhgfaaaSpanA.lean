/- What the span layer and its reference read: a grid of bools; who is a member. -/
import Derived.Test.YtfalckgdhhgfaaaBase
import Derived.Test.YtfalckgdhhgfaaaProg
namespace Go.Proofs.Ytfalckgdhhgfaaa
open Go.RowKit

def bools (r : List Bool) : List Value := r.map Value.bool
@[simp] theorem bools_length (r : List Bool) : (bools r).length = r.length := by simp [bools]
theorem bools_get {r : List Bool} {j : Nat} {b : Bool} (h : r[j]? = some b) : (bools r)[j]? = some (.bool b) := by simp [bools, h]
theorem bools_one (r : List Bool) : ∀ u ∈ bools r, u.oneCell' = true := by
  intro u hu; obtain ⟨_, _, rfl⟩ := List.mem_map.1 hu; rfl

/-- a slice of slices of bools reads as M -/
def RdGrid (w : World) (v : Value) (M : List (List Bool)) : Prop :=
  ∃ hs : List Value, Rd w 1 v M.length hs ∧ ∀ (i : Nat) r, M[i]? = some r → ∃ u, hs[i]? = some u ∧ Rd w 1 u r.length (bools r)
theorem RdGrid.below {w w' : World} {v : Value} {M : List (List Bool)} (h : RdGrid w v M) (hb : Below w.heap.size w w') : RdGrid w' v M := by
  obtain ⟨hs, h1, h2⟩ := h
  exact ⟨hs, h1.below hb, fun i r hi => by obtain ⟨u, hu, hr⟩ := h2 i r hi; exact ⟨u, hu, hr.below hb⟩⟩
theorem RdGrid.form {w : World} {v : Value} {M : List (List Bool)} (h : RdGrid w v M) : ∃ p c, v = .slice p M.length c ∧ M.length ≤ c ∧ c ≤ 9223372036854775807 := by
  obtain ⟨hs, h1, _⟩ := h
  obtain ⟨p, c, hv, a, b, _⟩ := h1.form
  exact ⟨p, c, hv, a, by unfold maxLen at b; omega⟩
/-- a row's header, and its form -/
theorem RdGrid.rowAt {w : World} {p : Option Addr} {n c : Nat} {M : List (List Bool)} (h : RdGrid w (.slice p n c) M) {k : Nat} (hk : k < M.length) :
    ∃ b off q d r, p = some ⟨b, off, none⟩ ∧ M[k]? = some r ∧ w.cell? ⟨b, off + k, none⟩ = some (.slice q r.length d) ∧ r.length ≤ d ∧ d ≤ 9223372036854775807 ∧ Rd w 1 (.slice q r.length d) r.length (bools r) := by
  obtain ⟨hs, h1, h2⟩ := h
  have hr := List.getElem?_eq_getElem hk
  obtain ⟨u, hu, hrd⟩ := h2 k _ hr
  obtain ⟨q, d, rfl, e1, e2, _⟩ := hrd.form
  obtain ⟨p', c', hv, _, _, _, h4⟩ := h1
  simp only [Value.slice.injEq] at hv
  obtain ⟨rfl, rfl, rfl⟩ := hv
  obtain ⟨b, off, hp, hc⟩ := h4 (by omega)
  exact ⟨b, off, q, d, _, hp, hr, hc k _ hu, e1, by unfold maxLen at e2; omega, hrd⟩
theorem Rd.boolAt {w : World} {n c : Nat} {p : Option Addr} {r : List Bool} (h : Rd w 1 (.slice p n c) n (bools r)) {k : Nat} (hk : k < n) : ∃ b off x, p = some ⟨b, off, none⟩ ∧ r[k]? = some x ∧ w.cell? ⟨b, off + k, none⟩ = some (.bool x) := by
  obtain ⟨p', c', hv, _, _, h3, h4⟩ := h
  simp only [Value.slice.injEq, true_and] at hv
  obtain ⟨rfl, rfl⟩ := hv
  obtain ⟨b, off, hp, hc⟩ := h4 (by omega)
  have hl : k < r.length := by simp at h3; omega
  have hx := List.getElem?_eq_getElem hl
  exact ⟨b, off, _, hp, hx, hc k _ (bools_get hx)⟩

/-- is entity e a member in year y? -/
def mem (M : List (List Bool)) (y e : Int) : Bool := decide (0 ≤ y ∧ 0 ≤ e) && ((M[y.toNat]?.getD [])[e.toNat]?.getD false)
theorem mem_year {M : List (List Bool)} {y e : Int} (h : mem M y e = true) : 0 ≤ y ∧ y < (M.length : Int) ∧ 0 ≤ e := by
  unfold mem at h
  simp only [Bool.and_eq_true, decide_eq_true_eq] at h
  obtain ⟨⟨h1, h2⟩, h3⟩ := h
  refine ⟨h1, ?_, h2⟩
  rcases Nat.lt_or_ge y.toNat M.length with h | h
  · omega
  · rw [List.getElem?_eq_none h] at h3; simp at h3
theorem mem_off {M : List (List Bool)} {y e : Int} (h : ¬ (0 ≤ y ∧ y < (M.length : Int) ∧ 0 ≤ e)) : mem M y e = false := by
  cases hm : mem M y e with
  | false => rfl
  | true => exact absurd (mem_year hm) h
theorem mem_row {M : List (List Bool)} {k : Nat} {r : List Bool} (h : M[k]? = some r) (e : Nat) : mem M (k : Int) (e : Int) = r[e]?.getD false := by
  unfold mem
  rw [decide_eq_true (by omega), Int.toNat_natCast, Int.toNat_natCast, h]; simp

theorem year_yes (v : Value) (y : Int) (M : List (List Bool)) (w : World) (hg : RdGrid w v M) (h : 0 ≤ y ∧ y < (M.length : Int)) :
    Calls Try.prog 19 #[.agg #[v], .int .i64 y] w fun e w' => e = .returned (.bool true) ∧ Below w.heap.size w w' := by
  obtain ⟨p, c, rfl, hnc, hcm⟩ := hg.form
  obtain ⟨h0, h1⟩ := h
  refine walk_q fun R' hR' => ?_
  go_enter Try.func19, Try.ntmps19
  go_wp2
  exact hR'.out _ _ ⟨rfl, (Below.refl _ _).alloc (Nat.le_refl _) _⟩

theorem year_no (v : Value) (y : Int) (M : List (List Bool)) (w : World) (hg : RdGrid w v M) (h : ¬ (0 ≤ y ∧ y < (M.length : Int))) :
    Calls Try.prog 19 #[.agg #[v], .int .i64 y] w fun e w' => e = .returned (.bool false) ∧ Below w.heap.size w w' := by
  obtain ⟨p, c, rfl, hnc, hcm⟩ := hg.form
  refine walk_q fun R' hR' => ?_
  by_cases h0 : 0 ≤ y
  · have h1 : ¬ y < (M.length : Int) := fun h1 => h ⟨h0, h1⟩
    go_enter Try.func19, Try.ntmps19
    go_wp2
    exact hR'.out _ _ ⟨rfl, (Below.refl _ _).alloc (Nat.le_refl _) _⟩
  · go_enter Try.func19, Try.ntmps19
    go_wp2
    exact hR'.out _ _ ⟨rfl, (Below.refl _ _).alloc (Nat.le_refl _) _⟩

theorem is_any (v : Value) (y e : Int) (M : List (List Bool)) (w : World) (hg : RdGrid w v M) :
    Calls Try.prog 8 #[.agg #[v], .int .i64 y, .int .i64 e] w fun x w' => x = .returned (.bool (mem M y e)) ∧ Below w.heap.size w w' := by
  obtain ⟨p, c, rfl, hnc, hcm⟩ := hg.form
  refine walk_q fun R' hR' => ?_
  by_cases hy : 0 ≤ y ∧ y < (M.length : Int)
  · obtain ⟨hy0, hy1⟩ := hy
    by_cases h0 : 0 ≤ e
    · obtain ⟨k, rfl⟩ := Int.eq_ofNat_of_zero_le hy0
      obtain ⟨j, rfl⟩ := Int.eq_ofNat_of_zero_le h0
      obtain ⟨b, off, q, d, r, rfl, hr, hc, hrd, hdm, hR⟩ := hg.rowAt (k := k) (by omega)
      have hb := cell_lt hc
      simp only at hb
      by_cases hj : j < r.length
      · obtain ⟨b2, off2, x, rfl, hx, hc2⟩ := hR.boolAt (k := j) hj
        have hb2 := cell_lt hc2
        simp only at hb2
        have hm : mem M k j = x := by rw [mem_row hr, hx]; rfl
        clear hg hR
        go_enter Try.func8, Try.ntmps8
        go_wp2
        exact hR'.out _ _ ⟨by rw [hm]; rfl, ((Below.refl _ _).alloc (Nat.le_refl _) _).alloc (by simp) _⟩
      · have hm : mem M k j = false := by rw [mem_row hr, List.getElem?_eq_none (by omega)]; rfl
        clear hg hR
        go_enter Try.func8, Try.ntmps8
        go_wp2
        exact hR'.out _ _ ⟨by rw [hm]; rfl, ((Below.refl _ _).alloc (Nat.le_refl _) _).alloc (by simp) _⟩
    · clear hg
      go_enter Try.func8, Try.ntmps8
      go_wp2
      exact hR'.out _ _ ⟨by rw [mem_off (by omega)], ((Below.refl _ _).alloc (Nat.le_refl _) _).alloc (by simp) _⟩
  · clear hg
    have hm : mem M y e = false := mem_off (by omega)
    by_cases hy0 : 0 ≤ y
    · have hy1 : ¬ y < (M.length : Int) := fun h1 => hy ⟨hy0, h1⟩
      go_enter Try.func8, Try.ntmps8
      go_wp2
      exact hR'.out _ _ ⟨by rw [hm], ((Below.refl _ _).alloc (Nat.le_refl _) _).alloc (by simp) _⟩
    · go_enter Try.func8, Try.ntmps8
      go_wp2
      exact hR'.out _ _ ⟨by rw [hm], ((Below.refl _ _).alloc (Nat.le_refl _) _).alloc (by simp) _⟩

theorem subw (y : Int) (h : 0 ≤ y ∧ y < 9223372036854775807) : IntKind.i64.wrap (y - 1) = y - 1 := IntWalk.i64_in _ (by omega)
theorem addw (y : Int) (h : -1 ≤ y ∧ y < 9223372036854775807) : IntKind.i64.wrap (y + 1) = y + 1 := IntWalk.i64_in _ (by omega)
/-- what a box holds behind a call -/
theorem box_after {w w1 : World} {v : Value} {t : TypeId} (h : Below (w.alloc (.cells #[v] t)).heap.size (w.alloc (.cells #[v] t)) w1) : w1.cell? ⟨w.heap.size, 0, none⟩ = some v :=
  (h.cell (p := ⟨w.heap.size, 0, none⟩) (by simp)).trans (by rw [World.cell?_alloc_new]; rfl)
theorem mem_lt {w : World} {v : Value} {y e : Int} {M : List (List Bool)} (hg : RdGrid w v M) (h : mem M y e = true) : 0 ≤ y ∧ y < 9223372036854775807 := by
  obtain ⟨p, c, _, _, _⟩ := hg.form
  have := mem_year h
  omega

theorem joins_any (v : Value) (y e : Int) (M : List (List Bool)) (w : World) (hg : RdGrid w v M) :
    Calls Try.prog 9 #[.agg #[v], .int .i64 y, .int .i64 e] w fun x w' => x = .returned (.bool (mem M y e && !mem M (y - 1) e)) ∧ Below w.heap.size w w' := by
  refine walk_q fun R' hR' => ?_
  have hB := (Below.refl w.heap.size w).alloc (Nat.le_refl _) (.cells #[v] 26)
  cases hm : mem M y e with
  | true =>
    have hw := subw y (mem_lt hg hm)
    go_enter Try.func9, Try.ntmps9
    go_wp2_with fail
    refine (is_any _ y e M _ (hg.below hB)).mono ?_
    rintro x w1 ⟨rfl, hb1⟩
    rw [hm]
    have hbox := box_after hb1
    go_wp2_with fail
    refine (is_any _ (y - 1) e M _ (hg.below (Below.thn hB hb1))).mono ?_
    rintro x w2 ⟨rfl, hb2⟩
    go_wp2_with fail
    exact hR'.out _ _ ⟨by rw [hm]; rfl, Below.thn (Below.thn hB hb1) hb2⟩
  | false =>
    go_enter Try.func9, Try.ntmps9
    go_wp2_with fail
    refine (is_any _ y e M _ (hg.below hB)).mono ?_
    rintro x w1 ⟨rfl, hb1⟩
    rw [hm]
    go_wp2_with fail
    exact hR'.out _ _ ⟨by rw [hm]; rfl, Below.thn hB hb1⟩

theorem leaves_any (v : Value) (y e : Int) (M : List (List Bool)) (w : World) (hg : RdGrid w v M) :
    Calls Try.prog 10 #[.agg #[v], .int .i64 y, .int .i64 e] w fun x w' => x = .returned (.bool (decide (0 ≤ y ∧ y < (M.length : Int)) && !mem M y e && mem M (y - 1) e)) ∧ Below w.heap.size w w' := by
  obtain ⟨p, c, rfl, hnc, hcm⟩ := hg.form
  refine walk_q fun R' hR' => ?_
  have hB := (Below.refl w.heap.size w).alloc (Nat.le_refl _) (.cells #[.slice p M.length c] 26)
  by_cases hy : 0 ≤ y ∧ y < (M.length : Int)
  · have hw := subw y (by omega)
    cases hm : mem M y e with
    | true =>
      go_enter Try.func10, Try.ntmps10
      go_wp2_with fail
      refine (year_yes _ y M _ (hg.below hB) hy).mono ?_
      rintro x w1 ⟨rfl, hb1⟩
      have hbox := box_after hb1
      go_wp2_with fail
      refine (is_any _ y e M _ (hg.below (Below.thn hB hb1))).mono ?_
      rintro x w2 ⟨rfl, hb2⟩
      rw [hm]
      go_wp2_with fail
      exact hR'.out _ _ ⟨by rw [hm, decide_eq_true hy]; rfl, Below.thn (Below.thn hB hb1) hb2⟩
    | false =>
      go_enter Try.func10, Try.ntmps10
      go_wp2_with fail
      refine (year_yes _ y M _ (hg.below hB) hy).mono ?_
      rintro x w1 ⟨rfl, hb1⟩
      have hbox := box_after hb1
      go_wp2_with fail
      refine (is_any _ y e M _ (hg.below (Below.thn hB hb1))).mono ?_
      rintro x w2 ⟨rfl, hb2⟩
      rw [hm]
      have hbox2 := box_after (Below.thn hb1 hb2)
      go_wp2_with fail
      refine (is_any _ (y - 1) e M _ (hg.below (Below.thn (Below.thn hB hb1) hb2))).mono ?_
      rintro x w3 ⟨rfl, hb3⟩
      go_wp2_with fail
      exact hR'.out _ _ ⟨by rw [hm, decide_eq_true hy]; rfl, Below.thn (Below.thn (Below.thn hB hb1) hb2) hb3⟩
  · go_enter Try.func10, Try.ntmps10
    go_wp2_with fail
    refine (year_no _ y M _ (hg.below hB) hy).mono ?_
    rintro x w1 ⟨rfl, hb1⟩
    go_wp2_with fail
    exact hR'.out _ _ ⟨by rw [decide_eq_false hy]; rfl, Below.thn hB hb1⟩

/-! ### the reference -/
theorem refIs_any (v : Value) (y e : Int) (M : List (List Bool)) (w : World) (hg : RdGrid w v M) :
    Calls Try.prog 20 #[v, .int .i64 y, .int .i64 e] w fun x w' => x = .returned (.bool (mem M y e)) ∧ w = w' := by
  obtain ⟨p, c, rfl, hnc, hcm⟩ := hg.form
  refine walk_q fun R' hR' => ?_
  by_cases hy0 : 0 ≤ y
  · by_cases hy1 : y < (M.length : Int)
    · by_cases h0 : 0 ≤ e
      · obtain ⟨k, rfl⟩ := Int.eq_ofNat_of_zero_le hy0
        obtain ⟨j, rfl⟩ := Int.eq_ofNat_of_zero_le h0
        obtain ⟨b, off, q, d, r, rfl, hr, hc, hrd, hdm, hR⟩ := hg.rowAt (k := k) (by omega)
        have hb := cell_lt hc
        simp only at hb
        by_cases hj : j < r.length
        · obtain ⟨b2, off2, x, rfl, hx, hc2⟩ := hR.boolAt (k := j) hj
          have hb2 := cell_lt hc2
          simp only at hb2
          have hm : mem M k j = x := by rw [mem_row hr, hx]; rfl
          clear hg hR
          go_enter Try.func20, Try.ntmps20
          go_wp2
          exact hR'.out _ _ ⟨by rw [hm]; rfl, rfl⟩
        · have hm : mem M k j = false := by rw [mem_row hr, List.getElem?_eq_none (by omega)]; rfl
          clear hg hR
          go_enter Try.func20, Try.ntmps20
          go_wp2
          exact hR'.out _ _ ⟨by rw [hm]; rfl, rfl⟩
      · clear hg
        go_enter Try.func20, Try.ntmps20
        go_wp2
        exact hR'.out _ _ ⟨by rw [mem_off (by omega)], rfl⟩
    · clear hg
      have hm : mem M y e = false := mem_off (by omega)
      go_enter Try.func20, Try.ntmps20
      go_wp2
      exact hR'.out _ _ ⟨by rw [hm], rfl⟩
  · clear hg
    have hm : mem M y e = false := mem_off (by omega)
    go_enter Try.func20, Try.ntmps20
    go_wp2
    exact hR'.out _ _ ⟨by rw [hm], rfl⟩

theorem refJoins_any (v : Value) (y e : Int) (M : List (List Bool)) (w : World) (hg : RdGrid w v M) :
    Calls Try.prog 22 #[v, .int .i64 y, .int .i64 e] w fun x w' => x = .returned (.bool (mem M y e && !mem M (y - 1) e)) ∧ w = w' := by
  refine walk_q fun R' hR' => ?_
  cases hm : mem M y e with
  | true =>
    have hw := subw y (mem_lt hg hm)
    go_enter Try.func22, Try.ntmps22
    go_wp2_with fail
    refine (refIs_any _ y e M _ hg).mono ?_
    rintro x w1 ⟨rfl, rfl⟩
    rw [hm]
    go_wp2_with fail
    refine (refIs_any _ (y - 1) e M _ hg).mono ?_
    rintro x w1 ⟨rfl, rfl⟩
    go_wp2_with fail
    exact hR'.out _ _ ⟨by rw [hm]; rfl, rfl⟩
  | false =>
    go_enter Try.func22, Try.ntmps22
    go_wp2_with fail
    refine (refIs_any _ y e M _ hg).mono ?_
    rintro x w1 ⟨rfl, rfl⟩
    rw [hm]
    go_wp2_with fail
    exact hR'.out _ _ ⟨by rw [hm]; rfl, rfl⟩

theorem refLeaves_any (v : Value) (y e : Int) (M : List (List Bool)) (w : World) (hg : RdGrid w v M) :
    Calls Try.prog 23 #[v, .int .i64 y, .int .i64 e] w fun x w' => x = .returned (.bool (decide (0 ≤ y ∧ y < (M.length : Int)) && !mem M y e && mem M (y - 1) e)) ∧ w = w' := by
  obtain ⟨p, c, rfl, hnc, hcm⟩ := hg.form
  refine walk_q fun R' hR' => ?_
  by_cases hy0 : 0 ≤ y
  · by_cases hy1 : y < (M.length : Int)
    · have hw := subw y (by omega)
      cases hm : mem M y e with
      | true =>
        go_enter Try.func23, Try.ntmps23
        go_wp2_with fail
        refine (refIs_any _ y e M _ hg).mono ?_
        rintro x w1 ⟨rfl, rfl⟩
        rw [hm]
        go_wp2_with fail
        exact hR'.out _ _ ⟨by rw [hm, decide_eq_true ⟨hy0, hy1⟩]; rfl, rfl⟩
      | false =>
        go_enter Try.func23, Try.ntmps23
        go_wp2_with fail
        refine (refIs_any _ y e M _ hg).mono ?_
        rintro x w1 ⟨rfl, rfl⟩
        rw [hm]
        go_wp2_with fail
        refine (refIs_any _ (y - 1) e M _ hg).mono ?_
        rintro x w1 ⟨rfl, rfl⟩
        go_wp2_with fail
        exact hR'.out _ _ ⟨by rw [hm, decide_eq_true ⟨hy0, hy1⟩]; rfl, rfl⟩
    · go_enter Try.func23, Try.ntmps23
      go_wp2_with fail
      exact hR'.out _ _ ⟨by rw [decide_eq_false (by omega)]; rfl, rfl⟩
  · go_enter Try.func23, Try.ntmps23
    go_wp2_with fail
    exact hR'.out _ _ ⟨by rw [decide_eq_false (by omega)]; rfl, rfl⟩

end Go.Proofs.Ytfalckgdhhgfaaa
