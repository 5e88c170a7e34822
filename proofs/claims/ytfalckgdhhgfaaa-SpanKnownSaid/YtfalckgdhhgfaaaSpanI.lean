/- Which run holds a year: what the law's two rows say when all runs are entered. No function of the program in sight. -/
import Derived.Test.YtfalckgdhhgfaaaSpanH
namespace Go.Proofs.Ytfalckgdhhgfaaa
open Go.RowKit

def AtY (l : List (Int × Int)) (i : Nat) (A F : List Int) (y : Nat) : Prop :=
  (∃ (j : Nat) (s : Int × Int), j < i ∧ l[j]? = some s ∧ s.1 ≤ (y : Int) ∧ (y : Int) ≤ s.2 ∧ A[y]? = some ((j : Int) + 1) ∧ F[y]? = some s.1) ∨
  ((∀ (j : Nat) (s : Int × Int), j < i → l[j]? = some s → ¬ (s.1 ≤ (y : Int) ∧ (y : Int) ≤ s.2)) ∧ A[y]? = some 0)
def Filled (l : List (Int × Int)) (i : Nat) (A F : List Int) : Prop := F.length = A.length ∧ ∀ y : Nat, y < A.length → AtY l i A F y
def FillIn (l : List (Int × Int)) (i : Nat) (s : Int × Int) (t : Int) (A F : List Int) : Prop :=
  F.length = A.length ∧ ∀ y : Nat, y < A.length → (s.1 ≤ (y : Int) → (y : Int) < t → A[y]? = some ((i : Int) + 1) ∧ F[y]? = some s.1) ∧ (¬ (s.1 ≤ (y : Int) ∧ (y : Int) < t) → AtY l i A F y)
theorem Filled.start (l : List (Int × Int)) (n : Nat) : Filled l 0 (List.replicate n 0) (List.replicate n 0) :=
  ⟨by simp, fun y hy => .inr ⟨fun j s h => absurd h (Nat.not_lt_zero _), by simp at hy; simp [hy]⟩⟩
theorem FillIn.begin {l : List (Int × Int)} {i : Nat} {s : Int × Int} {A F : List Int} (h : Filled l i A F) : FillIn l i s s.1 A F :=
  ⟨h.1, fun y hy => ⟨fun h1 h2 => by omega, fun _ => h.2 y hy⟩⟩
theorem FillIn.step {l : List (Int × Int)} {i t : Nat} {s : Int × Int} {A F : List Int} (h : FillIn l i s (t : Int) A F) (ht : s.1 ≤ (t : Int)) (hl : t < A.length) : FillIn l i s ((t : Int) + 1) (A.set t ((i : Int) + 1)) (F.set t s.1) := by
  refine ⟨by simp [h.1], fun y hy => ?_⟩
  rw [List.length_set] at hy
  have hF := h.1
  by_cases hyt : y = t
  · subst hyt
    refine ⟨fun _ _ => ⟨by simp [hl], by simp [hF, hl]⟩, fun hn => absurd ⟨ht, by omega⟩ hn⟩
  · obtain ⟨h1, h2⟩ := h.2 y hy
    have hne : t ≠ y := fun e => hyt e.symm
    refine ⟨fun a b => ?_, fun hn => ?_⟩
    · rw [List.getElem?_set_ne hne, List.getElem?_set_ne hne]
      exact h1 a (by omega)
    · rcases h2 (fun hc => hn ⟨hc.1, by omega⟩) with ⟨j, s', e1, e2, e3, e4, e5, e6⟩ | ⟨e1, e2⟩
      · exact .inl ⟨j, s', e1, e2, e3, e4, by rw [List.getElem?_set_ne hne]; exact e5, by rw [List.getElem?_set_ne hne]; exact e6⟩
      · exact .inr ⟨e1, by rw [List.getElem?_set_ne hne]; exact e2⟩
theorem FillIn.done {l : List (Int × Int)} {i : Nat} {s : Int × Int} {A F : List Int} (h : FillIn l i s (s.2 + 1) A F) (hs : l[i]? = some s) : Filled l (i + 1) A F := by
  refine ⟨h.1, fun y hy => ?_⟩
  obtain ⟨h1, h2⟩ := h.2 y hy
  by_cases hc : s.1 ≤ (y : Int) ∧ (y : Int) ≤ s.2
  · obtain ⟨e1, e2⟩ := h1 hc.1 (by omega)
    exact .inl ⟨i, s, by omega, hs, hc.1, hc.2, e1, e2⟩
  · rcases h2 (fun hn => hc ⟨hn.1, by omega⟩) with ⟨j, s', e1, e2⟩ | ⟨e1, e2⟩
    · exact .inl ⟨j, s', by omega, e2⟩
    · refine .inr ⟨fun j s' hj hs' => ?_, e2⟩
      by_cases hji : j = i
      · subst hji; rw [hs] at hs'; cases hs'; exact hc
      · exact e1 j s' (by omega) hs'

/-- what is known of a year -/
theorem filled_year {f : Int → Bool} {n : Nat} (hf : ∀ z, f z = true → 0 ≤ z ∧ z < (n : Int)) {A F : List Int} (h : Filled (spansFrom f n 0) (spansFrom f n 0).length A F) {y : Nat} (hy : y < A.length) :
    (∃ k x : Int, A[y]? = some k ∧ F[y]? = some x ∧ 0 < k ∧ f y = true ∧ x ≤ (y : Int) ∧ sinceL (spansFrom f n 0) y = x ∧ (x = (y : Int) ∧ f ((y : Int) - 1) = false ∨ x < (y : Int) ∧ f ((y : Int) - 1) = true)) ∨
    (A[y]? = some 0 ∧ f y = false ∧ sinceL (spansFrom f n 0) y = -1) := by
  have hf' : ∀ z, f z = true → z < (n : Int) := fun z hz => (hf z hz).2
  rcases h.2 y hy with ⟨j, s, h1, h2, h3, h4, h5, h6⟩ | ⟨h1, h2⟩
  · left
    obtain ⟨⟨r1, r2, r3, r4⟩, _, _⟩ := spans_run hf' (List.mem_of_getElem? h2)
    refine ⟨(j : Int) + 1, s.1, h5, h6, by omega, r3 _ h3 h4, h3, since_hit h2 (fun t ht => ?_) ⟨h3, h4⟩, ?_⟩
    · obtain ⟨j', hj', hl⟩ := List.mem_iff_getElem.1 ht
      have hp := List.pairwise_iff_getElem.1 (spans_apart hf')
      obtain ⟨hjl, hje⟩ := List.getElem?_eq_some_iff.1 h2
      have hjj : j' < j := by rw [List.length_take] at hj'; omega
      have := hp j' j (by omega) hjl hjj
      rw [List.getElem_take] at hl
      rw [hl, hje] at this
      omega
    · by_cases he : s.1 = (y : Int)
      · exact .inl ⟨he, by rw [← he]; exact r1⟩
      · exact .inr ⟨by omega, r3 _ (by omega) (by omega)⟩
  · right
    have hno : ∀ t ∈ spansFrom f n 0, ¬ (t.1 ≤ (y : Int) ∧ (y : Int) ≤ t.2) := fun t ht => by
      obtain ⟨j, hj⟩ := List.mem_iff_getElem?.1 ht
      exact h1 j t (List.getElem?_eq_some_iff.1 hj).1 hj
    refine ⟨h2, ?_, since_none hno⟩
    cases hm : f y with
    | false => rfl
    | true =>
      obtain ⟨s, hs, h3, h4⟩ := spans_at hf hm
      exact absurd ⟨h3, h4⟩ (hno s hs)

/-- a row of the call's own, of ints: read and written -/
theorem zints_get {xs : List Int} {j : Nat} {x : Int} (h : xs[j]? = some x) : (zints xs)[j]? = some (.int .i64 x) := by simp [zints, h]
theorem zints_set (xs : List Int) (j : Nat) (x : Int) : (zints xs).set j (.int .i64 x) = zints (xs.set j x) := by simp [zints, List.map_set]
theorem Own.zstore {w : World} {B e g n cap j : Nat} {x : Int} {xs : List Int} (h : w.ownsRow B e 1 (.slice (some ⟨g, 0, none⟩) n cap) n (zints xs)) :
    (w.setCell ⟨g, j, none⟩ (.int .i64 x)).ownsRow B e 1 (.slice (some ⟨g, 0, none⟩) n cap) n (zints (xs.set j x)) := by
  have h1 := (h.stored j (.int .i64 x)).1
  rwa [zints_set] at h1
theorem Own.zcell {w : World} {B e g n cap j : Nat} {x : Int} {xs : List Int} (h : w.ownsRow B e 1 (.slice (some ⟨g, 0, none⟩) n cap) n (zints xs)) (hx : xs[j]? = some x) :
    w.cell? ⟨g, j, none⟩ = some (.int .i64 x) ∧ w.frozen? ⟨g, j, none⟩ = false := by
  have hl : xs.length = n := by have := h.1; simpa using this
  refine ⟨?_, h.frozenAt _⟩
  rw [h.cellAt _ (by rw [← hl]; have := (List.getElem?_eq_some_iff.1 hx).1; omega), zints_get hx]
theorem grown_set {w : World} {g j : Nat} {u : Value} : w.grownBy (w.setCell ⟨g, j, none⟩ u) (some g) :=
  ⟨rfl, rfl, rfl, by simp [World.setCell], fun k _ hne => Below.heap_setCell w ⟨g, j, none⟩ u k (fun e => hne (by rw [e]))⟩
theorem Own.zother {w : World} {B e g g' n cap j : Nat} {u : Value} {xs : List Int} (h : w.ownsRow B e 1 (.slice (some ⟨g, 0, none⟩) n cap) n (zints xs)) (hne : g ≠ g') :
    (w.setCell ⟨g', j, none⟩ u).ownsRow B e 1 (.slice (some ⟨g, 0, none⟩) n cap) n (zints xs) :=
  h.kept grown_set (.inr fun e => hne (by simpa [Value.ownBlock] using e))

end Go.Proofs.Ytfalckgdhhgfaaa
