/- The longest runs of years in which a question is answered yes. No function of the program in sight. -/
import Derived.Test.YtfalckgdhhgfaaaBase
namespace Go.Proofs.Ytfalckgdhhgfaaa

/-- the last one of a run -/
def endF (f : Int → Bool) : Nat → Int → Int
  | 0, y => y
  | k + 1, y => if f (y + 1) = true then endF f k (y + 1) else y

def IsRun (f : Int → Bool) (s : Int × Int) : Prop := f (s.1 - 1) = false ∧ s.1 ≤ s.2 ∧ (∀ z, s.1 ≤ z → z ≤ s.2 → f z = true) ∧ f (s.2 + 1) = false

theorem endF_spec {f : Int → Bool} {n : Nat} (hf : ∀ z, f z = true → z < (n : Int)) : ∀ (k : Nat) (y : Int), f y = true → (n : Int) - y ≤ (k : Int) + 1 →
    y ≤ endF f k y ∧ endF f k y < (n : Int) ∧ (∀ z, y ≤ z → z ≤ endF f k y → f z = true) ∧ f (endF f k y + 1) = false := by
  intro k
  induction k with
  | zero =>
    intro y hy hk
    refine ⟨Int.le_refl _, hf y hy, fun z h1 h2 => ?_, ?_⟩
    · have : z = y := by simp only [endF] at h2; omega
      rw [this]; exact hy
    · cases h : f (endF f 0 y + 1) with
      | false => rfl
      | true => have h1 := hf _ h; simp only [endF] at h1; omega
  | succ k ih =>
    intro y hy hk
    unfold endF
    by_cases h : f (y + 1) = true
    · rw [if_pos h]
      obtain ⟨h1, h2, h3, h4⟩ := ih (y + 1) h (by push_cast at hk ⊢; omega)
      refine ⟨by omega, h2, fun z hz1 hz2 => ?_, h4⟩
      by_cases hz : z = y
      · rw [hz]; exact hy
      · exact h3 z (by omega) hz2
    · rw [if_neg h]
      refine ⟨Int.le_refl _, hf y hy, fun z h1 h2 => ?_, by simpa using h⟩
      have : z = y := by omega
      rw [this]; exact hy

/-- the end of a run is one -/
theorem run_end {f : Int → Bool} {a b c : Int} (h1 : a ≤ b) (h2 : ∀ z, a ≤ z → z ≤ b → f z = true) (h3 : f (b + 1) = false) (h4 : a ≤ c) (h5 : ∀ z, a ≤ z → z ≤ c → f z = true) (h6 : f (c + 1) = false) : b = c := by
  rcases Int.lt_trichotomy b c with h | h | h
  · have := h5 (b + 1) (by omega) (by omega); simp_all
  · exact h
  · have := h2 (c + 1) (by omega) (by omega); simp_all

def startB (f : Int → Bool) (i : Nat) : Bool := f (i : Int) && !f ((i : Int) - 1)
/-- the runs that begin at i or later -/
def spansFrom (f : Int → Bool) (n i : Nat) : List (Int × Int) := ((List.range' i (n - i)).filter (startB f)).map fun (j : Nat) => ((j : Int), endF f n j)

theorem spansFrom_end {f : Int → Bool} {n i : Nat} (h : n ≤ i) : spansFrom f n i = [] := by unfold spansFrom; rw [Nat.sub_eq_zero_of_le h]; rfl
theorem spansFrom_step {f : Int → Bool} {n i : Nat} (h : i < n) : spansFrom f n i = (if startB f i = true then [((i : Int), endF f n i)] else []) ++ spansFrom f n (i + 1) := by
  unfold spansFrom
  rw [show n - i = (n - (i + 1)) + 1 by omega, List.range'_succ, List.filter_cons]
  split <;> simp
theorem spansFrom_skip {f : Int → Bool} {n : Nat} : ∀ (k i : Nat), (∀ j : Nat, i ≤ j → j < i + k → startB f j = false) → spansFrom f n i = spansFrom f n (i + k) := by
  intro k
  induction k with
  | zero => intro i _; rfl
  | succ k ih =>
    intro i h
    by_cases hn : i < n
    · rw [spansFrom_step hn, h i (Nat.le_refl _) (by omega)]
      simp only [Bool.false_eq_true, if_false, List.nil_append]
      rw [ih (i + 1) (fun j h1 h2 => h j (by omega) (by omega)), show i + 1 + k = i + (k + 1) by omega]
    · rw [spansFrom_end (by omega), spansFrom_end (by omega)]
/-- behind a run -/
theorem spansFrom_run {f : Int → Bool} {n i E : Nat} (hn : i < n) (hs : startB f i = true) (hE : endF f n i = (E : Int)) (hle : i ≤ E) (hrun : ∀ z : Int, (i : Int) ≤ z → z ≤ (E : Int) → f z = true) :
    spansFrom f n i = ((i : Int), (E : Int)) :: spansFrom f n (E + 1) := by
  rw [spansFrom_step hn, if_pos hs, hE, List.singleton_append, spansFrom_skip (E - i) (i + 1), show i + 1 + (E - i) = E + 1 by omega]
  intro j h1 h2
  unfold startB
  rw [hrun j (by omega) (by omega), hrun ((j : Int) - 1) (by omega) (by omega)]; rfl

theorem mem_spans {f : Int → Bool} {n : Nat} {s : Int × Int} (h : s ∈ spansFrom f n 0) : ∃ i : Nat, i < n ∧ startB f i = true ∧ s = ((i : Int), endF f n i) := by
  unfold spansFrom at h
  obtain ⟨i, hi, rfl⟩ := List.mem_map.1 h
  obtain ⟨h1, h2⟩ := List.mem_filter.1 hi
  have := List.mem_range'_1.1 h1
  exact ⟨i, by omega, h2, rfl⟩
theorem spans_run {f : Int → Bool} {n : Nat} (hf : ∀ z, f z = true → z < (n : Int)) {s : Int × Int} (h : s ∈ spansFrom f n 0) : IsRun f s ∧ 0 ≤ s.1 ∧ s.2 < (n : Int) := by
  obtain ⟨i, hi, hs, rfl⟩ := mem_spans h
  unfold startB at hs
  simp only [Bool.and_eq_true, Bool.not_eq_true'] at hs
  obtain ⟨h1, h2, h3, h4⟩ := endF_spec hf n i hs.1 (by omega)
  exact ⟨⟨hs.2, h1, h3, h4⟩, by simp, h2⟩
theorem spans_apart {f : Int → Bool} {n : Nat} (hf : ∀ z, f z = true → z < (n : Int)) : (spansFrom f n 0).Pairwise fun a b => a.2 + 2 ≤ b.1 := by
  unfold spansFrom
  rw [List.pairwise_map]
  refine List.Pairwise.imp_of_mem (R := (· < ·)) ?_ (List.Pairwise.filter _ (List.pairwise_lt_range' ))
  intro a b ha hb hab
  obtain ⟨_, ha2⟩ := List.mem_filter.1 ha
  obtain ⟨_, hb2⟩ := List.mem_filter.1 hb
  unfold startB at ha2 hb2
  simp only [Bool.and_eq_true, Bool.not_eq_true'] at ha2 hb2
  obtain ⟨h1, h2, h3, h4⟩ := endF_spec hf n a ha2.1 (by omega)
  simp only
  rcases Int.lt_or_le ((b : Int) - 1) (endF f n a + 1) with h | h
  · have := h3 ((b : Int) - 1) (by omega) (by omega); simp_all
  · by_cases he : (b : Int) = endF f n a + 1
    · omega
    · omega
theorem spans_at {f : Int → Bool} {n : Nat} (hf : ∀ z, f z = true → 0 ≤ z ∧ z < (n : Int)) {y : Int} (hy : f y = true) : ∃ s ∈ spansFrom f n 0, s.1 ≤ y ∧ y ≤ s.2 := by
  have hd : ∀ k : Nat, ∀ y : Int, y ≤ (k : Int) → f y = true → ∃ a : Int, a ≤ y ∧ f a = true ∧ f (a - 1) = false ∧ ∀ z, a ≤ z → z ≤ y → f z = true := by
    intro k
    induction k with
    | zero =>
      intro y hk hy
      have h0 := (hf y hy).1
      refine ⟨y, Int.le_refl _, hy, ?_, fun z h1 h2 => by rw [show z = y by omega]; exact hy⟩
      cases h : f (y - 1) with
      | false => rfl
      | true => have := (hf _ h).1; omega
    | succ k ih =>
      intro y hk hy
      cases h : f (y - 1) with
      | false => exact ⟨y, Int.le_refl _, hy, h, fun z h1 h2 => by rw [show z = y by omega]; exact hy⟩
      | true =>
        obtain ⟨a, h1, h2, h3, h4⟩ := ih (y - 1) (by push_cast at hk; omega) h
        refine ⟨a, by omega, h2, h3, fun z hz1 hz2 => ?_⟩
        by_cases hz : z = y
        · rw [hz]; exact hy
        · exact h4 z hz1 (by omega)
  obtain ⟨a, h1, h2, h3, h4⟩ := hd y.toNat y (by omega) hy
  have ha := hf a h2
  obtain ⟨i, rfl⟩ := Int.eq_ofNat_of_zero_le ha.1
  refine ⟨((i : Int), endF f n i), ?_, h1, ?_⟩
  · unfold spansFrom
    refine List.mem_map.2 ⟨i, List.mem_filter.2 ⟨List.mem_range'_1.2 (by omega), ?_⟩, rfl⟩
    unfold startB; rw [h2, h3]; rfl
  · obtain ⟨e1, e2, e3, e4⟩ := endF_spec (fun z hz => (hf z hz).2) n i h2 (by omega)
    simp only
    rcases Int.lt_or_le (endF f n i) y with h | h
    · have := h4 (endF f n i + 1) (by omega) (by omega); simp_all
    · exact h

/-- since when, of a row of runs -/
def sinceL (l : List (Int × Int)) (y : Int) : Int := ((l.find? fun s => decide (s.1 ≤ y ∧ y ≤ s.2)).map (·.1)).getD (-1)

end Go.Proofs.Ytfalckgdhhgfaaa
