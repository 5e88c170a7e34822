/- What a slice of slices of bools that came in reads as. -/
import Derived.Test.YtfalckgdhhgfaaaSpanA
import Derived.Deep.Grids
import Derived.ProofKit
namespace Go.Proofs.Ytfalckgdhhgfaaa
open Go.RowKit

theorem spot_none {w : World} {a : Addr} {u : Value} (h : w.cell? (a.add 0) = some u) : a.spot = none := by
  have : a.add 0 = a := by simp [Addr.add]
  rw [this] at h
  unfold World.cell? at h
  split at h
  · split at h
    · cases h
    · rename_i hs; simpa using hs
  · cases h
theorem add_none {b off j : Nat} : (⟨b, off, none⟩ : Addr).add j = ⟨b, off + j, none⟩ := by unfold Addr.add; split <;> simp_all
/-- a slice whose elements are told by an index -/
theorem rd_of_fn {w : World} {a : Addr} {len cap : Nat} {f : Nat → Value} (hl : len ≤ cap) (hm : cap ≤ maxLen) (h : ∀ i, i < len → w.cell? (a.add i) = some (f i)) : Rd w 1 (.slice (some a) len cap) len ((List.range len).map f) := by
  refine ⟨_, cap, rfl, hl, hm, by simp, fun hn => ?_⟩
  have hsp := spot_none (h 0 (by omega))
  obtain ⟨b, off, sp⟩ := a
  simp only at hsp
  subst hsp
  refine ⟨b, off, rfl, fun j u hj => ?_⟩
  rw [List.getElem?_map] at hj
  by_cases hjl : j < len
  · rw [List.getElem?_range hjl] at hj
    simp at hj
    subst hj
    have := h j hjl
    rwa [add_none] at this
  · rw [List.getElem?_eq_none (by simpa using hjl)] at hj; cases hj

theorem rdgrid_of {H : Type} {enc : TypeId × Value → H} {P : Program} {w : World} {t e q fuel : Nat} {a : Option Addr} {len cap : Nat} {x : DataW H × List MemPlace}
    (ht : P.underlying t = some (.slice e)) (he : P.underlying e = some (.slice q)) (hq : P.underlying q = some .bool) (ce : P.cellsOf e = 1) (cq : P.cellsOf q = 1)
    (h : DataW.trod enc P w 0 (fun _ => true) true fuel t (Value.slice a len cap).cells.toList = some x) : ∃ M : List (List Bool), RdGrid w (.slice a len cap) M := by
  rcases Deep.open_bool_rows ht he hq ce cq h with ⟨hcs, _⟩ | ⟨a', len', cap', A, L, C, B, hcs, _, hl, hm, _, hr⟩
  · simp [Value.cells] at hcs
    obtain ⟨rfl, rfl, rfl⟩ := hcs
    exact ⟨[], [], Rd.nil w 1, fun i r h => by simp at h⟩
  · simp [Value.cells] at hcs
    obtain ⟨rfl, rfl, rfl⟩ := hcs
    refine ⟨(List.range len).map fun r => (List.range (L r)).map (B r), (List.range len).map fun r => .slice (A r) (L r) (C r), ?_, fun i r hi => ?_⟩
    · rw [List.length_map, List.length_range]
      exact rd_of_fn hl hm fun i hi => (hr i (by omega)).1
    · rw [List.getElem?_map] at hi
      by_cases hil : i < len
      · rw [List.getElem?_range hil] at hi
        simp at hi
        subst hi
        refine ⟨.slice (A i) (L i) (C i), by simp [hil], ?_⟩
        obtain ⟨_, h2, h3, h4, h5⟩ := hr i (by omega)
        have hb : bools ((List.range (L i)).map (B i)) = (List.range (L i)).map fun c => Value.bool (B i c) := by simp [bools]
        rw [List.length_map, List.length_range, hb]
        cases hA : A i with
        | none =>
          have hc := h4 hA
          have hL : L i = 0 := by omega
          rw [hL, hc]; exact Rd.nil w 1
        | some y => exact rd_of_fn h2 h3 fun c hc => (h5 y hA).2 c (by omega)
      · rw [List.getElem?_eq_none (by simpa using hil)] at hi; cases hi

end Go.Proofs.Ytfalckgdhhgfaaa
