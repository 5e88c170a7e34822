/- What a slice of slices of limbs that came in reads as. -/
import Derived.Test.YtfffohhcabcefaaLaw01F
import Derived.Deep.Matrix
import Derived.ProofKit
namespace Go.Proofs.Ytfffohhcabcefaa
open Go.RowKit

theorem spot_none {w : World} {a : Addr} {u : Value} (h : w.cell? (a.add 0) = some u) : a.spot = none := by
  have : a.add 0 = a := by simp [Addr.add]
  rw [this] at h
  unfold World.cell? at h
  split at h
  · split at h
    · cases h
    · rename_i hs; simpa using hs
  · cases h
theorem add_none {b off j : Nat} : (⟨b, off, none⟩ : Addr).add j = ⟨b, off + j, none⟩ := by unfold Addr.add; split <;> simp_all

theorem rdrows_of {H : Type} {enc : TypeId × Value → H} {P : Program} {w : World} {t e q fuel : Nat} {a : Option Addr} {len cap : Nat} {x : DataW H × List MemPlace}
    (ht : P.underlying t = some (.slice e)) (he : P.underlying e = some (.slice q)) (hq : P.underlying q = some (.int .u32)) (ce : P.cellsOf e = 1) (cq : P.cellsOf q = 1)
    (h : DataW.trod enc P w 0 (fun _ => true) true fuel t (Value.slice a len cap).cells.toList = some x) :
    ∃ rows : List (List Nat), (∀ zs ∈ rows, Lim zs) ∧ RdRows w (.slice a len cap) rows := by
  rcases Deep.open_int_rows ht he hq ce cq h with ⟨hcs, _⟩ | ⟨a', len', cap', A, L, C, Z, hcs, _, hl, hm, _, hr⟩
  · simp [Value.cells] at hcs
    obtain ⟨rfl, rfl, rfl⟩ := hcs
    exact ⟨[], (fun _ h => by cases h), [], Rd.nil w 1, (fun i xs h => by simp at h)⟩
  · simp [Value.cells] at hcs
    obtain ⟨rfl, rfl, rfl⟩ := hcs
    have each : ∀ r, r < len → ∃ xs : List Nat, xs.length = L r ∧ Lim xs ∧ Rd w 1 (.slice (A r) (L r) (C r)) (L r) (ints .u32 xs) := by
      intro r hrl
      obtain ⟨_, h2, h3, h4, h5, h6, h7⟩ := hr r (by omega)
      have hd : (A r = none ∧ L r = 0 ∧ C r = 0 ∧ Z r = []) ∨ ∃ y, A r = some y ∧ L r ≤ C r ∧ C r ≤ maxLen ∧ (Z r).length = C r ∧ (∀ i, i < (Z r).length → w.cell? (y.add i) = some (.int .u32 ((Z r).getD i 0))) ∧ ∀ n ∈ Z r, (Lit.int .u32 n).wf = true := by
        cases hA : A r with
        | none =>
          have := h6 hA
          exact .inl ⟨rfl, by omega, this, List.eq_nil_of_length_eq_zero (by omega)⟩
        | some y => exact .inr ⟨y, rfl, h2, h3, h4, fun i hi => (h7 y hA).2 i (by omega), h5⟩
      obtain ⟨xs, hx1, hx2⟩ := rd_of_row hd
      obtain ⟨_, _, hv, _, _, hlen⟩ := hx2.u32
      exact ⟨xs, hlen, hx1, hx2⟩
    obtain ⟨F, hF⟩ : ∃ F : Nat → List Nat, ∀ r, r < len → (F r).length = L r ∧ Lim (F r) ∧ Rd w 1 (.slice (A r) (L r) (C r)) (L r) (ints .u32 (F r)) := by
      refine ⟨fun r => if h : r < len then Classical.choose (each r h) else [], fun r h => ?_⟩
      simp only [dif_pos h]
      exact Classical.choose_spec (each r h)
    refine ⟨(List.range len).map F, ?_, (List.range len).map fun r => .slice (A r) (L r) (C r), ?_, ?_⟩
    · intro zs hz
      obtain ⟨r, hr1, rfl⟩ := List.mem_map.1 hz
      exact (hF r (List.mem_range.1 hr1)).2.1
    · rw [List.length_map, List.length_range]
      refine ⟨_, cap, rfl, hl, hm, by simp, fun hn => ?_⟩
      have h0 := (hr 0 (by omega)).1
      have hsp := spot_none h0
      obtain ⟨b, off, sp⟩ := a'
      simp only at hsp
      subst hsp
      refine ⟨b, off, rfl, fun j u hj => ?_⟩
      rw [List.getElem?_map] at hj
      by_cases hjl : j < len
      · rw [List.getElem?_range hjl] at hj
        simp at hj
        subst hj
        have := (hr j (by omega)).1
        rwa [add_none] at this
      · rw [List.getElem?_eq_none (by simpa using hjl)] at hj; cases hj
    · intro i xs hi
      rw [List.getElem?_map] at hi
      by_cases hil : i < len
      · rw [List.getElem?_range hil] at hi
        simp at hi
        subst hi
        refine ⟨.slice (A i) (L i) (C i), by simp [hil], ?_⟩
        obtain ⟨h1, _, h3⟩ := hF i hil
        rw [h1]; exact h3
      · rw [List.getElem?_eq_none (by simpa using hil)] at hi; cases hi

theorem rd_of_trod {H : Type} {enc : TypeId × Value → H} {P : Program} {w : World} {t e fuel : Nat} {a : Option Addr} {len cap : Nat} {x : DataW H × List MemPlace}
    (ht : P.underlying t = some (.slice e)) (he : P.underlying e = some (.int .u32)) (ce : P.cellsOf e = 1)
    (h : DataW.trod enc P w 0 (fun _ => true) true fuel t (Value.slice a len cap).cells.toList = some x) :
    ∃ xs : List Nat, Lim xs ∧ Rd w 1 (.slice a len cap) len (ints .u32 xs) := by
  rcases ChangeShapes.open_ints ht he ce h with ⟨hcs, _⟩ | ⟨y, l, c, zs, hcs, _, hl, hm, hz, _, hcell, hwz⟩
  · simp [Value.cells] at hcs
    obtain ⟨rfl, rfl, rfl⟩ := hcs
    exact rd_of_row (.inl ⟨rfl, rfl, rfl, rfl⟩)
  · simp [Value.cells] at hcs
    obtain ⟨rfl, rfl, rfl⟩ := hcs
    exact rd_of_row (.inr ⟨_, rfl, hl, hm, by simpa using hz, hcell, hwz⟩)

end Go.Proofs.Ytfffohhcabcefaa
