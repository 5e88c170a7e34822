/- What the reference's number layer computes: Neg, Add, Sub, Of. -/
import Derived.Test.YtkafabgcdlfhiaaCalmH
import Derived.Test.YtkafabgcdlfhiaaRatW
import Derived.BigRegion
set_option linter.all false
namespace Go.Proofs.Ytkafabgcdlfhiaa
open Go.RowKit
attribute [local irreducible] vcOps VS

theorem IntRd.row {w : World} {s : Bool} {p : Option Addr} {n c : Nat} {X : Int} (h : IntRd w (.agg #[.bool s, .slice p n c]) X) : Rd w 1 (.slice p n c) n (ints .u32 (limbs X.natAbs)) := h.parts.2.1
theorem IntRd.n {w : World} {s : Bool} {p : Option Addr} {n c : Nat} {X : Int} (h : IntRd w (.agg #[.bool s, .slice p n c]) X) : n = (limbs X.natAbs).length := h.parts.1
theorem sgn_val {s : Bool} {X : Int} (h : s = decide (X < 0)) : X = if s = true then -(X.natAbs : Int) else X.natAbs := by
  subst h
  by_cases hx : X < 0
  · simp [hx]; omega
  · simp [hx]; omega
end Go.Proofs.Ytkafabgcdlfhiaa
/- What the reference's number layer computes: cut, halves, Of. -/
namespace Go.Proofs.Ytkafabgcdlfhiaa
open Go.RowKit
attribute [local irreducible] vcOps VS

theorem tmod_abs {n : Int} (h0 : -9223372036854775808 ≤ n) (h1 : n ≤ 9223372036854775807) : maxI (n.tmod 4294967296) [IntKind.i64.wrap (0 - n.tmod 4294967296)] = ((n.natAbs % 4294967296 : Nat) : Int) := by
  have e : (n.tmod 4294967296).natAbs = n.natAbs % 4294967296 := by rw [Int.natAbs_tmod]; rfl
  have hs : (0 ≤ n → 0 ≤ n.tmod 4294967296) := fun h => Int.tmod_nonneg _ h
  have hs' : (n ≤ 0 → n.tmod 4294967296 ≤ 0) := fun h => by have := Int.tmod_nonneg 4294967296 (show 0 ≤ -n by omega); rw [Int.neg_tmod] at this; omega
  rw [IntWalk.i64_in _ (by omega)]
  unfold maxI maxI
  split <;> omega
theorem tdiv_abs {n : Int} (h0 : -9223372036854775808 ≤ n) (h1 : n ≤ 9223372036854775807) : maxI (IntKind.i64.wrap (n.tdiv 4294967296)) [IntKind.i64.wrap (0 - IntKind.i64.wrap (n.tdiv 4294967296))] = ((n.natAbs / 4294967296 : Nat) : Int) := by
  have e : (n.tdiv 4294967296).natAbs = n.natAbs / 4294967296 := by rw [Int.natAbs_tdiv]; rfl
  have hs : (0 ≤ n → 0 ≤ n.tdiv 4294967296) := fun h => Int.tdiv_nonneg h (by omega)
  have hs' : (n ≤ 0 → n.tdiv 4294967296 ≤ 0) := fun h => by have := Int.tdiv_nonneg (show 0 ≤ -n by omega) (show (0:Int) ≤ 4294967296 by omega); rw [Int.neg_tdiv] at this; omega
  have hb : n.natAbs / 4294967296 ≤ 2147483648 := by omega
  rw [IntWalk.i64_in (n.tdiv 4294967296) (by omega), IntWalk.i64_in _ (by omega)]
  unfold maxI maxI
  split <;> omega
theorem u32_nat {x : Nat} (h : x < 4294967296) : IntKind.u32.wrap (x : Int) = (x : Int) := by rw [IntKind.wrap_u32', Int.emod_eq_of_lt (by omega) (by omega)]
end Go.Proofs.Ytkafabgcdlfhiaa
/- What the reference's number layer computes: limbs. -/
namespace Go.Proofs.Ytkafabgcdlfhiaa
open Go.RowKit

def lv (ls : List Nat) (k j : Nat) : Nat := (if 2 * j < k then ls.getD (2 * j) 0 else 0) + 65536 * (if 2 * j + 1 < k then ls.getD (2 * j + 1) 0 else 0)
def lds (ls : List Nat) (m k : Nat) : List Nat := (List.range m).map (lv ls k)
theorem lds_zero (ls : List Nat) (m : Nat) : lds ls m 0 = List.replicate m 0 := by
  apply List.ext_getElem
  · simp [lds]
  · intro i h1 h2; simp [lds, lv]
theorem lds_even {ls : List Nat} {m j x : Nat} (hx : ls[2 * j]? = some x) : (lds ls m (2 * j)).set j x = lds ls m (2 * j + 1) := by
  apply List.ext_getElem
  · simp [lds]
  · intro i h1 h2
    simp only [lds, List.getElem_set, List.getElem_map, List.getElem_range]
    by_cases e : j = i
    · subst e
      rw [if_pos rfl]
      unfold lv
      rw [if_pos (by omega), if_neg (by omega), List.getD_eq_getElem?_getD, hx]; rfl
    · rw [if_neg e]
      unfold lv
      congr 1
      · by_cases h : 2 * i < 2 * j
        · rw [if_pos h, if_pos (by omega)]
        · rw [if_neg h, if_neg (by omega)]
      · by_cases h : 2 * i + 1 < 2 * j
        · rw [if_pos h, if_pos (by omega)]
        · rw [if_neg h, if_neg (by omega)]
theorem lds_odd {ls : List Nat} {m j x y : Nat} (hy : (lds ls m (2 * j + 1))[j]? = some y) (hx : ls[2 * j + 1]? = some x) : (lds ls m (2 * j + 1)).set j (y + 65536 * x) = lds ls m (2 * j + 2) := by
  have hy' : y = ls.getD (2 * j) 0 := by
    obtain ⟨h, rfl⟩ := List.getElem?_eq_some_iff.1 hy
    simp only [lds, List.getElem_map, List.getElem_range]
    unfold lv
    rw [if_pos (by omega), if_neg (by omega)]; rfl
  apply List.ext_getElem
  · simp [lds]
  · intro i h1 h2
    simp only [lds, List.getElem_set, List.getElem_map, List.getElem_range]
    by_cases e : j = i
    · subst e
      rw [if_pos rfl]
      unfold lv
      rw [if_pos (by omega), if_pos (by omega), hy']
      congr 2
      rw [List.getD_eq_getElem?_getD, hx]; rfl
    · rw [if_neg e]
      unfold lv
      congr 1
      · by_cases h : 2 * i < 2 * j + 1
        · rw [if_pos h, if_pos (by omega)]
        · rw [if_neg h, if_neg (by omega)]
      · by_cases h : 2 * i + 1 < 2 * j + 1
        · rw [if_pos h, if_pos (by omega)]
        · rw [if_neg h, if_neg (by omega)]
theorem lds_end {ls : List Nat} (h : Half ls) {m : Nat} (hm : ls.length ≤ 2 * m) : nval (lds ls m ls.length) = hval ls ∧ Lim (lds ls m ls.length) := by
  have hb : ∀ k, ls.getD k 0 < 65536 := fun k => getD_half h k
  have hat : ∀ j, lv ls ls.length j = ls.getD (2 * j) 0 + 65536 * ls.getD (2 * j + 1) 0 := fun j => by
    unfold lv
    congr 1
    · split
      · rfl
      · rw [getD_beyond (by omega)]
    · split
      · rfl
      · rw [getD_beyond (by omega)]
  constructor
  · have key : ∀ j, j ≤ m → nval ((lds ls m ls.length).take j) = hval (ls.take (2 * j)) := by
      intro j
      induction j with
      | zero => intro _; rfl
      | succ j ih =>
        intro hj
        rw [nval_take_getD, ih (by omega)]
        have e : (lds ls m ls.length).getD j 0 = ls.getD (2 * j) 0 + 65536 * ls.getD (2 * j + 1) 0 := by
          rw [List.getD_eq_getElem?_getD]
          simp [lds, show j < m by omega, hat]
        rw [e]
        show _ = val 65536 (ls.take (2 * j + 1 + 1))
        rw [val_take_getD, val_take_getD, Nat.mul_add, ← Nat.mul_assoc, Nat.pow_succ 65536 (2 * j), Nat.pow_mul]
        show val 65536 _ + _ = _
        rw [Nat.add_assoc]
    have := key m (Nat.le_refl _)
    rw [List.take_of_length_le (by simp [lds]), List.take_of_length_le hm] at this
    exact this
  · intro x hx
    obtain ⟨j, _, rfl⟩ := List.mem_map.1 hx
    rw [hat]
    have := hb (2 * j)
    have := hb (2 * j + 1)
    omega
def LimbInv03 (w : World) (B g m : Nat) (ls : List Nat) (iv : Value) (wr : World) : Prop :=
  ∃ k, k ≤ ls.length ∧ iv = .int .i64 (k : Int) ∧ wr.ownsRow B 39 1 (.slice (some ⟨g, 0, none⟩) m m) m (ints .u32 (lds ls m k)) ∧ Below B w wr

end Go.Proofs.Ytkafabgcdlfhiaa
