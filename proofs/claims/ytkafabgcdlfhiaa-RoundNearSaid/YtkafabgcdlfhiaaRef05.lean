/- What the reference's functions that round compute. -/
import Derived.Test.YtkafabgcdlfhiaaRoundMath
import Derived.Test.YtkafabgcdlfhiaaKeep
set_option linter.all false
namespace Go.Proofs.Ytkafabgcdlfhiaa
open Go.RowKit
attribute [local irreducible] vcOps VS

theorem RSz.whole {X : Int} {k : Nat} (h : Sz X k) : RSz (X : Rat) (up1 k) := ⟨h.mono (by unfold up1; omega), Sz.mono (Sz.small (by decide) : Sz ((1 : Nat) : Int) 1) (by unfold up1; omega)⟩
theorem Sz.cl {q : Rat} {k : Nat} (h : RSz q k) : Sz (cl q) k := (Sz.floor h.neg).neg
theorem rcmp_neg {q : Rat} : rcmp q 0 < 0 ↔ q < 0 := by
  unfold rcmp
  split
  · simp_all
  · split
    · simp_all
    · simp_all
theorem rem_two (X : Int) : (X.fmod 2 = 0) ↔ X % 2 = 0 := by rw [Int.fmod_eq_emod_of_nonneg _ (by omega)]
end Go.Proofs.Ytkafabgcdlfhiaa
