/- What the reference's fractions compute: Right, Zero, Plain, New, Of, Whole, Add, Neg, Sub, Mul, Div, Sign, Cmp, Same. -/
import Derived.Test.YtkafabgcdlfhiaaRef03I
import Derived.Test.YtkafabgcdlfhiaaRatAll
set_option linter.all false
namespace Go.Proofs.Ytkafabgcdlfhiaa
open Go.RowKit
attribute [local irreducible] vcOps VS

theorem low_same {X Y : Int} : Rat.divInt X Y = Rat.divInt (-X) (-Y) := (Rat.neg_divInt_neg X Y).symm
theorem rcmp_zero {q r : Rat} : (rcmp q r == 0) = decide (q = r) := by
  unfold rcmp
  by_cases h1 : q < r
  · rw [if_pos h1, decide_eq_false (fun e => by rw [e] at h1; exact absurd h1 Rat.lt_irrefl)]; rfl
  · rw [if_neg h1]
    by_cases h2 : q = r
    · rw [if_pos h2, decide_eq_true h2]; rfl
    · rw [if_neg h2, decide_eq_false h2]; rfl
end Go.Proofs.Ytkafabgcdlfhiaa
