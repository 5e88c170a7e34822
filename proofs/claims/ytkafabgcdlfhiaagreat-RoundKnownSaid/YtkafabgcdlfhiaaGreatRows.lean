/-
  No cell of these rows narrows 'for every input' (looked for: loops, veiled, ifaces, maps, wideKeys, modest, calm, conditions, laid).
  DERIVED. THE GIVEN ROWS OF THIS SEAT. 11 by the template 'for every input the law returns true; each argument reads behind the call as it read before'; 0 by the template 'total and deterministic' (their statements: YtkafabgcdlfhiaaGreatTotals.lean).
  GIVEN WITH THE SEED: the statements are not yours to turn. If you find one false, say at which input.
  Laid BY PROGRAM, IN A SANDBOX (cutbox-rows.mjs): the forced cells as the released guide's own fill.sh prints them over the translation 1b0a8413b026a92d… (all of the seat's roots in one cut). By AI agents, Wed Nov 11 2026. No macro, syntax, notation, axiom, sorry.
-/
import Derived.Test.YtkafabgcdlfhiaaGreatChecked
import GoSem.Claim
import GoSem.ClaimJoined
import GoSem.ClaimMapViews
import Derived.JoinedTies
import Derived.KernelRfl
namespace Go.Proofs.YtkafabgcdlfhiaaGreat
/- THE CELL 'sum', in the pinned program and in every row, IS THE sha256 OF THE DUMP (.gsa) THAT YtkafabgcdlfhiaaGreatProg.lean LOADS. Nothing in Lean hashes anything: it is a label: what it is worth is what the hold of that sum in a sandbox is worth. -/
noncomputable def Tryz.pinned : Pinned := { name := "ytkafabgcdlfhiaagreat", sum := "1b0a8413b026a92d06b573c923c7a6a7337226d5f5e1be6a0fbf5289aff4d035", checked := Tryz.checked }
namespace Rows
def none {H : Type} : Left H := { results := [], args := [] }

/-- 'tallagelaw28.BracketsTax': WHATEVER THE INPUT: true; the input reads as it did. -/
def bracketsTaxSpec : ChangeSpec := { name := "bracketsTax", fn := fun _ => fun
  | [d1, d2, d3] => { results := [.lit (.bool true)], args := [d1, d2, d3] }
  | _ => none }
def bracketsTaxRow : OpenClaim := { program := "ytkafabgcdlfhiaagreat", sum := "1b0a8413b026a92d06b573c923c7a6a7337226d5f5e1be6a0fbf5289aff4d035", func := "tallage/tallagelaw28.BracketsTax", spec := "bracketsTax", unfollowed := true, recurses := true, named := ["math/bits.overflowError"], plainKeys := false, apart := false }
def BracketsTaxSaid : Prop := bracketsTaxRow.holds Tryz.pinned (OpenSpec.ofChange bracketsTaxSpec)

/-- ITS FALSE NEIGHBOUR: 'it returns false'. Refute it at one input. -/
def bracketsTaxWrong : ChangeSpec := { name := "bracketsTax", fn := fun _ => fun
  | [d1, d2, d3] => { results := [.lit (.bool false)], args := [d1, d2, d3] }
  | _ => none }
def BracketsTaxWrongFalsely : Prop := bracketsTaxRow.holds Tryz.pinned (OpenSpec.ofChange bracketsTaxWrong)

/-- 'tallagelaw28.BracketsMore': WHATEVER THE INPUT: true; the input reads as it did. -/
def bracketsMoreSpec : ChangeSpec := { name := "bracketsMore", fn := fun _ => fun
  | [d1, d2, d3, d4] => { results := [.lit (.bool true)], args := [d1, d2, d3, d4] }
  | _ => none }
def bracketsMoreRow : OpenClaim := { program := "ytkafabgcdlfhiaagreat", sum := "1b0a8413b026a92d06b573c923c7a6a7337226d5f5e1be6a0fbf5289aff4d035", func := "tallage/tallagelaw28.BracketsMore", spec := "bracketsMore", unfollowed := true, recurses := true, named := ["math/bits.overflowError"], plainKeys := false, apart := false }
def BracketsMoreSaid : Prop := bracketsMoreRow.holds Tryz.pinned (OpenSpec.ofChange bracketsMoreSpec)

/-- ITS FALSE NEIGHBOUR: 'it returns false'. Refute it at one input. -/
def bracketsMoreWrong : ChangeSpec := { name := "bracketsMore", fn := fun _ => fun
  | [d1, d2, d3, d4] => { results := [.lit (.bool false)], args := [d1, d2, d3, d4] }
  | _ => none }
def BracketsMoreWrongFalsely : Prop := bracketsMoreRow.holds Tryz.pinned (OpenSpec.ofChange bracketsMoreWrong)

/-- 'tallagelaw28.BracketsGrow': WHATEVER THE INPUT: true; the input reads as it did. -/
def bracketsGrowSpec : ChangeSpec := { name := "bracketsGrow", fn := fun _ => fun
  | [d1, d2, d3, d4] => { results := [.lit (.bool true)], args := [d1, d2, d3, d4] }
  | _ => none }
def bracketsGrowRow : OpenClaim := { program := "ytkafabgcdlfhiaagreat", sum := "1b0a8413b026a92d06b573c923c7a6a7337226d5f5e1be6a0fbf5289aff4d035", func := "tallage/tallagelaw28.BracketsGrow", spec := "bracketsGrow", unfollowed := true, recurses := true, named := ["math/bits.overflowError"], plainKeys := false, apart := false }
def BracketsGrowSaid : Prop := bracketsGrowRow.holds Tryz.pinned (OpenSpec.ofChange bracketsGrowSpec)

/-- ITS FALSE NEIGHBOUR: 'it returns false'. Refute it at one input. -/
def bracketsGrowWrong : ChangeSpec := { name := "bracketsGrow", fn := fun _ => fun
  | [d1, d2, d3, d4] => { results := [.lit (.bool false)], args := [d1, d2, d3, d4] }
  | _ => none }
def BracketsGrowWrongFalsely : Prop := bracketsGrowRow.holds Tryz.pinned (OpenSpec.ofChange bracketsGrowWrong)

/-- 'tallagelaw28.BracketsKnown': WHATEVER THE INPUT: true; the input reads as it did. -/
def bracketsKnownSpec : ChangeSpec := { name := "bracketsKnown", fn := fun _ => fun
  | [] => { results := [.lit (.bool true)], args := [] }
  | _ => none }
def bracketsKnownRow : OpenClaim := { program := "ytkafabgcdlfhiaagreat", sum := "1b0a8413b026a92d06b573c923c7a6a7337226d5f5e1be6a0fbf5289aff4d035", func := "tallage/tallagelaw28.BracketsKnown", spec := "bracketsKnown", unfollowed := true, recurses := true, named := ["math/bits.overflowError"], plainKeys := false, apart := false }
def BracketsKnownSaid : Prop := bracketsKnownRow.holds Tryz.pinned (OpenSpec.ofChange bracketsKnownSpec)

/-- ITS FALSE NEIGHBOUR: 'it returns false'. Refute it at one input. -/
def bracketsKnownWrong : ChangeSpec := { name := "bracketsKnown", fn := fun _ => fun
  | [] => { results := [.lit (.bool false)], args := [] }
  | _ => none }
def BracketsKnownWrongFalsely : Prop := bracketsKnownRow.holds Tryz.pinned (OpenSpec.ofChange bracketsKnownWrong)

/-- 'tallagelaw05.RoundPlaces': WHATEVER THE INPUT: true; the input reads as it did. -/
def roundPlacesSpec : ChangeSpec := { name := "roundPlaces", fn := fun _ => fun
  | [d1, d2, d3] => { results := [.lit (.bool true)], args := [d1, d2, d3] }
  | _ => none }
def roundPlacesRow : OpenClaim := { program := "ytkafabgcdlfhiaagreat", sum := "1b0a8413b026a92d06b573c923c7a6a7337226d5f5e1be6a0fbf5289aff4d035", func := "tallage/tallagelaw05.RoundPlaces", spec := "roundPlaces", unfollowed := true, recurses := true, named := ["math/bits.overflowError"], plainKeys := false, apart := false }
def RoundPlacesSaid : Prop := roundPlacesRow.holds Tryz.pinned (OpenSpec.ofChange roundPlacesSpec)

/-- ITS FALSE NEIGHBOUR: 'it returns false'. Refute it at one input. -/
def roundPlacesWrong : ChangeSpec := { name := "roundPlaces", fn := fun _ => fun
  | [d1, d2, d3] => { results := [.lit (.bool false)], args := [d1, d2, d3] }
  | _ => none }
def RoundPlacesWrongFalsely : Prop := roundPlacesRow.holds Tryz.pinned (OpenSpec.ofChange roundPlacesWrong)

/-- 'tallagelaw05.RoundTells': WHATEVER THE INPUT: true; the input reads as it did. -/
def roundTellsSpec : ChangeSpec := { name := "roundTells", fn := fun _ => fun
  | [d] => { results := [.lit (.bool true)], args := [d] }
  | _ => none }
def roundTellsRow : OpenClaim := { program := "ytkafabgcdlfhiaagreat", sum := "1b0a8413b026a92d06b573c923c7a6a7337226d5f5e1be6a0fbf5289aff4d035", func := "tallage/tallagelaw05.RoundTells", spec := "roundTells", unfollowed := true, recurses := true, named := ["math/bits.overflowError"], plainKeys := false, apart := false }
def RoundTellsSaid : Prop := roundTellsRow.holds Tryz.pinned (OpenSpec.ofChange roundTellsSpec)

/-- ITS FALSE NEIGHBOUR: 'it returns false'. Refute it at one input. -/
def roundTellsWrong : ChangeSpec := { name := "roundTells", fn := fun _ => fun
  | [d] => { results := [.lit (.bool false)], args := [d] }
  | _ => none }
def RoundTellsWrongFalsely : Prop := roundTellsRow.holds Tryz.pinned (OpenSpec.ofChange roundTellsWrong)

/-- 'tallagelaw12.GraphOrder': WHATEVER THE INPUT: true; the input reads as it did. -/
def graphOrderSpec : ChangeSpec := { name := "graphOrder", fn := fun _ => fun
  | [d] => { results := [.lit (.bool true)], args := [d] }
  | _ => none }
def graphOrderRow : OpenClaim := { program := "ytkafabgcdlfhiaagreat", sum := "1b0a8413b026a92d06b573c923c7a6a7337226d5f5e1be6a0fbf5289aff4d035", func := "tallage/tallagelaw12.GraphOrder", spec := "graphOrder", unfollowed := true, recurses := true, named := ["math/bits.overflowError"], plainKeys := false, apart := false }
def GraphOrderSaid : Prop := graphOrderRow.holds Tryz.pinned (OpenSpec.ofChange graphOrderSpec)

/-- ITS FALSE NEIGHBOUR: 'it returns false'. Refute it at one input. -/
def graphOrderWrong : ChangeSpec := { name := "graphOrder", fn := fun _ => fun
  | [d] => { results := [.lit (.bool false)], args := [d] }
  | _ => none }
def GraphOrderWrongFalsely : Prop := graphOrderRow.holds Tryz.pinned (OpenSpec.ofChange graphOrderWrong)

/-- 'tallagelaw12.GraphLess': WHATEVER THE INPUT: true; the input reads as it did. -/
def graphLessSpec : ChangeSpec := { name := "graphLess", fn := fun _ => fun
  | [d1, d2, d3, d4] => { results := [.lit (.bool true)], args := [d1, d2, d3, d4] }
  | _ => none }
def graphLessRow : OpenClaim := { program := "ytkafabgcdlfhiaagreat", sum := "1b0a8413b026a92d06b573c923c7a6a7337226d5f5e1be6a0fbf5289aff4d035", func := "tallage/tallagelaw12.GraphLess", spec := "graphLess", unfollowed := true, recurses := true, named := ["math/bits.overflowError"], plainKeys := false, apart := false }
def GraphLessSaid : Prop := graphLessRow.holds Tryz.pinned (OpenSpec.ofChange graphLessSpec)

/-- ITS FALSE NEIGHBOUR: 'it returns false'. Refute it at one input. -/
def graphLessWrong : ChangeSpec := { name := "graphLess", fn := fun _ => fun
  | [d1, d2, d3, d4] => { results := [.lit (.bool false)], args := [d1, d2, d3, d4] }
  | _ => none }
def GraphLessWrongFalsely : Prop := graphLessRow.holds Tryz.pinned (OpenSpec.ofChange graphLessWrong)

/-- 'tallagelaw12.GraphTells': WHATEVER THE INPUT: true; the input reads as it did. -/
def graphTellsSpec : ChangeSpec := { name := "graphTells", fn := fun _ => fun
  | [d1, d2, d3] => { results := [.lit (.bool true)], args := [d1, d2, d3] }
  | _ => none }
def graphTellsRow : OpenClaim := { program := "ytkafabgcdlfhiaagreat", sum := "1b0a8413b026a92d06b573c923c7a6a7337226d5f5e1be6a0fbf5289aff4d035", func := "tallage/tallagelaw12.GraphTells", spec := "graphTells", unfollowed := true, recurses := true, named := ["math/bits.overflowError"], plainKeys := false, apart := false }
def GraphTellsSaid : Prop := graphTellsRow.holds Tryz.pinned (OpenSpec.ofChange graphTellsSpec)

/-- ITS FALSE NEIGHBOUR: 'it returns false'. Refute it at one input. -/
def graphTellsWrong : ChangeSpec := { name := "graphTells", fn := fun _ => fun
  | [d1, d2, d3] => { results := [.lit (.bool false)], args := [d1, d2, d3] }
  | _ => none }
def GraphTellsWrongFalsely : Prop := graphTellsRow.holds Tryz.pinned (OpenSpec.ofChange graphTellsWrong)

/-- 'tallagelaw12.GraphKnown': WHATEVER THE INPUT: true; the input reads as it did. -/
def graphKnownSpec : ChangeSpec := { name := "graphKnown", fn := fun _ => fun
  | [] => { results := [.lit (.bool true)], args := [] }
  | _ => none }
def graphKnownRow : OpenClaim := { program := "ytkafabgcdlfhiaagreat", sum := "1b0a8413b026a92d06b573c923c7a6a7337226d5f5e1be6a0fbf5289aff4d035", func := "tallage/tallagelaw12.GraphKnown", spec := "graphKnown", unfollowed := true, recurses := true, named := ["math/bits.overflowError"], plainKeys := false, apart := false }
def GraphKnownSaid : Prop := graphKnownRow.holds Tryz.pinned (OpenSpec.ofChange graphKnownSpec)

/-- ITS FALSE NEIGHBOUR: 'it returns false'. Refute it at one input. -/
def graphKnownWrong : ChangeSpec := { name := "graphKnown", fn := fun _ => fun
  | [] => { results := [.lit (.bool false)], args := [] }
  | _ => none }
def GraphKnownWrongFalsely : Prop := graphKnownRow.holds Tryz.pinned (OpenSpec.ofChange graphKnownWrong)

/-- 'tallagelaw05.RoundKnown': WHATEVER THE INPUT: true; the input reads as it did. -/
def roundKnownSpec : ChangeSpec := { name := "roundKnown", fn := fun _ => fun
  | [] => { results := [.lit (.bool true)], args := [] }
  | _ => none }
def roundKnownRow : OpenClaim := { program := "ytkafabgcdlfhiaagreat", sum := "1b0a8413b026a92d06b573c923c7a6a7337226d5f5e1be6a0fbf5289aff4d035", func := "tallage/tallagelaw05.RoundKnown", spec := "roundKnown", unfollowed := true, recurses := true, named := ["math/bits.overflowError"], plainKeys := false, apart := false }
def RoundKnownSaid : Prop := roundKnownRow.holds Tryz.pinned (OpenSpec.ofChange roundKnownSpec)

/-- ITS FALSE NEIGHBOUR: 'it returns false'. Refute it at one input. -/
def roundKnownWrong : ChangeSpec := { name := "roundKnown", fn := fun _ => fun
  | [] => { results := [.lit (.bool false)], args := [] }
  | _ => none }
def RoundKnownWrongFalsely : Prop := roundKnownRow.holds Tryz.pinned (OpenSpec.ofChange roundKnownWrong)

/- THE SECOND FORM. 'bulk': how many values and letters a reading holds, each counted each time it is reached (what is shared counts as often as it is met; a slice's spare places count too). A statement '..UptoSaid' is the law's where the arguments, and the package variables that the reading takes, are together of bulk at most 1048576: NARROWER than '..Said'. Prove '..Said' where nothing that the law and all that it calls make is longer than what came in: it says more and counts as full. Else prove '..UptoSaid'. A law counts once. -/
mutual
def uptoBulk {H : Type} : DataW H → Nat
  | .lit (.string bytes) => bytes.length + 1
  | .lit _ => 1
  | .nil => 1
  | .ptr d => uptoBulk d + 1
  | .slice elems spare => uptoBulkAll elems + uptoBulkAll spare + 1
  | .agg parts => uptoBulkAll parts + 1
  | .iface _ d => uptoBulk d + 1
  | .map entries => uptoBulkEntries entries + 1
  | .held _ => 1
def uptoBulkAll {H : Type} : List (DataW H) → Nat
  | [] => 0
  | d :: r => uptoBulk d + uptoBulkAll r
def uptoBulkEntries {H : Type} : List (Lit × DataW H) → Nat
  | [] => 0
  | x :: r => uptoBulkEntry x + uptoBulkEntries r
def uptoBulkEntry {H : Type} : Lit × DataW H → Nat
  | (.string bytes, d) => bytes.length + uptoBulk d + 1
  | (_, d) => uptoBulk d + 1
 end
def uptoSmall : (H : Type) → List (DataW H) → Bool := fun _ ds => decide (uptoBulkAll ds ≤ 1048576)
def OpenSpec.upto (s : _root_.Go.ChangeSpec) : _root_.Go.OpenSpec := { _root_.Go.OpenSpec.ofChange s with cond := some uptoSmall }

/-- 'tallagelaw28.BracketsTax', WHERE WHAT IT READS IS OF BULK AT MOST 1048576: true; the input reads as it did. -/
def bracketsTaxUptoRow : OpenClaim := { program := "ytkafabgcdlfhiaagreat", sum := "1b0a8413b026a92d06b573c923c7a6a7337226d5f5e1be6a0fbf5289aff4d035", func := "tallage/tallagelaw28.BracketsTax", spec := "bracketsTax", unfollowed := true, recurses := true, named := ["math/bits.overflowError"], plainKeys := false, apart := false, narrowed := true }
def BracketsTaxUptoSaid : Prop := bracketsTaxUptoRow.holds Tryz.pinned (OpenSpec.upto bracketsTaxSpec)

/-- 'tallagelaw28.BracketsMore', WHERE WHAT IT READS IS OF BULK AT MOST 1048576: true; the input reads as it did. -/
def bracketsMoreUptoRow : OpenClaim := { program := "ytkafabgcdlfhiaagreat", sum := "1b0a8413b026a92d06b573c923c7a6a7337226d5f5e1be6a0fbf5289aff4d035", func := "tallage/tallagelaw28.BracketsMore", spec := "bracketsMore", unfollowed := true, recurses := true, named := ["math/bits.overflowError"], plainKeys := false, apart := false, narrowed := true }
def BracketsMoreUptoSaid : Prop := bracketsMoreUptoRow.holds Tryz.pinned (OpenSpec.upto bracketsMoreSpec)

/-- 'tallagelaw28.BracketsGrow', WHERE WHAT IT READS IS OF BULK AT MOST 1048576: true; the input reads as it did. -/
def bracketsGrowUptoRow : OpenClaim := { program := "ytkafabgcdlfhiaagreat", sum := "1b0a8413b026a92d06b573c923c7a6a7337226d5f5e1be6a0fbf5289aff4d035", func := "tallage/tallagelaw28.BracketsGrow", spec := "bracketsGrow", unfollowed := true, recurses := true, named := ["math/bits.overflowError"], plainKeys := false, apart := false, narrowed := true }
def BracketsGrowUptoSaid : Prop := bracketsGrowUptoRow.holds Tryz.pinned (OpenSpec.upto bracketsGrowSpec)

/-- 'tallagelaw28.BracketsKnown', WHERE WHAT IT READS IS OF BULK AT MOST 1048576: true; the input reads as it did. -/
def bracketsKnownUptoRow : OpenClaim := { program := "ytkafabgcdlfhiaagreat", sum := "1b0a8413b026a92d06b573c923c7a6a7337226d5f5e1be6a0fbf5289aff4d035", func := "tallage/tallagelaw28.BracketsKnown", spec := "bracketsKnown", unfollowed := true, recurses := true, named := ["math/bits.overflowError"], plainKeys := false, apart := false, narrowed := true }
def BracketsKnownUptoSaid : Prop := bracketsKnownUptoRow.holds Tryz.pinned (OpenSpec.upto bracketsKnownSpec)

/-- 'tallagelaw05.RoundPlaces', WHERE WHAT IT READS IS OF BULK AT MOST 1048576: true; the input reads as it did. -/
def roundPlacesUptoRow : OpenClaim := { program := "ytkafabgcdlfhiaagreat", sum := "1b0a8413b026a92d06b573c923c7a6a7337226d5f5e1be6a0fbf5289aff4d035", func := "tallage/tallagelaw05.RoundPlaces", spec := "roundPlaces", unfollowed := true, recurses := true, named := ["math/bits.overflowError"], plainKeys := false, apart := false, narrowed := true }
def RoundPlacesUptoSaid : Prop := roundPlacesUptoRow.holds Tryz.pinned (OpenSpec.upto roundPlacesSpec)

/-- 'tallagelaw05.RoundTells', WHERE WHAT IT READS IS OF BULK AT MOST 1048576: true; the input reads as it did. -/
def roundTellsUptoRow : OpenClaim := { program := "ytkafabgcdlfhiaagreat", sum := "1b0a8413b026a92d06b573c923c7a6a7337226d5f5e1be6a0fbf5289aff4d035", func := "tallage/tallagelaw05.RoundTells", spec := "roundTells", unfollowed := true, recurses := true, named := ["math/bits.overflowError"], plainKeys := false, apart := false, narrowed := true }
def RoundTellsUptoSaid : Prop := roundTellsUptoRow.holds Tryz.pinned (OpenSpec.upto roundTellsSpec)

/-- 'tallagelaw12.GraphOrder', WHERE WHAT IT READS IS OF BULK AT MOST 1048576: true; the input reads as it did. -/
def graphOrderUptoRow : OpenClaim := { program := "ytkafabgcdlfhiaagreat", sum := "1b0a8413b026a92d06b573c923c7a6a7337226d5f5e1be6a0fbf5289aff4d035", func := "tallage/tallagelaw12.GraphOrder", spec := "graphOrder", unfollowed := true, recurses := true, named := ["math/bits.overflowError"], plainKeys := false, apart := false, narrowed := true }
def GraphOrderUptoSaid : Prop := graphOrderUptoRow.holds Tryz.pinned (OpenSpec.upto graphOrderSpec)

/-- 'tallagelaw12.GraphLess', WHERE WHAT IT READS IS OF BULK AT MOST 1048576: true; the input reads as it did. -/
def graphLessUptoRow : OpenClaim := { program := "ytkafabgcdlfhiaagreat", sum := "1b0a8413b026a92d06b573c923c7a6a7337226d5f5e1be6a0fbf5289aff4d035", func := "tallage/tallagelaw12.GraphLess", spec := "graphLess", unfollowed := true, recurses := true, named := ["math/bits.overflowError"], plainKeys := false, apart := false, narrowed := true }
def GraphLessUptoSaid : Prop := graphLessUptoRow.holds Tryz.pinned (OpenSpec.upto graphLessSpec)

/-- 'tallagelaw12.GraphTells', WHERE WHAT IT READS IS OF BULK AT MOST 1048576: true; the input reads as it did. -/
def graphTellsUptoRow : OpenClaim := { program := "ytkafabgcdlfhiaagreat", sum := "1b0a8413b026a92d06b573c923c7a6a7337226d5f5e1be6a0fbf5289aff4d035", func := "tallage/tallagelaw12.GraphTells", spec := "graphTells", unfollowed := true, recurses := true, named := ["math/bits.overflowError"], plainKeys := false, apart := false, narrowed := true }
def GraphTellsUptoSaid : Prop := graphTellsUptoRow.holds Tryz.pinned (OpenSpec.upto graphTellsSpec)

/-- 'tallagelaw12.GraphKnown', WHERE WHAT IT READS IS OF BULK AT MOST 1048576: true; the input reads as it did. -/
def graphKnownUptoRow : OpenClaim := { program := "ytkafabgcdlfhiaagreat", sum := "1b0a8413b026a92d06b573c923c7a6a7337226d5f5e1be6a0fbf5289aff4d035", func := "tallage/tallagelaw12.GraphKnown", spec := "graphKnown", unfollowed := true, recurses := true, named := ["math/bits.overflowError"], plainKeys := false, apart := false, narrowed := true }
def GraphKnownUptoSaid : Prop := graphKnownUptoRow.holds Tryz.pinned (OpenSpec.upto graphKnownSpec)

/-- 'tallagelaw05.RoundKnown', WHERE WHAT IT READS IS OF BULK AT MOST 1048576: true; the input reads as it did. -/
def roundKnownUptoRow : OpenClaim := { program := "ytkafabgcdlfhiaagreat", sum := "1b0a8413b026a92d06b573c923c7a6a7337226d5f5e1be6a0fbf5289aff4d035", func := "tallage/tallagelaw05.RoundKnown", spec := "roundKnown", unfollowed := true, recurses := true, named := ["math/bits.overflowError"], plainKeys := false, apart := false, narrowed := true }
def RoundKnownUptoSaid : Prop := roundKnownUptoRow.holds Tryz.pinned (OpenSpec.upto roundKnownSpec)

end Rows
end Go.Proofs.YtkafabgcdlfhiaaGreat
