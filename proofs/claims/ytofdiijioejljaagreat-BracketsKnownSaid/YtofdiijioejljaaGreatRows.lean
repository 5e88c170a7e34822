/-
  No cell of these rows narrows 'for every input' (looked for: loops, veiled, ifaces, maps, wideKeys, modest, calm, conditions, laid).
  DERIVED. THE GIVEN ROWS OF THIS SEAT. 4 by the template 'for every input the law returns true; each argument reads behind the call as it read before'; 0 by the template 'total and deterministic' (their statements: YtofdiijioejljaaGreatTotals.lean).
  GIVEN WITH THE SEED: the statements are not yours to turn. If you find one false, say at which input.
  Laid BY PROGRAM, IN A SANDBOX (cutbox-rows.mjs): the forced cells as the released guide's own fill.sh prints them over the translation 58a4ac40e0153738… (all of the seat's roots in one cut). By AI agents, Wed Nov 11 2026. No macro, syntax, notation, axiom, sorry.
-/
import Derived.Test.YtofdiijioejljaaGreatChecked
import GoSem.Claim
import GoSem.ClaimJoined
import GoSem.ClaimMapViews
import Derived.JoinedTies
import Derived.KernelRfl
namespace Go.Proofs.YtofdiijioejljaaGreat
/- THE CELL 'sum', in the pinned program and in every row, IS THE sha256 OF THE DUMP (.gsa) THAT YtofdiijioejljaaGreatProg.lean LOADS. Nothing in Lean hashes anything: it is a label: what it is worth is what the hold of that sum in a sandbox is worth. -/
noncomputable def Tryz.pinned : Pinned := { name := "ytofdiijioejljaagreat", sum := "58a4ac40e015373856dfc0cdb09639f974fc5dbb3e1940fd42a1031c6422f9e4", checked := Tryz.checked }
namespace Rows
def none {H : Type} : Left H := { results := [], args := [] }

/-- 'tallagelaw28.BracketsTax': WHATEVER THE INPUT: true; the input reads as it did. -/
def bracketsTaxSpec : ChangeSpec := { name := "bracketsTax", fn := fun _ => fun
  | [d1, d2, d3] => { results := [.lit (.bool true)], args := [d1, d2, d3] }
  | _ => none }
def bracketsTaxRow : OpenClaim := { program := "ytofdiijioejljaagreat", sum := "58a4ac40e015373856dfc0cdb09639f974fc5dbb3e1940fd42a1031c6422f9e4", func := "tallage/tallagelaw28.BracketsTax", spec := "bracketsTax", unfollowed := true, recurses := true, named := ["math/bits.overflowError"], apart := false }
def BracketsTaxSaid : Prop := bracketsTaxRow.holds Tryz.pinned (OpenSpec.ofChange bracketsTaxSpec)

/-- ITS FALSE NEIGHBOUR: 'it returns false'. Refute it at one input. -/
def bracketsTaxWrong : ChangeSpec := { name := "bracketsTax", fn := fun _ => fun
  | [d1, d2, d3] => { results := [.lit (.bool false)], args := [d1, d2, d3] }
  | _ => none }
def BracketsTaxWrongFalsely : Prop := bracketsTaxRow.holds Tryz.pinned (OpenSpec.ofChange bracketsTaxWrong)

/-- 'tallagelaw28.BracketsMore': WHATEVER THE INPUT: true; the input reads as it did. -/
def bracketsMoreSpec : ChangeSpec := { name := "bracketsMore", fn := fun _ => fun
  | [d1, d2, d3, d4] => { results := [.lit (.bool true)], args := [d1, d2, d3, d4] }
  | _ => none }
def bracketsMoreRow : OpenClaim := { program := "ytofdiijioejljaagreat", sum := "58a4ac40e015373856dfc0cdb09639f974fc5dbb3e1940fd42a1031c6422f9e4", func := "tallage/tallagelaw28.BracketsMore", spec := "bracketsMore", unfollowed := true, recurses := true, named := ["math/bits.overflowError"], apart := false }
def BracketsMoreSaid : Prop := bracketsMoreRow.holds Tryz.pinned (OpenSpec.ofChange bracketsMoreSpec)

/-- ITS FALSE NEIGHBOUR: 'it returns false'. Refute it at one input. -/
def bracketsMoreWrong : ChangeSpec := { name := "bracketsMore", fn := fun _ => fun
  | [d1, d2, d3, d4] => { results := [.lit (.bool false)], args := [d1, d2, d3, d4] }
  | _ => none }
def BracketsMoreWrongFalsely : Prop := bracketsMoreRow.holds Tryz.pinned (OpenSpec.ofChange bracketsMoreWrong)

/-- 'tallagelaw28.BracketsGrow': WHATEVER THE INPUT: true; the input reads as it did. -/
def bracketsGrowSpec : ChangeSpec := { name := "bracketsGrow", fn := fun _ => fun
  | [d1, d2, d3, d4] => { results := [.lit (.bool true)], args := [d1, d2, d3, d4] }
  | _ => none }
def bracketsGrowRow : OpenClaim := { program := "ytofdiijioejljaagreat", sum := "58a4ac40e015373856dfc0cdb09639f974fc5dbb3e1940fd42a1031c6422f9e4", func := "tallage/tallagelaw28.BracketsGrow", spec := "bracketsGrow", unfollowed := true, recurses := true, named := ["math/bits.overflowError"], apart := false }
def BracketsGrowSaid : Prop := bracketsGrowRow.holds Tryz.pinned (OpenSpec.ofChange bracketsGrowSpec)

/-- ITS FALSE NEIGHBOUR: 'it returns false'. Refute it at one input. -/
def bracketsGrowWrong : ChangeSpec := { name := "bracketsGrow", fn := fun _ => fun
  | [d1, d2, d3, d4] => { results := [.lit (.bool false)], args := [d1, d2, d3, d4] }
  | _ => none }
def BracketsGrowWrongFalsely : Prop := bracketsGrowRow.holds Tryz.pinned (OpenSpec.ofChange bracketsGrowWrong)

/-- 'tallagelaw28.BracketsKnown': WHATEVER THE INPUT: true; the input reads as it did. -/
def bracketsKnownSpec : ChangeSpec := { name := "bracketsKnown", fn := fun _ => fun
  | [] => { results := [.lit (.bool true)], args := [] }
  | _ => none }
def bracketsKnownRow : OpenClaim := { program := "ytofdiijioejljaagreat", sum := "58a4ac40e015373856dfc0cdb09639f974fc5dbb3e1940fd42a1031c6422f9e4", func := "tallage/tallagelaw28.BracketsKnown", spec := "bracketsKnown", unfollowed := true, recurses := true, named := ["math/bits.overflowError"], apart := false }
def BracketsKnownSaid : Prop := bracketsKnownRow.holds Tryz.pinned (OpenSpec.ofChange bracketsKnownSpec)

/-- ITS FALSE NEIGHBOUR: 'it returns false'. Refute it at one input. -/
def bracketsKnownWrong : ChangeSpec := { name := "bracketsKnown", fn := fun _ => fun
  | [] => { results := [.lit (.bool false)], args := [] }
  | _ => none }
def BracketsKnownWrongFalsely : Prop := bracketsKnownRow.holds Tryz.pinned (OpenSpec.ofChange bracketsKnownWrong)

/- THE SECOND FORM. 'bulk': how many values and letters a reading holds, each counted each time it is reached (what is shared counts as often as it is met; a slice's spare places count too). A statement '..UptoSaid' is the law's where the arguments, and the package variables that the reading takes, are together of bulk at most 1048576: NARROWER than '..Said'. Prove '..Said' where nothing that the law and all that it calls make is longer than what came in: it says more and counts as full. Else prove '..UptoSaid'. A law counts once. -/
mutual
def uptoBulk {H : Type} : DataW H → Nat
  | .lit (.string bytes) => bytes.length + 1
  | .lit _ => 1
  | .nil => 1
  | .ptr d => uptoBulk d + 1
  | .slice elems spare => uptoBulkAll elems + uptoBulkAll spare + 1
  | .agg parts => uptoBulkAll parts + 1
  | .iface _ d => uptoBulk d + 1
  | .map entries => uptoBulkEntries entries + 1
  | .held _ => 1
def uptoBulkAll {H : Type} : List (DataW H) → Nat
  | [] => 0
  | d :: r => uptoBulk d + uptoBulkAll r
def uptoBulkEntries {H : Type} : List (Lit × DataW H) → Nat
  | [] => 0
  | x :: r => uptoBulkEntry x + uptoBulkEntries r
def uptoBulkEntry {H : Type} : Lit × DataW H → Nat
  | (.string bytes, d) => bytes.length + uptoBulk d + 1
  | (_, d) => uptoBulk d + 1
 end
def uptoSmall : (H : Type) → List (DataW H) → Bool := fun _ ds => decide (uptoBulkAll ds ≤ 1048576)
def OpenSpec.upto (s : _root_.Go.ChangeSpec) : _root_.Go.OpenSpec := { _root_.Go.OpenSpec.ofChange s with cond := some uptoSmall }

/-- 'tallagelaw28.BracketsTax', WHERE WHAT IT READS IS OF BULK AT MOST 1048576: true; the input reads as it did. -/
def bracketsTaxUptoRow : OpenClaim := { program := "ytofdiijioejljaagreat", sum := "58a4ac40e015373856dfc0cdb09639f974fc5dbb3e1940fd42a1031c6422f9e4", func := "tallage/tallagelaw28.BracketsTax", spec := "bracketsTax", unfollowed := true, recurses := true, named := ["math/bits.overflowError"], apart := false, narrowed := true }
def BracketsTaxUptoSaid : Prop := bracketsTaxUptoRow.holds Tryz.pinned (OpenSpec.upto bracketsTaxSpec)

/-- 'tallagelaw28.BracketsMore', WHERE WHAT IT READS IS OF BULK AT MOST 1048576: true; the input reads as it did. -/
def bracketsMoreUptoRow : OpenClaim := { program := "ytofdiijioejljaagreat", sum := "58a4ac40e015373856dfc0cdb09639f974fc5dbb3e1940fd42a1031c6422f9e4", func := "tallage/tallagelaw28.BracketsMore", spec := "bracketsMore", unfollowed := true, recurses := true, named := ["math/bits.overflowError"], apart := false, narrowed := true }
def BracketsMoreUptoSaid : Prop := bracketsMoreUptoRow.holds Tryz.pinned (OpenSpec.upto bracketsMoreSpec)

/-- 'tallagelaw28.BracketsGrow', WHERE WHAT IT READS IS OF BULK AT MOST 1048576: true; the input reads as it did. -/
def bracketsGrowUptoRow : OpenClaim := { program := "ytofdiijioejljaagreat", sum := "58a4ac40e015373856dfc0cdb09639f974fc5dbb3e1940fd42a1031c6422f9e4", func := "tallage/tallagelaw28.BracketsGrow", spec := "bracketsGrow", unfollowed := true, recurses := true, named := ["math/bits.overflowError"], apart := false, narrowed := true }
def BracketsGrowUptoSaid : Prop := bracketsGrowUptoRow.holds Tryz.pinned (OpenSpec.upto bracketsGrowSpec)

/-- 'tallagelaw28.BracketsKnown', WHERE WHAT IT READS IS OF BULK AT MOST 1048576: true; the input reads as it did. -/
def bracketsKnownUptoRow : OpenClaim := { program := "ytofdiijioejljaagreat", sum := "58a4ac40e015373856dfc0cdb09639f974fc5dbb3e1940fd42a1031c6422f9e4", func := "tallage/tallagelaw28.BracketsKnown", spec := "bracketsKnown", unfollowed := true, recurses := true, named := ["math/bits.overflowError"], apart := false, narrowed := true }
def BracketsKnownUptoSaid : Prop := bracketsKnownUptoRow.holds Tryz.pinned (OpenSpec.upto bracketsKnownSpec)

end Rows
end Go.Proofs.YtofdiijioejljaaGreat
