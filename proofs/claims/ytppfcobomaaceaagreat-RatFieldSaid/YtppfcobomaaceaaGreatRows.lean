/-
  No cell of these rows narrows 'for every input' (looked for: loops, veiled, ifaces, maps, wideKeys, modest, calm, conditions, laid).
  DERIVED. THE GIVEN ROWS OF THIS SEAT. 4 by the template 'for every input the law returns true; each argument reads behind the call as it read before'; 0 by the template 'total and deterministic' (their statements: YtppfcobomaaceaaGreatTotals.lean).
  GIVEN WITH THE SEED: the statements are not yours to turn. If you find one false, say at which input.
  Laid BY PROGRAM, IN A SANDBOX (cutbox-rows.mjs): the forced cells as the released guide's own fill.sh prints them over the translation 3233982375ea18f3… (all of the seat's roots in one cut). By AI agents, Wed Nov 11 2026. No macro, syntax, notation, axiom, sorry.
-/
import Derived.Test.YtppfcobomaaceaaGreatChecked
import GoSem.Claim
import GoSem.ClaimJoined
import GoSem.ClaimMapViews
import Derived.JoinedTies
import Derived.KernelRfl
namespace Go.Proofs.YtppfcobomaaceaaGreat
/- THE CELL 'sum', in the pinned program and in every row, IS THE sha256 OF THE DUMP (.gsa) THAT YtppfcobomaaceaaGreatProg.lean LOADS. Nothing in Lean hashes anything: it is a label: what it is worth is what the hold of that sum in a sandbox is worth. -/
noncomputable def Tryz.pinned : Pinned := { name := "ytppfcobomaaceaagreat", sum := "3233982375ea18f3dbce3e11665ec75d9d39d58944a724923ff20d980f2933df", checked := Tryz.checked }
namespace Rows
def none {H : Type} : Left H := { results := [], args := [] }

/-- 'tallagelaw04.RatTwo': WHATEVER THE INPUT: true; the input reads as it did. -/
def ratTwoSpec : ChangeSpec := { name := "ratTwo", fn := fun _ => fun
  | [d1, d2] => { results := [.lit (.bool true)], args := [d1, d2] }
  | _ => none }
def ratTwoRow : OpenClaim := { program := "ytppfcobomaaceaagreat", sum := "3233982375ea18f3dbce3e11665ec75d9d39d58944a724923ff20d980f2933df", func := "tallage/tallagelaw04.RatTwo", spec := "ratTwo", unfollowed := true, recurses := true, named := ["math/bits.overflowError"], apart := false }
def RatTwoSaid : Prop := ratTwoRow.holds Tryz.pinned (OpenSpec.ofChange ratTwoSpec)

/-- ITS FALSE NEIGHBOUR: 'it returns false'. Refute it at one input. -/
def ratTwoWrong : ChangeSpec := { name := "ratTwo", fn := fun _ => fun
  | [d1, d2] => { results := [.lit (.bool false)], args := [d1, d2] }
  | _ => none }
def RatTwoWrongFalsely : Prop := ratTwoRow.holds Tryz.pinned (OpenSpec.ofChange ratTwoWrong)

/-- 'tallagelaw04.RatRows': WHATEVER THE INPUT: true; the input reads as it did. -/
def ratRowsSpec : ChangeSpec := { name := "ratRows", fn := fun _ => fun
  | [d1, d2] => { results := [.lit (.bool true)], args := [d1, d2] }
  | _ => none }
def ratRowsRow : OpenClaim := { program := "ytppfcobomaaceaagreat", sum := "3233982375ea18f3dbce3e11665ec75d9d39d58944a724923ff20d980f2933df", func := "tallage/tallagelaw04.RatRows", spec := "ratRows", unfollowed := true, recurses := true, named := ["math/bits.overflowError"], apart := false }
def RatRowsSaid : Prop := ratRowsRow.holds Tryz.pinned (OpenSpec.ofChange ratRowsSpec)

/-- ITS FALSE NEIGHBOUR: 'it returns false'. Refute it at one input. -/
def ratRowsWrong : ChangeSpec := { name := "ratRows", fn := fun _ => fun
  | [d1, d2] => { results := [.lit (.bool false)], args := [d1, d2] }
  | _ => none }
def RatRowsWrongFalsely : Prop := ratRowsRow.holds Tryz.pinned (OpenSpec.ofChange ratRowsWrong)

/-- 'tallagelaw04.RatField': WHATEVER THE INPUT: true; the input reads as it did. -/
def ratFieldSpec : ChangeSpec := { name := "ratField", fn := fun _ => fun
  | [d1, d2, d3] => { results := [.lit (.bool true)], args := [d1, d2, d3] }
  | _ => none }
def ratFieldRow : OpenClaim := { program := "ytppfcobomaaceaagreat", sum := "3233982375ea18f3dbce3e11665ec75d9d39d58944a724923ff20d980f2933df", func := "tallage/tallagelaw04.RatField", spec := "ratField", unfollowed := true, recurses := true, named := ["math/bits.overflowError"], apart := false }
def RatFieldSaid : Prop := ratFieldRow.holds Tryz.pinned (OpenSpec.ofChange ratFieldSpec)

/-- ITS FALSE NEIGHBOUR: 'it returns false'. Refute it at one input. -/
def ratFieldWrong : ChangeSpec := { name := "ratField", fn := fun _ => fun
  | [d1, d2, d3] => { results := [.lit (.bool false)], args := [d1, d2, d3] }
  | _ => none }
def RatFieldWrongFalsely : Prop := ratFieldRow.holds Tryz.pinned (OpenSpec.ofChange ratFieldWrong)

/-- 'tallagelaw04.RatKnown': WHATEVER THE INPUT: true; the input reads as it did. -/
def ratKnownSpec : ChangeSpec := { name := "ratKnown", fn := fun _ => fun
  | [] => { results := [.lit (.bool true)], args := [] }
  | _ => none }
def ratKnownRow : OpenClaim := { program := "ytppfcobomaaceaagreat", sum := "3233982375ea18f3dbce3e11665ec75d9d39d58944a724923ff20d980f2933df", func := "tallage/tallagelaw04.RatKnown", spec := "ratKnown", unfollowed := true, recurses := true, named := ["math/bits.overflowError"], apart := false }
def RatKnownSaid : Prop := ratKnownRow.holds Tryz.pinned (OpenSpec.ofChange ratKnownSpec)

/-- ITS FALSE NEIGHBOUR: 'it returns false'. Refute it at one input. -/
def ratKnownWrong : ChangeSpec := { name := "ratKnown", fn := fun _ => fun
  | [] => { results := [.lit (.bool false)], args := [] }
  | _ => none }
def RatKnownWrongFalsely : Prop := ratKnownRow.holds Tryz.pinned (OpenSpec.ofChange ratKnownWrong)

/- THE SECOND FORM. 'bulk': how many values and letters a reading holds, each counted each time it is reached (what is shared counts as often as it is met; a slice's spare places count too). A statement '..UptoSaid' is the law's where the arguments, and the package variables that the reading takes, are together of bulk at most 1048576: NARROWER than '..Said'. Prove '..Said' where nothing that the law and all that it calls make is longer than what came in: it says more and counts as full. Else prove '..UptoSaid'. A law counts once. -/
mutual
def uptoBulk {H : Type} : DataW H → Nat
  | .lit (.string bytes) => bytes.length + 1
  | .lit _ => 1
  | .nil => 1
  | .ptr d => uptoBulk d + 1
  | .slice elems spare => uptoBulkAll elems + uptoBulkAll spare + 1
  | .agg parts => uptoBulkAll parts + 1
  | .iface _ d => uptoBulk d + 1
  | .map entries => uptoBulkEntries entries + 1
  | .held _ => 1
def uptoBulkAll {H : Type} : List (DataW H) → Nat
  | [] => 0
  | d :: r => uptoBulk d + uptoBulkAll r
def uptoBulkEntries {H : Type} : List (Lit × DataW H) → Nat
  | [] => 0
  | x :: r => uptoBulkEntry x + uptoBulkEntries r
def uptoBulkEntry {H : Type} : Lit × DataW H → Nat
  | (.string bytes, d) => bytes.length + uptoBulk d + 1
  | (_, d) => uptoBulk d + 1
 end
def uptoSmall : (H : Type) → List (DataW H) → Bool := fun _ ds => decide (uptoBulkAll ds ≤ 1048576)
def OpenSpec.upto (s : _root_.Go.ChangeSpec) : _root_.Go.OpenSpec := { _root_.Go.OpenSpec.ofChange s with cond := some uptoSmall }

/-- 'tallagelaw04.RatTwo', WHERE WHAT IT READS IS OF BULK AT MOST 1048576: true; the input reads as it did. -/
def ratTwoUptoRow : OpenClaim := { program := "ytppfcobomaaceaagreat", sum := "3233982375ea18f3dbce3e11665ec75d9d39d58944a724923ff20d980f2933df", func := "tallage/tallagelaw04.RatTwo", spec := "ratTwo", unfollowed := true, recurses := true, named := ["math/bits.overflowError"], apart := false, narrowed := true }
def RatTwoUptoSaid : Prop := ratTwoUptoRow.holds Tryz.pinned (OpenSpec.upto ratTwoSpec)

/-- 'tallagelaw04.RatRows', WHERE WHAT IT READS IS OF BULK AT MOST 1048576: true; the input reads as it did. -/
def ratRowsUptoRow : OpenClaim := { program := "ytppfcobomaaceaagreat", sum := "3233982375ea18f3dbce3e11665ec75d9d39d58944a724923ff20d980f2933df", func := "tallage/tallagelaw04.RatRows", spec := "ratRows", unfollowed := true, recurses := true, named := ["math/bits.overflowError"], apart := false, narrowed := true }
def RatRowsUptoSaid : Prop := ratRowsUptoRow.holds Tryz.pinned (OpenSpec.upto ratRowsSpec)

/-- 'tallagelaw04.RatField', WHERE WHAT IT READS IS OF BULK AT MOST 1048576: true; the input reads as it did. -/
def ratFieldUptoRow : OpenClaim := { program := "ytppfcobomaaceaagreat", sum := "3233982375ea18f3dbce3e11665ec75d9d39d58944a724923ff20d980f2933df", func := "tallage/tallagelaw04.RatField", spec := "ratField", unfollowed := true, recurses := true, named := ["math/bits.overflowError"], apart := false, narrowed := true }
def RatFieldUptoSaid : Prop := ratFieldUptoRow.holds Tryz.pinned (OpenSpec.upto ratFieldSpec)

/-- 'tallagelaw04.RatKnown', WHERE WHAT IT READS IS OF BULK AT MOST 1048576: true; the input reads as it did. -/
def ratKnownUptoRow : OpenClaim := { program := "ytppfcobomaaceaagreat", sum := "3233982375ea18f3dbce3e11665ec75d9d39d58944a724923ff20d980f2933df", func := "tallage/tallagelaw04.RatKnown", spec := "ratKnown", unfollowed := true, recurses := true, named := ["math/bits.overflowError"], apart := false, narrowed := true }
def RatKnownUptoSaid : Prop := ratKnownUptoRow.holds Tryz.pinned (OpenSpec.upto ratKnownSpec)

end Rows
end Go.Proofs.YtppfcobomaaceaaGreat
