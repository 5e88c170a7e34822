/-
  No cell of these rows narrows 'for every input' (looked for: loops, veiled, ifaces, maps, wideKeys, modest, calm, conditions, laid).
  DERIVED. THE GIVEN ROWS OF THIS SEAT. 5 by the template 'for every input the law returns true; each argument reads behind the call as it read before'; 0 by the template 'total and deterministic' (their statements: YtfffohhcabcefaaTotals.lean).
  GIVEN WITH THE SEED: the statements are not yours to turn. If you find one false, say at which input.
  Laid BY PROGRAM, IN A SANDBOX (cutbox-rows.mjs): the forced cells as the released guide's own fill.sh prints them over the translation 6e07b70874baa77c… (all of the seat's roots in one cut). By AI agents, Wed Nov 11 2026. No macro, syntax, notation, axiom, sorry.
-/
import Derived.Test.YtfffohhcabcefaaChecked
import GoSem.Claim
import GoSem.ClaimJoined
import GoSem.ClaimMapViews
import Derived.JoinedTies
import Derived.KernelRfl
namespace Go.Proofs.Ytfffohhcabcefaa
/- THE CELL 'sum', in the pinned program and in every row, IS THE sha256 OF THE DUMP (.gsa) THAT YtfffohhcabcefaaProg.lean LOADS. Nothing in Lean hashes anything: it is a label: what it is worth is what the hold of that sum in a sandbox is worth. -/
noncomputable def Try.pinned : Pinned := { name := "ytfffohhcabcefaa", sum := "6e07b70874baa77c4747302ee2ad6119b8e1b9a43d7b7a93a49b257737246e99", checked := Try.checked }
namespace Rows
def none {H : Type} : Left H := { results := [], args := [] }

/-- 'tallagelaw01.LimbSmall': WHATEVER THE INPUT: true; the input reads as it did. -/
def limbSmallSpec : ChangeSpec := { name := "limbSmall", fn := fun _ => fun
  | [d1, d2] => { results := [.lit (.bool true)], args := [d1, d2] }
  | _ => none }
def limbSmallRow : OpenClaim := { program := "ytfffohhcabcefaa", sum := "6e07b70874baa77c4747302ee2ad6119b8e1b9a43d7b7a93a49b257737246e99", func := "tallage/tallagelaw01.LimbSmall", spec := "limbSmall", named := ["math/bits.overflowError"], apart := false }
def LimbSmallSaid : Prop := limbSmallRow.holds Try.pinned (OpenSpec.ofChange limbSmallSpec)

/-- ITS FALSE NEIGHBOUR: 'it returns false'. Refute it at one input. -/
def limbSmallWrong : ChangeSpec := { name := "limbSmall", fn := fun _ => fun
  | [d1, d2] => { results := [.lit (.bool false)], args := [d1, d2] }
  | _ => none }
def LimbSmallWrongFalsely : Prop := limbSmallRow.holds Try.pinned (OpenSpec.ofChange limbSmallWrong)

/-- 'tallagelaw01.LimbShift': WHATEVER THE INPUT: true; the input reads as it did. -/
def limbShiftSpec : ChangeSpec := { name := "limbShift", fn := fun _ => fun
  | [d1, d2] => { results := [.lit (.bool true)], args := [d1, d2] }
  | _ => none }
def limbShiftRow : OpenClaim := { program := "ytfffohhcabcefaa", sum := "6e07b70874baa77c4747302ee2ad6119b8e1b9a43d7b7a93a49b257737246e99", func := "tallage/tallagelaw01.LimbShift", spec := "limbShift", named := ["math/bits.overflowError"], apart := false }
def LimbShiftSaid : Prop := limbShiftRow.holds Try.pinned (OpenSpec.ofChange limbShiftSpec)

/-- ITS FALSE NEIGHBOUR: 'it returns false'. Refute it at one input. -/
def limbShiftWrong : ChangeSpec := { name := "limbShift", fn := fun _ => fun
  | [d1, d2] => { results := [.lit (.bool false)], args := [d1, d2] }
  | _ => none }
def LimbShiftWrongFalsely : Prop := limbShiftRow.holds Try.pinned (OpenSpec.ofChange limbShiftWrong)

/-- 'tallagelaw01.LimbBack': WHATEVER THE INPUT: true; the input reads as it did. -/
def limbBackSpec : ChangeSpec := { name := "limbBack", fn := fun _ => fun
  | [d1, d2, d3, d4] => { results := [.lit (.bool true)], args := [d1, d2, d3, d4] }
  | _ => none }
def limbBackRow : OpenClaim := { program := "ytfffohhcabcefaa", sum := "6e07b70874baa77c4747302ee2ad6119b8e1b9a43d7b7a93a49b257737246e99", func := "tallage/tallagelaw01.LimbBack", spec := "limbBack", named := ["math/bits.overflowError"], apart := false }
def LimbBackSaid : Prop := limbBackRow.holds Try.pinned (OpenSpec.ofChange limbBackSpec)

/-- ITS FALSE NEIGHBOUR: 'it returns false'. Refute it at one input. -/
def limbBackWrong : ChangeSpec := { name := "limbBack", fn := fun _ => fun
  | [d1, d2, d3, d4] => { results := [.lit (.bool false)], args := [d1, d2, d3, d4] }
  | _ => none }
def LimbBackWrongFalsely : Prop := limbBackRow.holds Try.pinned (OpenSpec.ofChange limbBackWrong)

/-- 'tallagelaw01.LimbSums': WHATEVER THE INPUT: true; the input reads as it did. -/
def limbSumsSpec : ChangeSpec := { name := "limbSums", fn := fun _ => fun
  | [d1, d2, d3] => { results := [.lit (.bool true)], args := [d1, d2, d3] }
  | _ => none }
def limbSumsRow : OpenClaim := { program := "ytfffohhcabcefaa", sum := "6e07b70874baa77c4747302ee2ad6119b8e1b9a43d7b7a93a49b257737246e99", func := "tallage/tallagelaw01.LimbSums", spec := "limbSums", named := ["math/bits.overflowError"], apart := false }
def LimbSumsSaid : Prop := limbSumsRow.holds Try.pinned (OpenSpec.ofChange limbSumsSpec)

/-- ITS FALSE NEIGHBOUR: 'it returns false'. Refute it at one input. -/
def limbSumsWrong : ChangeSpec := { name := "limbSums", fn := fun _ => fun
  | [d1, d2, d3] => { results := [.lit (.bool false)], args := [d1, d2, d3] }
  | _ => none }
def LimbSumsWrongFalsely : Prop := limbSumsRow.holds Try.pinned (OpenSpec.ofChange limbSumsWrong)

/-- 'tallagelaw01.LimbKnown': WHATEVER THE INPUT: true; the input reads as it did. -/
def limbKnownSpec : ChangeSpec := { name := "limbKnown", fn := fun _ => fun
  | [] => { results := [.lit (.bool true)], args := [] }
  | _ => none }
def limbKnownRow : OpenClaim := { program := "ytfffohhcabcefaa", sum := "6e07b70874baa77c4747302ee2ad6119b8e1b9a43d7b7a93a49b257737246e99", func := "tallage/tallagelaw01.LimbKnown", spec := "limbKnown", named := ["math/bits.overflowError"], apart := false }
def LimbKnownSaid : Prop := limbKnownRow.holds Try.pinned (OpenSpec.ofChange limbKnownSpec)

/-- ITS FALSE NEIGHBOUR: 'it returns false'. Refute it at one input. -/
def limbKnownWrong : ChangeSpec := { name := "limbKnown", fn := fun _ => fun
  | [] => { results := [.lit (.bool false)], args := [] }
  | _ => none }
def LimbKnownWrongFalsely : Prop := limbKnownRow.holds Try.pinned (OpenSpec.ofChange limbKnownWrong)

/- THE SECOND FORM. 'bulk': how many values and letters a reading holds, each counted each time it is reached (what is shared counts as often as it is met; a slice's spare places count too). A statement '..UptoSaid' is the law's where the arguments, and the package variables that the reading takes, are together of bulk at most 1048576: NARROWER than '..Said'. Prove '..Said' where nothing that the law and all that it calls make is longer than what came in: it says more and counts as full. Else prove '..UptoSaid'. A law counts once. -/
mutual
def uptoBulk {H : Type} : DataW H → Nat
  | .lit (.string bytes) => bytes.length + 1
  | .lit _ => 1
  | .nil => 1
  | .ptr d => uptoBulk d + 1
  | .slice elems spare => uptoBulkAll elems + uptoBulkAll spare + 1
  | .agg parts => uptoBulkAll parts + 1
  | .iface _ d => uptoBulk d + 1
  | .map entries => uptoBulkEntries entries + 1
  | .held _ => 1
def uptoBulkAll {H : Type} : List (DataW H) → Nat
  | [] => 0
  | d :: r => uptoBulk d + uptoBulkAll r
def uptoBulkEntries {H : Type} : List (Lit × DataW H) → Nat
  | [] => 0
  | x :: r => uptoBulkEntry x + uptoBulkEntries r
def uptoBulkEntry {H : Type} : Lit × DataW H → Nat
  | (.string bytes, d) => bytes.length + uptoBulk d + 1
  | (_, d) => uptoBulk d + 1
 end
def uptoSmall : (H : Type) → List (DataW H) → Bool := fun _ ds => decide (uptoBulkAll ds ≤ 1048576)
def OpenSpec.upto (s : _root_.Go.ChangeSpec) : _root_.Go.OpenSpec := { _root_.Go.OpenSpec.ofChange s with cond := some uptoSmall }

/-- 'tallagelaw01.LimbSmall', WHERE WHAT IT READS IS OF BULK AT MOST 1048576: true; the input reads as it did. -/
def limbSmallUptoRow : OpenClaim := { program := "ytfffohhcabcefaa", sum := "6e07b70874baa77c4747302ee2ad6119b8e1b9a43d7b7a93a49b257737246e99", func := "tallage/tallagelaw01.LimbSmall", spec := "limbSmall", named := ["math/bits.overflowError"], apart := false, narrowed := true }
def LimbSmallUptoSaid : Prop := limbSmallUptoRow.holds Try.pinned (OpenSpec.upto limbSmallSpec)

/-- 'tallagelaw01.LimbShift', WHERE WHAT IT READS IS OF BULK AT MOST 1048576: true; the input reads as it did. -/
def limbShiftUptoRow : OpenClaim := { program := "ytfffohhcabcefaa", sum := "6e07b70874baa77c4747302ee2ad6119b8e1b9a43d7b7a93a49b257737246e99", func := "tallage/tallagelaw01.LimbShift", spec := "limbShift", named := ["math/bits.overflowError"], apart := false, narrowed := true }
def LimbShiftUptoSaid : Prop := limbShiftUptoRow.holds Try.pinned (OpenSpec.upto limbShiftSpec)

/-- 'tallagelaw01.LimbBack', WHERE WHAT IT READS IS OF BULK AT MOST 1048576: true; the input reads as it did. -/
def limbBackUptoRow : OpenClaim := { program := "ytfffohhcabcefaa", sum := "6e07b70874baa77c4747302ee2ad6119b8e1b9a43d7b7a93a49b257737246e99", func := "tallage/tallagelaw01.LimbBack", spec := "limbBack", named := ["math/bits.overflowError"], apart := false, narrowed := true }
def LimbBackUptoSaid : Prop := limbBackUptoRow.holds Try.pinned (OpenSpec.upto limbBackSpec)

/-- 'tallagelaw01.LimbSums', WHERE WHAT IT READS IS OF BULK AT MOST 1048576: true; the input reads as it did. -/
def limbSumsUptoRow : OpenClaim := { program := "ytfffohhcabcefaa", sum := "6e07b70874baa77c4747302ee2ad6119b8e1b9a43d7b7a93a49b257737246e99", func := "tallage/tallagelaw01.LimbSums", spec := "limbSums", named := ["math/bits.overflowError"], apart := false, narrowed := true }
def LimbSumsUptoSaid : Prop := limbSumsUptoRow.holds Try.pinned (OpenSpec.upto limbSumsSpec)

/-- 'tallagelaw01.LimbKnown', WHERE WHAT IT READS IS OF BULK AT MOST 1048576: true; the input reads as it did. -/
def limbKnownUptoRow : OpenClaim := { program := "ytfffohhcabcefaa", sum := "6e07b70874baa77c4747302ee2ad6119b8e1b9a43d7b7a93a49b257737246e99", func := "tallage/tallagelaw01.LimbKnown", spec := "limbKnown", named := ["math/bits.overflowError"], apart := false, narrowed := true }
def LimbKnownUptoSaid : Prop := limbKnownUptoRow.holds Try.pinned (OpenSpec.upto limbKnownSpec)

end Rows
end Go.Proofs.Ytfffohhcabcefaa
