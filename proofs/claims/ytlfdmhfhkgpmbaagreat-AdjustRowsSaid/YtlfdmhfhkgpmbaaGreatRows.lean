/-
  No cell of these rows narrows 'for every input' (looked for: loops, veiled, ifaces, maps, wideKeys, modest, calm, conditions, laid).
  DERIVED. THE GIVEN ROWS OF THIS SEAT. 5 by the template 'for every input the law returns true; each argument reads behind the call as it read before'; 0 by the template 'total and deterministic' (their statements: YtlfdmhfhkgpmbaaGreatTotals.lean).
  GIVEN WITH THE SEED: the statements are not yours to turn. If you find one false, say at which input.
  Laid BY PROGRAM, IN A SANDBOX (cutbox-rows.mjs): the forced cells as the released guide's own fill.sh prints them over the translation 4bff9f072e2c209e… (all of the seat's roots in one cut). By AI agents, Wed Nov 11 2026. No macro, syntax, notation, axiom, sorry.
-/
import Derived.Test.YtlfdmhfhkgpmbaaGreatChecked
import GoSem.Claim
import GoSem.ClaimJoined
import GoSem.ClaimMapViews
import Derived.JoinedTies
import Derived.KernelRfl
namespace Go.Proofs.YtlfdmhfhkgpmbaaGreat
/- THE CELL 'sum', in the pinned program and in every row, IS THE sha256 OF THE DUMP (.gsa) THAT YtlfdmhfhkgpmbaaGreatProg.lean LOADS. Nothing in Lean hashes anything: it is a label: what it is worth is what the hold of that sum in a sandbox is worth. -/
noncomputable def Tryz.pinned : Pinned := { name := "ytlfdmhfhkgpmbaagreat", sum := "4bff9f072e2c209ec2aa7cec61e257044527a3e6880fff2b41818d9b56423e3a", checked := Tryz.checked }
namespace Rows
def none {H : Type} : Left H := { results := [], args := [] }

/-- 'tallagelaw19.AdjustBalance': WHATEVER THE INPUT: true; the input reads as it did. -/
def adjustBalanceSpec : ChangeSpec := { name := "adjustBalance", fn := fun _ => fun
  | [d1, d2, d3, d4] => { results := [.lit (.bool true)], args := [d1, d2, d3, d4] }
  | _ => none }
def adjustBalanceRow : OpenClaim := { program := "ytlfdmhfhkgpmbaagreat", sum := "4bff9f072e2c209ec2aa7cec61e257044527a3e6880fff2b41818d9b56423e3a", func := "tallage/tallagelaw19.AdjustBalance", spec := "adjustBalance", unfollowed := true, recurses := true, named := ["math/bits.overflowError"], apart := false }
def AdjustBalanceSaid : Prop := adjustBalanceRow.holds Tryz.pinned (OpenSpec.ofChange adjustBalanceSpec)

/-- ITS FALSE NEIGHBOUR: 'it returns false'. Refute it at one input. -/
def adjustBalanceWrong : ChangeSpec := { name := "adjustBalance", fn := fun _ => fun
  | [d1, d2, d3, d4] => { results := [.lit (.bool false)], args := [d1, d2, d3, d4] }
  | _ => none }
def AdjustBalanceWrongFalsely : Prop := adjustBalanceRow.holds Tryz.pinned (OpenSpec.ofChange adjustBalanceWrong)

/-- 'tallagelaw19.AdjustRows': WHATEVER THE INPUT: true; the input reads as it did. -/
def adjustRowsSpec : ChangeSpec := { name := "adjustRows", fn := fun _ => fun
  | [d1, d2, d3] => { results := [.lit (.bool true)], args := [d1, d2, d3] }
  | _ => none }
def adjustRowsRow : OpenClaim := { program := "ytlfdmhfhkgpmbaagreat", sum := "4bff9f072e2c209ec2aa7cec61e257044527a3e6880fff2b41818d9b56423e3a", func := "tallage/tallagelaw19.AdjustRows", spec := "adjustRows", unfollowed := true, recurses := true, named := ["math/bits.overflowError"], apart := false }
def AdjustRowsSaid : Prop := adjustRowsRow.holds Tryz.pinned (OpenSpec.ofChange adjustRowsSpec)

/-- ITS FALSE NEIGHBOUR: 'it returns false'. Refute it at one input. -/
def adjustRowsWrong : ChangeSpec := { name := "adjustRows", fn := fun _ => fun
  | [d1, d2, d3] => { results := [.lit (.bool false)], args := [d1, d2, d3] }
  | _ => none }
def AdjustRowsWrongFalsely : Prop := adjustRowsRow.holds Tryz.pinned (OpenSpec.ofChange adjustRowsWrong)

/-- 'tallagelaw19.AdjustSums': WHATEVER THE INPUT: true; the input reads as it did. -/
def adjustSumsSpec : ChangeSpec := { name := "adjustSums", fn := fun _ => fun
  | [d] => { results := [.lit (.bool true)], args := [d] }
  | _ => none }
def adjustSumsRow : OpenClaim := { program := "ytlfdmhfhkgpmbaagreat", sum := "4bff9f072e2c209ec2aa7cec61e257044527a3e6880fff2b41818d9b56423e3a", func := "tallage/tallagelaw19.AdjustSums", spec := "adjustSums", unfollowed := true, recurses := true, named := ["math/bits.overflowError"], apart := false }
def AdjustSumsSaid : Prop := adjustSumsRow.holds Tryz.pinned (OpenSpec.ofChange adjustSumsSpec)

/-- ITS FALSE NEIGHBOUR: 'it returns false'. Refute it at one input. -/
def adjustSumsWrong : ChangeSpec := { name := "adjustSums", fn := fun _ => fun
  | [d] => { results := [.lit (.bool false)], args := [d] }
  | _ => none }
def AdjustSumsWrongFalsely : Prop := adjustSumsRow.holds Tryz.pinned (OpenSpec.ofChange adjustSumsWrong)

/-- 'tallagelaw19.AdjustAdds': WHATEVER THE INPUT: true; the input reads as it did. -/
def adjustAddsSpec : ChangeSpec := { name := "adjustAdds", fn := fun _ => fun
  | [d1, d2, d3, d4] => { results := [.lit (.bool true)], args := [d1, d2, d3, d4] }
  | _ => none }
def adjustAddsRow : OpenClaim := { program := "ytlfdmhfhkgpmbaagreat", sum := "4bff9f072e2c209ec2aa7cec61e257044527a3e6880fff2b41818d9b56423e3a", func := "tallage/tallagelaw19.AdjustAdds", spec := "adjustAdds", unfollowed := true, recurses := true, named := ["math/bits.overflowError"], apart := false }
def AdjustAddsSaid : Prop := adjustAddsRow.holds Tryz.pinned (OpenSpec.ofChange adjustAddsSpec)

/-- ITS FALSE NEIGHBOUR: 'it returns false'. Refute it at one input. -/
def adjustAddsWrong : ChangeSpec := { name := "adjustAdds", fn := fun _ => fun
  | [d1, d2, d3, d4] => { results := [.lit (.bool false)], args := [d1, d2, d3, d4] }
  | _ => none }
def AdjustAddsWrongFalsely : Prop := adjustAddsRow.holds Tryz.pinned (OpenSpec.ofChange adjustAddsWrong)

/-- 'tallagelaw19.AdjustKnown': WHATEVER THE INPUT: true; the input reads as it did. -/
def adjustKnownSpec : ChangeSpec := { name := "adjustKnown", fn := fun _ => fun
  | [] => { results := [.lit (.bool true)], args := [] }
  | _ => none }
def adjustKnownRow : OpenClaim := { program := "ytlfdmhfhkgpmbaagreat", sum := "4bff9f072e2c209ec2aa7cec61e257044527a3e6880fff2b41818d9b56423e3a", func := "tallage/tallagelaw19.AdjustKnown", spec := "adjustKnown", unfollowed := true, recurses := true, named := ["math/bits.overflowError"], apart := false }
def AdjustKnownSaid : Prop := adjustKnownRow.holds Tryz.pinned (OpenSpec.ofChange adjustKnownSpec)

/-- ITS FALSE NEIGHBOUR: 'it returns false'. Refute it at one input. -/
def adjustKnownWrong : ChangeSpec := { name := "adjustKnown", fn := fun _ => fun
  | [] => { results := [.lit (.bool false)], args := [] }
  | _ => none }
def AdjustKnownWrongFalsely : Prop := adjustKnownRow.holds Tryz.pinned (OpenSpec.ofChange adjustKnownWrong)

/- THE SECOND FORM. 'bulk': how many values and letters a reading holds, each counted each time it is reached (what is shared counts as often as it is met; a slice's spare places count too). A statement '..UptoSaid' is the law's where the arguments, and the package variables that the reading takes, are together of bulk at most 1048576: NARROWER than '..Said'. Prove '..Said' where nothing that the law and all that it calls make is longer than what came in: it says more and counts as full. Else prove '..UptoSaid'. A law counts once. -/
mutual
def uptoBulk {H : Type} : DataW H → Nat
  | .lit (.string bytes) => bytes.length + 1
  | .lit _ => 1
  | .nil => 1
  | .ptr d => uptoBulk d + 1
  | .slice elems spare => uptoBulkAll elems + uptoBulkAll spare + 1
  | .agg parts => uptoBulkAll parts + 1
  | .iface _ d => uptoBulk d + 1
  | .map entries => uptoBulkEntries entries + 1
  | .held _ => 1
def uptoBulkAll {H : Type} : List (DataW H) → Nat
  | [] => 0
  | d :: r => uptoBulk d + uptoBulkAll r
def uptoBulkEntries {H : Type} : List (Lit × DataW H) → Nat
  | [] => 0
  | x :: r => uptoBulkEntry x + uptoBulkEntries r
def uptoBulkEntry {H : Type} : Lit × DataW H → Nat
  | (.string bytes, d) => bytes.length + uptoBulk d + 1
  | (_, d) => uptoBulk d + 1
 end
def uptoSmall : (H : Type) → List (DataW H) → Bool := fun _ ds => decide (uptoBulkAll ds ≤ 1048576)
def OpenSpec.upto (s : _root_.Go.ChangeSpec) : _root_.Go.OpenSpec := { _root_.Go.OpenSpec.ofChange s with cond := some uptoSmall }

/-- 'tallagelaw19.AdjustBalance', WHERE WHAT IT READS IS OF BULK AT MOST 1048576: true; the input reads as it did. -/
def adjustBalanceUptoRow : OpenClaim := { program := "ytlfdmhfhkgpmbaagreat", sum := "4bff9f072e2c209ec2aa7cec61e257044527a3e6880fff2b41818d9b56423e3a", func := "tallage/tallagelaw19.AdjustBalance", spec := "adjustBalance", unfollowed := true, recurses := true, named := ["math/bits.overflowError"], apart := false, narrowed := true }
def AdjustBalanceUptoSaid : Prop := adjustBalanceUptoRow.holds Tryz.pinned (OpenSpec.upto adjustBalanceSpec)

/-- 'tallagelaw19.AdjustRows', WHERE WHAT IT READS IS OF BULK AT MOST 1048576: true; the input reads as it did. -/
def adjustRowsUptoRow : OpenClaim := { program := "ytlfdmhfhkgpmbaagreat", sum := "4bff9f072e2c209ec2aa7cec61e257044527a3e6880fff2b41818d9b56423e3a", func := "tallage/tallagelaw19.AdjustRows", spec := "adjustRows", unfollowed := true, recurses := true, named := ["math/bits.overflowError"], apart := false, narrowed := true }
def AdjustRowsUptoSaid : Prop := adjustRowsUptoRow.holds Tryz.pinned (OpenSpec.upto adjustRowsSpec)

/-- 'tallagelaw19.AdjustSums', WHERE WHAT IT READS IS OF BULK AT MOST 1048576: true; the input reads as it did. -/
def adjustSumsUptoRow : OpenClaim := { program := "ytlfdmhfhkgpmbaagreat", sum := "4bff9f072e2c209ec2aa7cec61e257044527a3e6880fff2b41818d9b56423e3a", func := "tallage/tallagelaw19.AdjustSums", spec := "adjustSums", unfollowed := true, recurses := true, named := ["math/bits.overflowError"], apart := false, narrowed := true }
def AdjustSumsUptoSaid : Prop := adjustSumsUptoRow.holds Tryz.pinned (OpenSpec.upto adjustSumsSpec)

/-- 'tallagelaw19.AdjustAdds', WHERE WHAT IT READS IS OF BULK AT MOST 1048576: true; the input reads as it did. -/
def adjustAddsUptoRow : OpenClaim := { program := "ytlfdmhfhkgpmbaagreat", sum := "4bff9f072e2c209ec2aa7cec61e257044527a3e6880fff2b41818d9b56423e3a", func := "tallage/tallagelaw19.AdjustAdds", spec := "adjustAdds", unfollowed := true, recurses := true, named := ["math/bits.overflowError"], apart := false, narrowed := true }
def AdjustAddsUptoSaid : Prop := adjustAddsUptoRow.holds Tryz.pinned (OpenSpec.upto adjustAddsSpec)

/-- 'tallagelaw19.AdjustKnown', WHERE WHAT IT READS IS OF BULK AT MOST 1048576: true; the input reads as it did. -/
def adjustKnownUptoRow : OpenClaim := { program := "ytlfdmhfhkgpmbaagreat", sum := "4bff9f072e2c209ec2aa7cec61e257044527a3e6880fff2b41818d9b56423e3a", func := "tallage/tallagelaw19.AdjustKnown", spec := "adjustKnown", unfollowed := true, recurses := true, named := ["math/bits.overflowError"], apart := false, narrowed := true }
def AdjustKnownUptoSaid : Prop := adjustKnownUptoRow.holds Tryz.pinned (OpenSpec.upto adjustKnownSpec)

end Rows
end Go.Proofs.YtlfdmhfhkgpmbaaGreat
