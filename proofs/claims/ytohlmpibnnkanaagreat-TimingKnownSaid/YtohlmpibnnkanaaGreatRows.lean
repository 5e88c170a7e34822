/-
  No cell of these rows narrows 'for every input' (looked for: loops, veiled, ifaces, maps, wideKeys, modest, calm, conditions, laid).
  DERIVED. THE GIVEN ROWS OF THIS SEAT. 11 by the template 'for every input the law returns true; each argument reads behind the call as it read before'; 0 by the template 'total and deterministic' (their statements: YtohlmpibnnkanaaGreatTotals.lean).
  GIVEN WITH THE SEED: the statements are not yours to turn. If you find one false, say at which input.
  Laid BY PROGRAM, IN A SANDBOX (cutbox-rows.mjs): the forced cells as the released guide's own fill.sh prints them over the translation 458ac8b578534113… (all of the seat's roots in one cut). By AI agents, Wed Nov 11 2026. No macro, syntax, notation, axiom, sorry.
-/
import Derived.Test.YtohlmpibnnkanaaGreatChecked
import GoSem.Claim
import GoSem.ClaimJoined
import GoSem.ClaimMapViews
import Derived.JoinedTies
import Derived.KernelRfl
namespace Go.Proofs.YtohlmpibnnkanaaGreat
/- THE CELL 'sum', in the pinned program and in every row, IS THE sha256 OF THE DUMP (.gsa) THAT YtohlmpibnnkanaaGreatProg.lean LOADS. Nothing in Lean hashes anything: it is a label: what it is worth is what the hold of that sum in a sandbox is worth. -/
noncomputable def Tryz.pinned : Pinned := { name := "ytohlmpibnnkanaagreat", sum := "458ac8b5785341138cacd2b3a9bf75e77aeac6dd6a05cfa0e73cc71b8cac5613", checked := Tryz.checked }
namespace Rows
def none {H : Type} : Left H := { results := [], args := [] }

/-- 'tallagelaw18.TimingAll': WHATEVER THE INPUT: true; the input reads as it did. -/
def timingAllSpec : ChangeSpec := { name := "timingAll", fn := fun _ => fun
  | [d] => { results := [.lit (.bool true)], args := [d] }
  | _ => none }
def timingAllRow : OpenClaim := { program := "ytohlmpibnnkanaagreat", sum := "458ac8b5785341138cacd2b3a9bf75e77aeac6dd6a05cfa0e73cc71b8cac5613", func := "tallage/tallagelaw18.TimingAll", spec := "timingAll", unfollowed := true, recurses := true, named := ["math/bits.overflowError"], apart := false }
def TimingAllSaid : Prop := timingAllRow.holds Tryz.pinned (OpenSpec.ofChange timingAllSpec)

/-- ITS FALSE NEIGHBOUR: 'it returns false'. Refute it at one input. -/
def timingAllWrong : ChangeSpec := { name := "timingAll", fn := fun _ => fun
  | [d] => { results := [.lit (.bool false)], args := [d] }
  | _ => none }
def TimingAllWrongFalsely : Prop := timingAllRow.holds Tryz.pinned (OpenSpec.ofChange timingAllWrong)

/-- 'tallagelaw18.TimingTurns': WHATEVER THE INPUT: true; the input reads as it did. -/
def timingTurnsSpec : ChangeSpec := { name := "timingTurns", fn := fun _ => fun
  | [d1, d2, d3, d4] => { results := [.lit (.bool true)], args := [d1, d2, d3, d4] }
  | _ => none }
def timingTurnsRow : OpenClaim := { program := "ytohlmpibnnkanaagreat", sum := "458ac8b5785341138cacd2b3a9bf75e77aeac6dd6a05cfa0e73cc71b8cac5613", func := "tallage/tallagelaw18.TimingTurns", spec := "timingTurns", unfollowed := true, recurses := true, named := ["math/bits.overflowError"], apart := false }
def TimingTurnsSaid : Prop := timingTurnsRow.holds Tryz.pinned (OpenSpec.ofChange timingTurnsSpec)

/-- ITS FALSE NEIGHBOUR: 'it returns false'. Refute it at one input. -/
def timingTurnsWrong : ChangeSpec := { name := "timingTurns", fn := fun _ => fun
  | [d1, d2, d3, d4] => { results := [.lit (.bool false)], args := [d1, d2, d3, d4] }
  | _ => none }
def TimingTurnsWrongFalsely : Prop := timingTurnsRow.holds Tryz.pinned (OpenSpec.ofChange timingTurnsWrong)

/-- 'tallagelaw18.TimingTells': WHATEVER THE INPUT: true; the input reads as it did. -/
def timingTellsSpec : ChangeSpec := { name := "timingTells", fn := fun _ => fun
  | [d1, d2] => { results := [.lit (.bool true)], args := [d1, d2] }
  | _ => none }
def timingTellsRow : OpenClaim := { program := "ytohlmpibnnkanaagreat", sum := "458ac8b5785341138cacd2b3a9bf75e77aeac6dd6a05cfa0e73cc71b8cac5613", func := "tallage/tallagelaw18.TimingTells", spec := "timingTells", unfollowed := true, recurses := true, named := ["math/bits.overflowError"], apart := false }
def TimingTellsSaid : Prop := timingTellsRow.holds Tryz.pinned (OpenSpec.ofChange timingTellsSpec)

/-- ITS FALSE NEIGHBOUR: 'it returns false'. Refute it at one input. -/
def timingTellsWrong : ChangeSpec := { name := "timingTells", fn := fun _ => fun
  | [d1, d2] => { results := [.lit (.bool false)], args := [d1, d2] }
  | _ => none }
def TimingTellsWrongFalsely : Prop := timingTellsRow.holds Tryz.pinned (OpenSpec.ofChange timingTellsWrong)

/-- 'tallagelaw18.TimingPuts': WHATEVER THE INPUT: true; the input reads as it did. -/
def timingPutsSpec : ChangeSpec := { name := "timingPuts", fn := fun _ => fun
  | [d1, d2] => { results := [.lit (.bool true)], args := [d1, d2] }
  | _ => none }
def timingPutsRow : OpenClaim := { program := "ytohlmpibnnkanaagreat", sum := "458ac8b5785341138cacd2b3a9bf75e77aeac6dd6a05cfa0e73cc71b8cac5613", func := "tallage/tallagelaw18.TimingPuts", spec := "timingPuts", unfollowed := true, recurses := true, named := ["math/bits.overflowError"], apart := false }
def TimingPutsSaid : Prop := timingPutsRow.holds Tryz.pinned (OpenSpec.ofChange timingPutsSpec)

/-- ITS FALSE NEIGHBOUR: 'it returns false'. Refute it at one input. -/
def timingPutsWrong : ChangeSpec := { name := "timingPuts", fn := fun _ => fun
  | [d1, d2] => { results := [.lit (.bool false)], args := [d1, d2] }
  | _ => none }
def TimingPutsWrongFalsely : Prop := timingPutsRow.holds Tryz.pinned (OpenSpec.ofChange timingPutsWrong)

/-- 'tallagelaw18.TimingNone': WHATEVER THE INPUT: true; the input reads as it did. -/
def timingNoneSpec : ChangeSpec := { name := "timingNone", fn := fun _ => fun
  | [d] => { results := [.lit (.bool true)], args := [d] }
  | _ => none }
def timingNoneRow : OpenClaim := { program := "ytohlmpibnnkanaagreat", sum := "458ac8b5785341138cacd2b3a9bf75e77aeac6dd6a05cfa0e73cc71b8cac5613", func := "tallage/tallagelaw18.TimingNone", spec := "timingNone", unfollowed := true, recurses := true, named := ["math/bits.overflowError"], apart := false }
def TimingNoneSaid : Prop := timingNoneRow.holds Tryz.pinned (OpenSpec.ofChange timingNoneSpec)

/-- ITS FALSE NEIGHBOUR: 'it returns false'. Refute it at one input. -/
def timingNoneWrong : ChangeSpec := { name := "timingNone", fn := fun _ => fun
  | [d] => { results := [.lit (.bool false)], args := [d] }
  | _ => none }
def TimingNoneWrongFalsely : Prop := timingNoneRow.holds Tryz.pinned (OpenSpec.ofChange timingNoneWrong)

/-- 'tallagelaw24.InterestMore': WHATEVER THE INPUT: true; the input reads as it did. -/
def interestMoreSpec : ChangeSpec := { name := "interestMore", fn := fun _ => fun
  | [d1, d2, d3] => { results := [.lit (.bool true)], args := [d1, d2, d3] }
  | _ => none }
def interestMoreRow : OpenClaim := { program := "ytohlmpibnnkanaagreat", sum := "458ac8b5785341138cacd2b3a9bf75e77aeac6dd6a05cfa0e73cc71b8cac5613", func := "tallage/tallagelaw24.InterestMore", spec := "interestMore", unfollowed := true, recurses := true, named := ["math/bits.overflowError"], apart := false }
def InterestMoreSaid : Prop := interestMoreRow.holds Tryz.pinned (OpenSpec.ofChange interestMoreSpec)

/-- ITS FALSE NEIGHBOUR: 'it returns false'. Refute it at one input. -/
def interestMoreWrong : ChangeSpec := { name := "interestMore", fn := fun _ => fun
  | [d1, d2, d3] => { results := [.lit (.bool false)], args := [d1, d2, d3] }
  | _ => none }
def InterestMoreWrongFalsely : Prop := interestMoreRow.holds Tryz.pinned (OpenSpec.ofChange interestMoreWrong)

/-- 'tallagelaw18.TimingKnown': WHATEVER THE INPUT: true; the input reads as it did. -/
def timingKnownSpec : ChangeSpec := { name := "timingKnown", fn := fun _ => fun
  | [] => { results := [.lit (.bool true)], args := [] }
  | _ => none }
def timingKnownRow : OpenClaim := { program := "ytohlmpibnnkanaagreat", sum := "458ac8b5785341138cacd2b3a9bf75e77aeac6dd6a05cfa0e73cc71b8cac5613", func := "tallage/tallagelaw18.TimingKnown", spec := "timingKnown", unfollowed := true, recurses := true, named := ["math/bits.overflowError"], apart := false }
def TimingKnownSaid : Prop := timingKnownRow.holds Tryz.pinned (OpenSpec.ofChange timingKnownSpec)

/-- ITS FALSE NEIGHBOUR: 'it returns false'. Refute it at one input. -/
def timingKnownWrong : ChangeSpec := { name := "timingKnown", fn := fun _ => fun
  | [] => { results := [.lit (.bool false)], args := [] }
  | _ => none }
def TimingKnownWrongFalsely : Prop := timingKnownRow.holds Tryz.pinned (OpenSpec.ofChange timingKnownWrong)

/-- 'tallagelaw24.InterestConserves': WHATEVER THE INPUT: true; the input reads as it did. -/
def interestConservesSpec : ChangeSpec := { name := "interestConserves", fn := fun _ => fun
  | [d1, d2] => { results := [.lit (.bool true)], args := [d1, d2] }
  | _ => none }
def interestConservesRow : OpenClaim := { program := "ytohlmpibnnkanaagreat", sum := "458ac8b5785341138cacd2b3a9bf75e77aeac6dd6a05cfa0e73cc71b8cac5613", func := "tallage/tallagelaw24.InterestConserves", spec := "interestConserves", unfollowed := true, recurses := true, named := ["math/bits.overflowError"], apart := false }
def InterestConservesSaid : Prop := interestConservesRow.holds Tryz.pinned (OpenSpec.ofChange interestConservesSpec)

/-- ITS FALSE NEIGHBOUR: 'it returns false'. Refute it at one input. -/
def interestConservesWrong : ChangeSpec := { name := "interestConserves", fn := fun _ => fun
  | [d1, d2] => { results := [.lit (.bool false)], args := [d1, d2] }
  | _ => none }
def InterestConservesWrongFalsely : Prop := interestConservesRow.holds Tryz.pinned (OpenSpec.ofChange interestConservesWrong)

/-- 'tallagelaw24.InterestRuns': WHATEVER THE INPUT: true; the input reads as it did. -/
def interestRunsSpec : ChangeSpec := { name := "interestRuns", fn := fun _ => fun
  | [d1, d2] => { results := [.lit (.bool true)], args := [d1, d2] }
  | _ => none }
def interestRunsRow : OpenClaim := { program := "ytohlmpibnnkanaagreat", sum := "458ac8b5785341138cacd2b3a9bf75e77aeac6dd6a05cfa0e73cc71b8cac5613", func := "tallage/tallagelaw24.InterestRuns", spec := "interestRuns", unfollowed := true, recurses := true, named := ["math/bits.overflowError"], apart := false }
def InterestRunsSaid : Prop := interestRunsRow.holds Tryz.pinned (OpenSpec.ofChange interestRunsSpec)

/-- ITS FALSE NEIGHBOUR: 'it returns false'. Refute it at one input. -/
def interestRunsWrong : ChangeSpec := { name := "interestRuns", fn := fun _ => fun
  | [d1, d2] => { results := [.lit (.bool false)], args := [d1, d2] }
  | _ => none }
def InterestRunsWrongFalsely : Prop := interestRunsRow.holds Tryz.pinned (OpenSpec.ofChange interestRunsWrong)

/-- 'tallagelaw24.InterestKeeps': WHATEVER THE INPUT: true; the input reads as it did. -/
def interestKeepsSpec : ChangeSpec := { name := "interestKeeps", fn := fun _ => fun
  | [d1, d2, d3, d4] => { results := [.lit (.bool true)], args := [d1, d2, d3, d4] }
  | _ => none }
def interestKeepsRow : OpenClaim := { program := "ytohlmpibnnkanaagreat", sum := "458ac8b5785341138cacd2b3a9bf75e77aeac6dd6a05cfa0e73cc71b8cac5613", func := "tallage/tallagelaw24.InterestKeeps", spec := "interestKeeps", unfollowed := true, recurses := true, named := ["math/bits.overflowError"], apart := false }
def InterestKeepsSaid : Prop := interestKeepsRow.holds Tryz.pinned (OpenSpec.ofChange interestKeepsSpec)

/-- ITS FALSE NEIGHBOUR: 'it returns false'. Refute it at one input. -/
def interestKeepsWrong : ChangeSpec := { name := "interestKeeps", fn := fun _ => fun
  | [d1, d2, d3, d4] => { results := [.lit (.bool false)], args := [d1, d2, d3, d4] }
  | _ => none }
def InterestKeepsWrongFalsely : Prop := interestKeepsRow.holds Tryz.pinned (OpenSpec.ofChange interestKeepsWrong)

/-- 'tallagelaw24.InterestKnown': WHATEVER THE INPUT: true; the input reads as it did. -/
def interestKnownSpec : ChangeSpec := { name := "interestKnown", fn := fun _ => fun
  | [] => { results := [.lit (.bool true)], args := [] }
  | _ => none }
def interestKnownRow : OpenClaim := { program := "ytohlmpibnnkanaagreat", sum := "458ac8b5785341138cacd2b3a9bf75e77aeac6dd6a05cfa0e73cc71b8cac5613", func := "tallage/tallagelaw24.InterestKnown", spec := "interestKnown", unfollowed := true, recurses := true, named := ["math/bits.overflowError"], apart := false }
def InterestKnownSaid : Prop := interestKnownRow.holds Tryz.pinned (OpenSpec.ofChange interestKnownSpec)

/-- ITS FALSE NEIGHBOUR: 'it returns false'. Refute it at one input. -/
def interestKnownWrong : ChangeSpec := { name := "interestKnown", fn := fun _ => fun
  | [] => { results := [.lit (.bool false)], args := [] }
  | _ => none }
def InterestKnownWrongFalsely : Prop := interestKnownRow.holds Tryz.pinned (OpenSpec.ofChange interestKnownWrong)

/- THE SECOND FORM. 'bulk': how many values and letters a reading holds, each counted each time it is reached (what is shared counts as often as it is met; a slice's spare places count too). A statement '..UptoSaid' is the law's where the arguments, and the package variables that the reading takes, are together of bulk at most 1048576: NARROWER than '..Said'. Prove '..Said' where nothing that the law and all that it calls make is longer than what came in: it says more and counts as full. Else prove '..UptoSaid'. A law counts once. -/
mutual
def uptoBulk {H : Type} : DataW H → Nat
  | .lit (.string bytes) => bytes.length + 1
  | .lit _ => 1
  | .nil => 1
  | .ptr d => uptoBulk d + 1
  | .slice elems spare => uptoBulkAll elems + uptoBulkAll spare + 1
  | .agg parts => uptoBulkAll parts + 1
  | .iface _ d => uptoBulk d + 1
  | .map entries => uptoBulkEntries entries + 1
  | .held _ => 1
def uptoBulkAll {H : Type} : List (DataW H) → Nat
  | [] => 0
  | d :: r => uptoBulk d + uptoBulkAll r
def uptoBulkEntries {H : Type} : List (Lit × DataW H) → Nat
  | [] => 0
  | x :: r => uptoBulkEntry x + uptoBulkEntries r
def uptoBulkEntry {H : Type} : Lit × DataW H → Nat
  | (.string bytes, d) => bytes.length + uptoBulk d + 1
  | (_, d) => uptoBulk d + 1
 end
def uptoSmall : (H : Type) → List (DataW H) → Bool := fun _ ds => decide (uptoBulkAll ds ≤ 1048576)
def OpenSpec.upto (s : _root_.Go.ChangeSpec) : _root_.Go.OpenSpec := { _root_.Go.OpenSpec.ofChange s with cond := some uptoSmall }

/-- 'tallagelaw18.TimingAll', WHERE WHAT IT READS IS OF BULK AT MOST 1048576: true; the input reads as it did. -/
def timingAllUptoRow : OpenClaim := { program := "ytohlmpibnnkanaagreat", sum := "458ac8b5785341138cacd2b3a9bf75e77aeac6dd6a05cfa0e73cc71b8cac5613", func := "tallage/tallagelaw18.TimingAll", spec := "timingAll", unfollowed := true, recurses := true, named := ["math/bits.overflowError"], apart := false, narrowed := true }
def TimingAllUptoSaid : Prop := timingAllUptoRow.holds Tryz.pinned (OpenSpec.upto timingAllSpec)

/-- 'tallagelaw18.TimingTurns', WHERE WHAT IT READS IS OF BULK AT MOST 1048576: true; the input reads as it did. -/
def timingTurnsUptoRow : OpenClaim := { program := "ytohlmpibnnkanaagreat", sum := "458ac8b5785341138cacd2b3a9bf75e77aeac6dd6a05cfa0e73cc71b8cac5613", func := "tallage/tallagelaw18.TimingTurns", spec := "timingTurns", unfollowed := true, recurses := true, named := ["math/bits.overflowError"], apart := false, narrowed := true }
def TimingTurnsUptoSaid : Prop := timingTurnsUptoRow.holds Tryz.pinned (OpenSpec.upto timingTurnsSpec)

/-- 'tallagelaw18.TimingTells', WHERE WHAT IT READS IS OF BULK AT MOST 1048576: true; the input reads as it did. -/
def timingTellsUptoRow : OpenClaim := { program := "ytohlmpibnnkanaagreat", sum := "458ac8b5785341138cacd2b3a9bf75e77aeac6dd6a05cfa0e73cc71b8cac5613", func := "tallage/tallagelaw18.TimingTells", spec := "timingTells", unfollowed := true, recurses := true, named := ["math/bits.overflowError"], apart := false, narrowed := true }
def TimingTellsUptoSaid : Prop := timingTellsUptoRow.holds Tryz.pinned (OpenSpec.upto timingTellsSpec)

/-- 'tallagelaw18.TimingPuts', WHERE WHAT IT READS IS OF BULK AT MOST 1048576: true; the input reads as it did. -/
def timingPutsUptoRow : OpenClaim := { program := "ytohlmpibnnkanaagreat", sum := "458ac8b5785341138cacd2b3a9bf75e77aeac6dd6a05cfa0e73cc71b8cac5613", func := "tallage/tallagelaw18.TimingPuts", spec := "timingPuts", unfollowed := true, recurses := true, named := ["math/bits.overflowError"], apart := false, narrowed := true }
def TimingPutsUptoSaid : Prop := timingPutsUptoRow.holds Tryz.pinned (OpenSpec.upto timingPutsSpec)

/-- 'tallagelaw18.TimingNone', WHERE WHAT IT READS IS OF BULK AT MOST 1048576: true; the input reads as it did. -/
def timingNoneUptoRow : OpenClaim := { program := "ytohlmpibnnkanaagreat", sum := "458ac8b5785341138cacd2b3a9bf75e77aeac6dd6a05cfa0e73cc71b8cac5613", func := "tallage/tallagelaw18.TimingNone", spec := "timingNone", unfollowed := true, recurses := true, named := ["math/bits.overflowError"], apart := false, narrowed := true }
def TimingNoneUptoSaid : Prop := timingNoneUptoRow.holds Tryz.pinned (OpenSpec.upto timingNoneSpec)

/-- 'tallagelaw24.InterestMore', WHERE WHAT IT READS IS OF BULK AT MOST 1048576: true; the input reads as it did. -/
def interestMoreUptoRow : OpenClaim := { program := "ytohlmpibnnkanaagreat", sum := "458ac8b5785341138cacd2b3a9bf75e77aeac6dd6a05cfa0e73cc71b8cac5613", func := "tallage/tallagelaw24.InterestMore", spec := "interestMore", unfollowed := true, recurses := true, named := ["math/bits.overflowError"], apart := false, narrowed := true }
def InterestMoreUptoSaid : Prop := interestMoreUptoRow.holds Tryz.pinned (OpenSpec.upto interestMoreSpec)

/-- 'tallagelaw18.TimingKnown', WHERE WHAT IT READS IS OF BULK AT MOST 1048576: true; the input reads as it did. -/
def timingKnownUptoRow : OpenClaim := { program := "ytohlmpibnnkanaagreat", sum := "458ac8b5785341138cacd2b3a9bf75e77aeac6dd6a05cfa0e73cc71b8cac5613", func := "tallage/tallagelaw18.TimingKnown", spec := "timingKnown", unfollowed := true, recurses := true, named := ["math/bits.overflowError"], apart := false, narrowed := true }
def TimingKnownUptoSaid : Prop := timingKnownUptoRow.holds Tryz.pinned (OpenSpec.upto timingKnownSpec)

/-- 'tallagelaw24.InterestConserves', WHERE WHAT IT READS IS OF BULK AT MOST 1048576: true; the input reads as it did. -/
def interestConservesUptoRow : OpenClaim := { program := "ytohlmpibnnkanaagreat", sum := "458ac8b5785341138cacd2b3a9bf75e77aeac6dd6a05cfa0e73cc71b8cac5613", func := "tallage/tallagelaw24.InterestConserves", spec := "interestConserves", unfollowed := true, recurses := true, named := ["math/bits.overflowError"], apart := false, narrowed := true }
def InterestConservesUptoSaid : Prop := interestConservesUptoRow.holds Tryz.pinned (OpenSpec.upto interestConservesSpec)

/-- 'tallagelaw24.InterestRuns', WHERE WHAT IT READS IS OF BULK AT MOST 1048576: true; the input reads as it did. -/
def interestRunsUptoRow : OpenClaim := { program := "ytohlmpibnnkanaagreat", sum := "458ac8b5785341138cacd2b3a9bf75e77aeac6dd6a05cfa0e73cc71b8cac5613", func := "tallage/tallagelaw24.InterestRuns", spec := "interestRuns", unfollowed := true, recurses := true, named := ["math/bits.overflowError"], apart := false, narrowed := true }
def InterestRunsUptoSaid : Prop := interestRunsUptoRow.holds Tryz.pinned (OpenSpec.upto interestRunsSpec)

/-- 'tallagelaw24.InterestKeeps', WHERE WHAT IT READS IS OF BULK AT MOST 1048576: true; the input reads as it did. -/
def interestKeepsUptoRow : OpenClaim := { program := "ytohlmpibnnkanaagreat", sum := "458ac8b5785341138cacd2b3a9bf75e77aeac6dd6a05cfa0e73cc71b8cac5613", func := "tallage/tallagelaw24.InterestKeeps", spec := "interestKeeps", unfollowed := true, recurses := true, named := ["math/bits.overflowError"], apart := false, narrowed := true }
def InterestKeepsUptoSaid : Prop := interestKeepsUptoRow.holds Tryz.pinned (OpenSpec.upto interestKeepsSpec)

/-- 'tallagelaw24.InterestKnown', WHERE WHAT IT READS IS OF BULK AT MOST 1048576: true; the input reads as it did. -/
def interestKnownUptoRow : OpenClaim := { program := "ytohlmpibnnkanaagreat", sum := "458ac8b5785341138cacd2b3a9bf75e77aeac6dd6a05cfa0e73cc71b8cac5613", func := "tallage/tallagelaw24.InterestKnown", spec := "interestKnown", unfollowed := true, recurses := true, named := ["math/bits.overflowError"], apart := false, narrowed := true }
def InterestKnownUptoSaid : Prop := interestKnownUptoRow.holds Tryz.pinned (OpenSpec.upto interestKnownSpec)

end Rows
end Go.Proofs.YtohlmpibnnkanaaGreat
