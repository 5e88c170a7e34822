/-
  No cell of these rows narrows 'for every input' (looked for: loops, veiled, ifaces, maps, wideKeys, modest, calm, conditions, laid).
  DERIVED. THE GIVEN ROWS OF THIS SEAT. 5 by the template 'for every input the law returns true; each argument reads behind the call as it read before'; 0 by the template 'total and deterministic' (their statements: YtabalinjfgcfeaaGreatTotals.lean).
  GIVEN WITH THE SEED: the statements are not yours to turn. If you find one false, say at which input.
  Laid BY PROGRAM, IN A SANDBOX (cutbox-rows.mjs): the forced cells as the released guide's own fill.sh prints them over the translation dd4f16ffa8a66c3b… (all of the seat's roots in one cut). By AI agents, Wed Nov 11 2026. No macro, syntax, notation, axiom, sorry.
-/
import Derived.Test.YtabalinjfgcfeaaGreatChecked
import GoSem.Claim
import GoSem.ClaimJoined
import GoSem.ClaimMapViews
import Derived.JoinedTies
import Derived.KernelRfl
namespace Go.Proofs.YtabalinjfgcfeaaGreat
/- THE CELL 'sum', in the pinned program and in every row, IS THE sha256 OF THE DUMP (.gsa) THAT YtabalinjfgcfeaaGreatProg.lean LOADS. Nothing in Lean hashes anything: it is a label: what it is worth is what the hold of that sum in a sandbox is worth. -/
noncomputable def Tryz.pinned : Pinned := { name := "ytabalinjfgcfeaagreat", sum := "dd4f16ffa8a66c3bb12b7665f33e49823913473bf9817e7a6ee83bf8487fc825", checked := Tryz.checked }
namespace Rows
def none {H : Type} : Left H := { results := [], args := [] }

/-- 'tallagelaw24.InterestMore': WHATEVER THE INPUT: true; the input reads as it did. -/
def interestMoreSpec : ChangeSpec := { name := "interestMore", fn := fun _ => fun
  | [d1, d2, d3] => { results := [.lit (.bool true)], args := [d1, d2, d3] }
  | _ => none }
def interestMoreRow : OpenClaim := { program := "ytabalinjfgcfeaagreat", sum := "dd4f16ffa8a66c3bb12b7665f33e49823913473bf9817e7a6ee83bf8487fc825", func := "tallage/tallagelaw24.InterestMore", spec := "interestMore", unfollowed := true, recurses := true, named := ["math/bits.overflowError"], apart := false }
def InterestMoreSaid : Prop := interestMoreRow.holds Tryz.pinned (OpenSpec.ofChange interestMoreSpec)

/-- ITS FALSE NEIGHBOUR: 'it returns false'. Refute it at one input. -/
def interestMoreWrong : ChangeSpec := { name := "interestMore", fn := fun _ => fun
  | [d1, d2, d3] => { results := [.lit (.bool false)], args := [d1, d2, d3] }
  | _ => none }
def InterestMoreWrongFalsely : Prop := interestMoreRow.holds Tryz.pinned (OpenSpec.ofChange interestMoreWrong)

/-- 'tallagelaw24.InterestConserves': WHATEVER THE INPUT: true; the input reads as it did. -/
def interestConservesSpec : ChangeSpec := { name := "interestConserves", fn := fun _ => fun
  | [d1, d2] => { results := [.lit (.bool true)], args := [d1, d2] }
  | _ => none }
def interestConservesRow : OpenClaim := { program := "ytabalinjfgcfeaagreat", sum := "dd4f16ffa8a66c3bb12b7665f33e49823913473bf9817e7a6ee83bf8487fc825", func := "tallage/tallagelaw24.InterestConserves", spec := "interestConserves", unfollowed := true, recurses := true, named := ["math/bits.overflowError"], apart := false }
def InterestConservesSaid : Prop := interestConservesRow.holds Tryz.pinned (OpenSpec.ofChange interestConservesSpec)

/-- ITS FALSE NEIGHBOUR: 'it returns false'. Refute it at one input. -/
def interestConservesWrong : ChangeSpec := { name := "interestConserves", fn := fun _ => fun
  | [d1, d2] => { results := [.lit (.bool false)], args := [d1, d2] }
  | _ => none }
def InterestConservesWrongFalsely : Prop := interestConservesRow.holds Tryz.pinned (OpenSpec.ofChange interestConservesWrong)

/-- 'tallagelaw24.InterestRuns': WHATEVER THE INPUT: true; the input reads as it did. -/
def interestRunsSpec : ChangeSpec := { name := "interestRuns", fn := fun _ => fun
  | [d1, d2] => { results := [.lit (.bool true)], args := [d1, d2] }
  | _ => none }
def interestRunsRow : OpenClaim := { program := "ytabalinjfgcfeaagreat", sum := "dd4f16ffa8a66c3bb12b7665f33e49823913473bf9817e7a6ee83bf8487fc825", func := "tallage/tallagelaw24.InterestRuns", spec := "interestRuns", unfollowed := true, recurses := true, named := ["math/bits.overflowError"], apart := false }
def InterestRunsSaid : Prop := interestRunsRow.holds Tryz.pinned (OpenSpec.ofChange interestRunsSpec)

/-- ITS FALSE NEIGHBOUR: 'it returns false'. Refute it at one input. -/
def interestRunsWrong : ChangeSpec := { name := "interestRuns", fn := fun _ => fun
  | [d1, d2] => { results := [.lit (.bool false)], args := [d1, d2] }
  | _ => none }
def InterestRunsWrongFalsely : Prop := interestRunsRow.holds Tryz.pinned (OpenSpec.ofChange interestRunsWrong)

/-- 'tallagelaw24.InterestKeeps': WHATEVER THE INPUT: true; the input reads as it did. -/
def interestKeepsSpec : ChangeSpec := { name := "interestKeeps", fn := fun _ => fun
  | [d1, d2, d3, d4] => { results := [.lit (.bool true)], args := [d1, d2, d3, d4] }
  | _ => none }
def interestKeepsRow : OpenClaim := { program := "ytabalinjfgcfeaagreat", sum := "dd4f16ffa8a66c3bb12b7665f33e49823913473bf9817e7a6ee83bf8487fc825", func := "tallage/tallagelaw24.InterestKeeps", spec := "interestKeeps", unfollowed := true, recurses := true, named := ["math/bits.overflowError"], apart := false }
def InterestKeepsSaid : Prop := interestKeepsRow.holds Tryz.pinned (OpenSpec.ofChange interestKeepsSpec)

/-- ITS FALSE NEIGHBOUR: 'it returns false'. Refute it at one input. -/
def interestKeepsWrong : ChangeSpec := { name := "interestKeeps", fn := fun _ => fun
  | [d1, d2, d3, d4] => { results := [.lit (.bool false)], args := [d1, d2, d3, d4] }
  | _ => none }
def InterestKeepsWrongFalsely : Prop := interestKeepsRow.holds Tryz.pinned (OpenSpec.ofChange interestKeepsWrong)

/-- 'tallagelaw24.InterestKnown': WHATEVER THE INPUT: true; the input reads as it did. -/
def interestKnownSpec : ChangeSpec := { name := "interestKnown", fn := fun _ => fun
  | [] => { results := [.lit (.bool true)], args := [] }
  | _ => none }
def interestKnownRow : OpenClaim := { program := "ytabalinjfgcfeaagreat", sum := "dd4f16ffa8a66c3bb12b7665f33e49823913473bf9817e7a6ee83bf8487fc825", func := "tallage/tallagelaw24.InterestKnown", spec := "interestKnown", unfollowed := true, recurses := true, named := ["math/bits.overflowError"], apart := false }
def InterestKnownSaid : Prop := interestKnownRow.holds Tryz.pinned (OpenSpec.ofChange interestKnownSpec)

/-- ITS FALSE NEIGHBOUR: 'it returns false'. Refute it at one input. -/
def interestKnownWrong : ChangeSpec := { name := "interestKnown", fn := fun _ => fun
  | [] => { results := [.lit (.bool false)], args := [] }
  | _ => none }
def InterestKnownWrongFalsely : Prop := interestKnownRow.holds Tryz.pinned (OpenSpec.ofChange interestKnownWrong)

/- THE SECOND FORM. 'bulk': how many values and letters a reading holds, each counted each time it is reached (what is shared counts as often as it is met; a slice's spare places count too). A statement '..UptoSaid' is the law's where the arguments, and the package variables that the reading takes, are together of bulk at most 1048576: NARROWER than '..Said'. Prove '..Said' where nothing that the law and all that it calls make is longer than what came in: it says more and counts as full. Else prove '..UptoSaid'. A law counts once. -/
mutual
def uptoBulk {H : Type} : DataW H → Nat
  | .lit (.string bytes) => bytes.length + 1
  | .lit _ => 1
  | .nil => 1
  | .ptr d => uptoBulk d + 1
  | .slice elems spare => uptoBulkAll elems + uptoBulkAll spare + 1
  | .agg parts => uptoBulkAll parts + 1
  | .iface _ d => uptoBulk d + 1
  | .map entries => uptoBulkEntries entries + 1
  | .held _ => 1
def uptoBulkAll {H : Type} : List (DataW H) → Nat
  | [] => 0
  | d :: r => uptoBulk d + uptoBulkAll r
def uptoBulkEntries {H : Type} : List (Lit × DataW H) → Nat
  | [] => 0
  | x :: r => uptoBulkEntry x + uptoBulkEntries r
def uptoBulkEntry {H : Type} : Lit × DataW H → Nat
  | (.string bytes, d) => bytes.length + uptoBulk d + 1
  | (_, d) => uptoBulk d + 1
 end
def uptoSmall : (H : Type) → List (DataW H) → Bool := fun _ ds => decide (uptoBulkAll ds ≤ 1048576)
def OpenSpec.upto (s : _root_.Go.ChangeSpec) : _root_.Go.OpenSpec := { _root_.Go.OpenSpec.ofChange s with cond := some uptoSmall }

/-- 'tallagelaw24.InterestMore', WHERE WHAT IT READS IS OF BULK AT MOST 1048576: true; the input reads as it did. -/
def interestMoreUptoRow : OpenClaim := { program := "ytabalinjfgcfeaagreat", sum := "dd4f16ffa8a66c3bb12b7665f33e49823913473bf9817e7a6ee83bf8487fc825", func := "tallage/tallagelaw24.InterestMore", spec := "interestMore", unfollowed := true, recurses := true, named := ["math/bits.overflowError"], apart := false, narrowed := true }
def InterestMoreUptoSaid : Prop := interestMoreUptoRow.holds Tryz.pinned (OpenSpec.upto interestMoreSpec)

/-- 'tallagelaw24.InterestConserves', WHERE WHAT IT READS IS OF BULK AT MOST 1048576: true; the input reads as it did. -/
def interestConservesUptoRow : OpenClaim := { program := "ytabalinjfgcfeaagreat", sum := "dd4f16ffa8a66c3bb12b7665f33e49823913473bf9817e7a6ee83bf8487fc825", func := "tallage/tallagelaw24.InterestConserves", spec := "interestConserves", unfollowed := true, recurses := true, named := ["math/bits.overflowError"], apart := false, narrowed := true }
def InterestConservesUptoSaid : Prop := interestConservesUptoRow.holds Tryz.pinned (OpenSpec.upto interestConservesSpec)

/-- 'tallagelaw24.InterestRuns', WHERE WHAT IT READS IS OF BULK AT MOST 1048576: true; the input reads as it did. -/
def interestRunsUptoRow : OpenClaim := { program := "ytabalinjfgcfeaagreat", sum := "dd4f16ffa8a66c3bb12b7665f33e49823913473bf9817e7a6ee83bf8487fc825", func := "tallage/tallagelaw24.InterestRuns", spec := "interestRuns", unfollowed := true, recurses := true, named := ["math/bits.overflowError"], apart := false, narrowed := true }
def InterestRunsUptoSaid : Prop := interestRunsUptoRow.holds Tryz.pinned (OpenSpec.upto interestRunsSpec)

/-- 'tallagelaw24.InterestKeeps', WHERE WHAT IT READS IS OF BULK AT MOST 1048576: true; the input reads as it did. -/
def interestKeepsUptoRow : OpenClaim := { program := "ytabalinjfgcfeaagreat", sum := "dd4f16ffa8a66c3bb12b7665f33e49823913473bf9817e7a6ee83bf8487fc825", func := "tallage/tallagelaw24.InterestKeeps", spec := "interestKeeps", unfollowed := true, recurses := true, named := ["math/bits.overflowError"], apart := false, narrowed := true }
def InterestKeepsUptoSaid : Prop := interestKeepsUptoRow.holds Tryz.pinned (OpenSpec.upto interestKeepsSpec)

/-- 'tallagelaw24.InterestKnown', WHERE WHAT IT READS IS OF BULK AT MOST 1048576: true; the input reads as it did. -/
def interestKnownUptoRow : OpenClaim := { program := "ytabalinjfgcfeaagreat", sum := "dd4f16ffa8a66c3bb12b7665f33e49823913473bf9817e7a6ee83bf8487fc825", func := "tallage/tallagelaw24.InterestKnown", spec := "interestKnown", unfollowed := true, recurses := true, named := ["math/bits.overflowError"], apart := false, narrowed := true }
def InterestKnownUptoSaid : Prop := interestKnownUptoRow.holds Tryz.pinned (OpenSpec.upto interestKnownSpec)

end Rows
end Go.Proofs.YtabalinjfgcfeaaGreat
