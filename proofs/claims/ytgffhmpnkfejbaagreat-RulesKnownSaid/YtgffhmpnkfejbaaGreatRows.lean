/-
  No cell of these rows narrows 'for every input' (looked for: loops, veiled, ifaces, maps, wideKeys, modest, calm, conditions, laid).
  DERIVED. THE GIVEN ROWS OF THIS SEAT. 5 by the template 'for every input the law returns true; each argument reads behind the call as it read before'; 0 by the template 'total and deterministic' (their statements: YtgffhmpnkfejbaaGreatTotals.lean).
  GIVEN WITH THE SEED: the statements are not yours to turn. If you find one false, say at which input.
  Laid BY PROGRAM, IN A SANDBOX (cutbox-rows.mjs): the forced cells as the released guide's own fill.sh prints them over the translation bb8ed6c76e51912d… (all of the seat's roots in one cut). By AI agents, Wed Nov 11 2026. No macro, syntax, notation, axiom, sorry.
-/
import Derived.Test.YtgffhmpnkfejbaaGreatChecked
import GoSem.Claim
import GoSem.ClaimJoined
import GoSem.ClaimMapViews
import Derived.JoinedTies
import Derived.KernelRfl
namespace Go.Proofs.YtgffhmpnkfejbaaGreat
/- THE CELL 'sum', in the pinned program and in every row, IS THE sha256 OF THE DUMP (.gsa) THAT YtgffhmpnkfejbaaGreatProg.lean LOADS. Nothing in Lean hashes anything: it is a label: what it is worth is what the hold of that sum in a sandbox is worth. -/
noncomputable def Tryz.pinned : Pinned := { name := "ytgffhmpnkfejbaagreat", sum := "bb8ed6c76e51912d5a303f5d2e6515ab3a12c945618c7a056905412f18478bb6", checked := Tryz.checked }
namespace Rows
def none {H : Type} : Left H := { results := [], args := [] }

/-- 'tallagelaw17.RulesCount': WHATEVER THE INPUT: true; the input reads as it did. -/
def rulesCountSpec : ChangeSpec := { name := "rulesCount", fn := fun _ => fun
  | [d] => { results := [.lit (.bool true)], args := [d] }
  | _ => none }
def rulesCountRow : OpenClaim := { program := "ytgffhmpnkfejbaagreat", sum := "bb8ed6c76e51912d5a303f5d2e6515ab3a12c945618c7a056905412f18478bb6", func := "tallage/tallagelaw17.RulesCount", spec := "rulesCount", unfollowed := true, recurses := true, named := ["math/bits.overflowError"], apart := false }
def RulesCountSaid : Prop := rulesCountRow.holds Tryz.pinned (OpenSpec.ofChange rulesCountSpec)

/-- ITS FALSE NEIGHBOUR: 'it returns false'. Refute it at one input. -/
def rulesCountWrong : ChangeSpec := { name := "rulesCount", fn := fun _ => fun
  | [d] => { results := [.lit (.bool false)], args := [d] }
  | _ => none }
def RulesCountWrongFalsely : Prop := rulesCountRow.holds Tryz.pinned (OpenSpec.ofChange rulesCountWrong)

/-- 'tallagelaw17.RulesBounds': WHATEVER THE INPUT: true; the input reads as it did. -/
def rulesBoundsSpec : ChangeSpec := { name := "rulesBounds", fn := fun _ => fun
  | [d1, d2] => { results := [.lit (.bool true)], args := [d1, d2] }
  | _ => none }
def rulesBoundsRow : OpenClaim := { program := "ytgffhmpnkfejbaagreat", sum := "bb8ed6c76e51912d5a303f5d2e6515ab3a12c945618c7a056905412f18478bb6", func := "tallage/tallagelaw17.RulesBounds", spec := "rulesBounds", unfollowed := true, recurses := true, named := ["math/bits.overflowError"], apart := false }
def RulesBoundsSaid : Prop := rulesBoundsRow.holds Tryz.pinned (OpenSpec.ofChange rulesBoundsSpec)

/-- ITS FALSE NEIGHBOUR: 'it returns false'. Refute it at one input. -/
def rulesBoundsWrong : ChangeSpec := { name := "rulesBounds", fn := fun _ => fun
  | [d1, d2] => { results := [.lit (.bool false)], args := [d1, d2] }
  | _ => none }
def RulesBoundsWrongFalsely : Prop := rulesBoundsRow.holds Tryz.pinned (OpenSpec.ofChange rulesBoundsWrong)

/-- 'tallagelaw17.RulesSums': WHATEVER THE INPUT: true; the input reads as it did. -/
def rulesSumsSpec : ChangeSpec := { name := "rulesSums", fn := fun _ => fun
  | [d] => { results := [.lit (.bool true)], args := [d] }
  | _ => none }
def rulesSumsRow : OpenClaim := { program := "ytgffhmpnkfejbaagreat", sum := "bb8ed6c76e51912d5a303f5d2e6515ab3a12c945618c7a056905412f18478bb6", func := "tallage/tallagelaw17.RulesSums", spec := "rulesSums", unfollowed := true, recurses := true, named := ["math/bits.overflowError"], apart := false }
def RulesSumsSaid : Prop := rulesSumsRow.holds Tryz.pinned (OpenSpec.ofChange rulesSumsSpec)

/-- ITS FALSE NEIGHBOUR: 'it returns false'. Refute it at one input. -/
def rulesSumsWrong : ChangeSpec := { name := "rulesSums", fn := fun _ => fun
  | [d] => { results := [.lit (.bool false)], args := [d] }
  | _ => none }
def RulesSumsWrongFalsely : Prop := rulesSumsRow.holds Tryz.pinned (OpenSpec.ofChange rulesSumsWrong)

/-- 'tallagelaw17.RulesParts': WHATEVER THE INPUT: true; the input reads as it did. -/
def rulesPartsSpec : ChangeSpec := { name := "rulesParts", fn := fun _ => fun
  | [d1, d2] => { results := [.lit (.bool true)], args := [d1, d2] }
  | _ => none }
def rulesPartsRow : OpenClaim := { program := "ytgffhmpnkfejbaagreat", sum := "bb8ed6c76e51912d5a303f5d2e6515ab3a12c945618c7a056905412f18478bb6", func := "tallage/tallagelaw17.RulesParts", spec := "rulesParts", unfollowed := true, recurses := true, named := ["math/bits.overflowError"], apart := false }
def RulesPartsSaid : Prop := rulesPartsRow.holds Tryz.pinned (OpenSpec.ofChange rulesPartsSpec)

/-- ITS FALSE NEIGHBOUR: 'it returns false'. Refute it at one input. -/
def rulesPartsWrong : ChangeSpec := { name := "rulesParts", fn := fun _ => fun
  | [d1, d2] => { results := [.lit (.bool false)], args := [d1, d2] }
  | _ => none }
def RulesPartsWrongFalsely : Prop := rulesPartsRow.holds Tryz.pinned (OpenSpec.ofChange rulesPartsWrong)

/-- 'tallagelaw17.RulesKnown': WHATEVER THE INPUT: true; the input reads as it did. -/
def rulesKnownSpec : ChangeSpec := { name := "rulesKnown", fn := fun _ => fun
  | [] => { results := [.lit (.bool true)], args := [] }
  | _ => none }
def rulesKnownRow : OpenClaim := { program := "ytgffhmpnkfejbaagreat", sum := "bb8ed6c76e51912d5a303f5d2e6515ab3a12c945618c7a056905412f18478bb6", func := "tallage/tallagelaw17.RulesKnown", spec := "rulesKnown", unfollowed := true, recurses := true, named := ["math/bits.overflowError"], apart := false }
def RulesKnownSaid : Prop := rulesKnownRow.holds Tryz.pinned (OpenSpec.ofChange rulesKnownSpec)

/-- ITS FALSE NEIGHBOUR: 'it returns false'. Refute it at one input. -/
def rulesKnownWrong : ChangeSpec := { name := "rulesKnown", fn := fun _ => fun
  | [] => { results := [.lit (.bool false)], args := [] }
  | _ => none }
def RulesKnownWrongFalsely : Prop := rulesKnownRow.holds Tryz.pinned (OpenSpec.ofChange rulesKnownWrong)

/- THE SECOND FORM. 'bulk': how many values and letters a reading holds, each counted each time it is reached (what is shared counts as often as it is met; a slice's spare places count too). A statement '..UptoSaid' is the law's where the arguments, and the package variables that the reading takes, are together of bulk at most 1048576: NARROWER than '..Said'. Prove '..Said' where nothing that the law and all that it calls make is longer than what came in: it says more and counts as full. Else prove '..UptoSaid'. A law counts once. -/
mutual
def uptoBulk {H : Type} : DataW H → Nat
  | .lit (.string bytes) => bytes.length + 1
  | .lit _ => 1
  | .nil => 1
  | .ptr d => uptoBulk d + 1
  | .slice elems spare => uptoBulkAll elems + uptoBulkAll spare + 1
  | .agg parts => uptoBulkAll parts + 1
  | .iface _ d => uptoBulk d + 1
  | .map entries => uptoBulkEntries entries + 1
  | .held _ => 1
def uptoBulkAll {H : Type} : List (DataW H) → Nat
  | [] => 0
  | d :: r => uptoBulk d + uptoBulkAll r
def uptoBulkEntries {H : Type} : List (Lit × DataW H) → Nat
  | [] => 0
  | x :: r => uptoBulkEntry x + uptoBulkEntries r
def uptoBulkEntry {H : Type} : Lit × DataW H → Nat
  | (.string bytes, d) => bytes.length + uptoBulk d + 1
  | (_, d) => uptoBulk d + 1
 end
def uptoSmall : (H : Type) → List (DataW H) → Bool := fun _ ds => decide (uptoBulkAll ds ≤ 1048576)
def OpenSpec.upto (s : _root_.Go.ChangeSpec) : _root_.Go.OpenSpec := { _root_.Go.OpenSpec.ofChange s with cond := some uptoSmall }

/-- 'tallagelaw17.RulesCount', WHERE WHAT IT READS IS OF BULK AT MOST 1048576: true; the input reads as it did. -/
def rulesCountUptoRow : OpenClaim := { program := "ytgffhmpnkfejbaagreat", sum := "bb8ed6c76e51912d5a303f5d2e6515ab3a12c945618c7a056905412f18478bb6", func := "tallage/tallagelaw17.RulesCount", spec := "rulesCount", unfollowed := true, recurses := true, named := ["math/bits.overflowError"], apart := false, narrowed := true }
def RulesCountUptoSaid : Prop := rulesCountUptoRow.holds Tryz.pinned (OpenSpec.upto rulesCountSpec)

/-- 'tallagelaw17.RulesBounds', WHERE WHAT IT READS IS OF BULK AT MOST 1048576: true; the input reads as it did. -/
def rulesBoundsUptoRow : OpenClaim := { program := "ytgffhmpnkfejbaagreat", sum := "bb8ed6c76e51912d5a303f5d2e6515ab3a12c945618c7a056905412f18478bb6", func := "tallage/tallagelaw17.RulesBounds", spec := "rulesBounds", unfollowed := true, recurses := true, named := ["math/bits.overflowError"], apart := false, narrowed := true }
def RulesBoundsUptoSaid : Prop := rulesBoundsUptoRow.holds Tryz.pinned (OpenSpec.upto rulesBoundsSpec)

/-- 'tallagelaw17.RulesSums', WHERE WHAT IT READS IS OF BULK AT MOST 1048576: true; the input reads as it did. -/
def rulesSumsUptoRow : OpenClaim := { program := "ytgffhmpnkfejbaagreat", sum := "bb8ed6c76e51912d5a303f5d2e6515ab3a12c945618c7a056905412f18478bb6", func := "tallage/tallagelaw17.RulesSums", spec := "rulesSums", unfollowed := true, recurses := true, named := ["math/bits.overflowError"], apart := false, narrowed := true }
def RulesSumsUptoSaid : Prop := rulesSumsUptoRow.holds Tryz.pinned (OpenSpec.upto rulesSumsSpec)

/-- 'tallagelaw17.RulesParts', WHERE WHAT IT READS IS OF BULK AT MOST 1048576: true; the input reads as it did. -/
def rulesPartsUptoRow : OpenClaim := { program := "ytgffhmpnkfejbaagreat", sum := "bb8ed6c76e51912d5a303f5d2e6515ab3a12c945618c7a056905412f18478bb6", func := "tallage/tallagelaw17.RulesParts", spec := "rulesParts", unfollowed := true, recurses := true, named := ["math/bits.overflowError"], apart := false, narrowed := true }
def RulesPartsUptoSaid : Prop := rulesPartsUptoRow.holds Tryz.pinned (OpenSpec.upto rulesPartsSpec)

/-- 'tallagelaw17.RulesKnown', WHERE WHAT IT READS IS OF BULK AT MOST 1048576: true; the input reads as it did. -/
def rulesKnownUptoRow : OpenClaim := { program := "ytgffhmpnkfejbaagreat", sum := "bb8ed6c76e51912d5a303f5d2e6515ab3a12c945618c7a056905412f18478bb6", func := "tallage/tallagelaw17.RulesKnown", spec := "rulesKnown", unfollowed := true, recurses := true, named := ["math/bits.overflowError"], apart := false, narrowed := true }
def RulesKnownUptoSaid : Prop := rulesKnownUptoRow.holds Tryz.pinned (OpenSpec.upto rulesKnownSpec)

end Rows
end Go.Proofs.YtgffhmpnkfejbaaGreat
