/-
  No cell of these rows narrows 'for every input' (looked for: loops, veiled, ifaces, maps, wideKeys, modest, calm, conditions, laid).
  DERIVED. THE GIVEN ROWS OF THIS SEAT. 6 by the template 'for every input the law returns true; each argument reads behind the call as it read before'; 0 by the template 'total and deterministic' (their statements: YtlifeokjcgngjaaGreatTotals.lean).
  GIVEN WITH THE SEED: the statements are not yours to turn. If you find one false, say at which input.
  Laid BY PROGRAM, IN A SANDBOX (cutbox-rows.mjs): the forced cells as the released guide's own fill.sh prints them over the translation dadfb920ef21bc70… (all of the seat's roots in one cut). By AI agents, Wed Nov 11 2026. No macro, syntax, notation, axiom, sorry.
-/
import Derived.Test.YtlifeokjcgngjaaGreatChecked
import GoSem.Claim
import GoSem.ClaimJoined
import GoSem.ClaimMapViews
import Derived.JoinedTies
import Derived.KernelRfl
namespace Go.Proofs.YtlifeokjcgngjaaGreat
/- THE CELL 'sum', in the pinned program and in every row, IS THE sha256 OF THE DUMP (.gsa) THAT YtlifeokjcgngjaaGreatProg.lean LOADS. Nothing in Lean hashes anything: it is a label: what it is worth is what the hold of that sum in a sandbox is worth. -/
noncomputable def Tryz.pinned : Pinned := { name := "ytlifeokjcgngjaagreat", sum := "dadfb920ef21bc7072711fa11e1a07028ec25f09c6a1e8ca450b3b1429f61934", checked := Tryz.checked }
namespace Rows
def none {H : Type} : Left H := { results := [], args := [] }

/-- 'tallagelaw16.ChartTotals': WHATEVER THE INPUT: true; the input reads as it did. -/
def chartTotalsSpec : ChangeSpec := { name := "chartTotals", fn := fun _ => fun
  | [d1, d2, d3] => { results := [.lit (.bool true)], args := [d1, d2, d3] }
  | _ => none }
def chartTotalsRow : OpenClaim := { program := "ytlifeokjcgngjaagreat", sum := "dadfb920ef21bc7072711fa11e1a07028ec25f09c6a1e8ca450b3b1429f61934", func := "tallage/tallagelaw16.ChartTotals", spec := "chartTotals", unfollowed := true, recurses := true, named := ["math/bits.overflowError"], apart := false }
def ChartTotalsSaid : Prop := chartTotalsRow.holds Tryz.pinned (OpenSpec.ofChange chartTotalsSpec)

/-- ITS FALSE NEIGHBOUR: 'it returns false'. Refute it at one input. -/
def chartTotalsWrong : ChangeSpec := { name := "chartTotals", fn := fun _ => fun
  | [d1, d2, d3] => { results := [.lit (.bool false)], args := [d1, d2, d3] }
  | _ => none }
def ChartTotalsWrongFalsely : Prop := chartTotalsRow.holds Tryz.pinned (OpenSpec.ofChange chartTotalsWrong)

/-- 'tallagelaw16.ChartItems': WHATEVER THE INPUT: true; the input reads as it did. -/
def chartItemsSpec : ChangeSpec := { name := "chartItems", fn := fun _ => fun
  | [d1, d2, d3] => { results := [.lit (.bool true)], args := [d1, d2, d3] }
  | _ => none }
def chartItemsRow : OpenClaim := { program := "ytlifeokjcgngjaagreat", sum := "dadfb920ef21bc7072711fa11e1a07028ec25f09c6a1e8ca450b3b1429f61934", func := "tallage/tallagelaw16.ChartItems", spec := "chartItems", unfollowed := true, recurses := true, named := ["math/bits.overflowError"], apart := false }
def ChartItemsSaid : Prop := chartItemsRow.holds Tryz.pinned (OpenSpec.ofChange chartItemsSpec)

/-- ITS FALSE NEIGHBOUR: 'it returns false'. Refute it at one input. -/
def chartItemsWrong : ChangeSpec := { name := "chartItems", fn := fun _ => fun
  | [d1, d2, d3] => { results := [.lit (.bool false)], args := [d1, d2, d3] }
  | _ => none }
def ChartItemsWrongFalsely : Prop := chartItemsRow.holds Tryz.pinned (OpenSpec.ofChange chartItemsWrong)

/-- 'tallagelaw16.ChartTables': WHATEVER THE INPUT: true; the input reads as it did. -/
def chartTablesSpec : ChangeSpec := { name := "chartTables", fn := fun _ => fun
  | [d1, d2, d3, d4] => { results := [.lit (.bool true)], args := [d1, d2, d3, d4] }
  | _ => none }
def chartTablesRow : OpenClaim := { program := "ytlifeokjcgngjaagreat", sum := "dadfb920ef21bc7072711fa11e1a07028ec25f09c6a1e8ca450b3b1429f61934", func := "tallage/tallagelaw16.ChartTables", spec := "chartTables", unfollowed := true, recurses := true, named := ["math/bits.overflowError"], apart := false }
def ChartTablesSaid : Prop := chartTablesRow.holds Tryz.pinned (OpenSpec.ofChange chartTablesSpec)

/-- ITS FALSE NEIGHBOUR: 'it returns false'. Refute it at one input. -/
def chartTablesWrong : ChangeSpec := { name := "chartTables", fn := fun _ => fun
  | [d1, d2, d3, d4] => { results := [.lit (.bool false)], args := [d1, d2, d3, d4] }
  | _ => none }
def ChartTablesWrongFalsely : Prop := chartTablesRow.holds Tryz.pinned (OpenSpec.ofChange chartTablesWrong)

/-- 'tallagelaw16.ChartBooks': WHATEVER THE INPUT: true; the input reads as it did. -/
def chartBooksSpec : ChangeSpec := { name := "chartBooks", fn := fun _ => fun
  | [d1, d2, d3, d4] => { results := [.lit (.bool true)], args := [d1, d2, d3, d4] }
  | _ => none }
def chartBooksRow : OpenClaim := { program := "ytlifeokjcgngjaagreat", sum := "dadfb920ef21bc7072711fa11e1a07028ec25f09c6a1e8ca450b3b1429f61934", func := "tallage/tallagelaw16.ChartBooks", spec := "chartBooks", unfollowed := true, recurses := true, named := ["math/bits.overflowError"], apart := false }
def ChartBooksSaid : Prop := chartBooksRow.holds Tryz.pinned (OpenSpec.ofChange chartBooksSpec)

/-- ITS FALSE NEIGHBOUR: 'it returns false'. Refute it at one input. -/
def chartBooksWrong : ChangeSpec := { name := "chartBooks", fn := fun _ => fun
  | [d1, d2, d3, d4] => { results := [.lit (.bool false)], args := [d1, d2, d3, d4] }
  | _ => none }
def ChartBooksWrongFalsely : Prop := chartBooksRow.holds Tryz.pinned (OpenSpec.ofChange chartBooksWrong)

/-- 'tallagelaw16.ChartKnown': WHATEVER THE INPUT: true; the input reads as it did. -/
def chartKnownSpec : ChangeSpec := { name := "chartKnown", fn := fun _ => fun
  | [] => { results := [.lit (.bool true)], args := [] }
  | _ => none }
def chartKnownRow : OpenClaim := { program := "ytlifeokjcgngjaagreat", sum := "dadfb920ef21bc7072711fa11e1a07028ec25f09c6a1e8ca450b3b1429f61934", func := "tallage/tallagelaw16.ChartKnown", spec := "chartKnown", unfollowed := true, recurses := true, named := ["math/bits.overflowError"], apart := false }
def ChartKnownSaid : Prop := chartKnownRow.holds Tryz.pinned (OpenSpec.ofChange chartKnownSpec)

/-- ITS FALSE NEIGHBOUR: 'it returns false'. Refute it at one input. -/
def chartKnownWrong : ChangeSpec := { name := "chartKnown", fn := fun _ => fun
  | [] => { results := [.lit (.bool false)], args := [] }
  | _ => none }
def ChartKnownWrongFalsely : Prop := chartKnownRow.holds Tryz.pinned (OpenSpec.ofChange chartKnownWrong)

/-- 'tallagelaw19.AdjustKnown': WHATEVER THE INPUT: true; the input reads as it did. -/
def adjustKnownSpec : ChangeSpec := { name := "adjustKnown", fn := fun _ => fun
  | [] => { results := [.lit (.bool true)], args := [] }
  | _ => none }
def adjustKnownRow : OpenClaim := { program := "ytlifeokjcgngjaagreat", sum := "dadfb920ef21bc7072711fa11e1a07028ec25f09c6a1e8ca450b3b1429f61934", func := "tallage/tallagelaw19.AdjustKnown", spec := "adjustKnown", unfollowed := true, recurses := true, named := ["math/bits.overflowError"], apart := false }
def AdjustKnownSaid : Prop := adjustKnownRow.holds Tryz.pinned (OpenSpec.ofChange adjustKnownSpec)

/-- ITS FALSE NEIGHBOUR: 'it returns false'. Refute it at one input. -/
def adjustKnownWrong : ChangeSpec := { name := "adjustKnown", fn := fun _ => fun
  | [] => { results := [.lit (.bool false)], args := [] }
  | _ => none }
def AdjustKnownWrongFalsely : Prop := adjustKnownRow.holds Tryz.pinned (OpenSpec.ofChange adjustKnownWrong)

/- THE SECOND FORM. 'bulk': how many values and letters a reading holds, each counted each time it is reached (what is shared counts as often as it is met; a slice's spare places count too). A statement '..UptoSaid' is the law's where the arguments, and the package variables that the reading takes, are together of bulk at most 1048576: NARROWER than '..Said'. Prove '..Said' where nothing that the law and all that it calls make is longer than what came in: it says more and counts as full. Else prove '..UptoSaid'. A law counts once. -/
mutual
def uptoBulk {H : Type} : DataW H → Nat
  | .lit (.string bytes) => bytes.length + 1
  | .lit _ => 1
  | .nil => 1
  | .ptr d => uptoBulk d + 1
  | .slice elems spare => uptoBulkAll elems + uptoBulkAll spare + 1
  | .agg parts => uptoBulkAll parts + 1
  | .iface _ d => uptoBulk d + 1
  | .map entries => uptoBulkEntries entries + 1
  | .held _ => 1
def uptoBulkAll {H : Type} : List (DataW H) → Nat
  | [] => 0
  | d :: r => uptoBulk d + uptoBulkAll r
def uptoBulkEntries {H : Type} : List (Lit × DataW H) → Nat
  | [] => 0
  | x :: r => uptoBulkEntry x + uptoBulkEntries r
def uptoBulkEntry {H : Type} : Lit × DataW H → Nat
  | (.string bytes, d) => bytes.length + uptoBulk d + 1
  | (_, d) => uptoBulk d + 1
 end
def uptoSmall : (H : Type) → List (DataW H) → Bool := fun _ ds => decide (uptoBulkAll ds ≤ 1048576)
def OpenSpec.upto (s : _root_.Go.ChangeSpec) : _root_.Go.OpenSpec := { _root_.Go.OpenSpec.ofChange s with cond := some uptoSmall }

/-- 'tallagelaw16.ChartTotals', WHERE WHAT IT READS IS OF BULK AT MOST 1048576: true; the input reads as it did. -/
def chartTotalsUptoRow : OpenClaim := { program := "ytlifeokjcgngjaagreat", sum := "dadfb920ef21bc7072711fa11e1a07028ec25f09c6a1e8ca450b3b1429f61934", func := "tallage/tallagelaw16.ChartTotals", spec := "chartTotals", unfollowed := true, recurses := true, named := ["math/bits.overflowError"], apart := false, narrowed := true }
def ChartTotalsUptoSaid : Prop := chartTotalsUptoRow.holds Tryz.pinned (OpenSpec.upto chartTotalsSpec)

/-- 'tallagelaw16.ChartItems', WHERE WHAT IT READS IS OF BULK AT MOST 1048576: true; the input reads as it did. -/
def chartItemsUptoRow : OpenClaim := { program := "ytlifeokjcgngjaagreat", sum := "dadfb920ef21bc7072711fa11e1a07028ec25f09c6a1e8ca450b3b1429f61934", func := "tallage/tallagelaw16.ChartItems", spec := "chartItems", unfollowed := true, recurses := true, named := ["math/bits.overflowError"], apart := false, narrowed := true }
def ChartItemsUptoSaid : Prop := chartItemsUptoRow.holds Tryz.pinned (OpenSpec.upto chartItemsSpec)

/-- 'tallagelaw16.ChartTables', WHERE WHAT IT READS IS OF BULK AT MOST 1048576: true; the input reads as it did. -/
def chartTablesUptoRow : OpenClaim := { program := "ytlifeokjcgngjaagreat", sum := "dadfb920ef21bc7072711fa11e1a07028ec25f09c6a1e8ca450b3b1429f61934", func := "tallage/tallagelaw16.ChartTables", spec := "chartTables", unfollowed := true, recurses := true, named := ["math/bits.overflowError"], apart := false, narrowed := true }
def ChartTablesUptoSaid : Prop := chartTablesUptoRow.holds Tryz.pinned (OpenSpec.upto chartTablesSpec)

/-- 'tallagelaw16.ChartBooks', WHERE WHAT IT READS IS OF BULK AT MOST 1048576: true; the input reads as it did. -/
def chartBooksUptoRow : OpenClaim := { program := "ytlifeokjcgngjaagreat", sum := "dadfb920ef21bc7072711fa11e1a07028ec25f09c6a1e8ca450b3b1429f61934", func := "tallage/tallagelaw16.ChartBooks", spec := "chartBooks", unfollowed := true, recurses := true, named := ["math/bits.overflowError"], apart := false, narrowed := true }
def ChartBooksUptoSaid : Prop := chartBooksUptoRow.holds Tryz.pinned (OpenSpec.upto chartBooksSpec)

/-- 'tallagelaw16.ChartKnown', WHERE WHAT IT READS IS OF BULK AT MOST 1048576: true; the input reads as it did. -/
def chartKnownUptoRow : OpenClaim := { program := "ytlifeokjcgngjaagreat", sum := "dadfb920ef21bc7072711fa11e1a07028ec25f09c6a1e8ca450b3b1429f61934", func := "tallage/tallagelaw16.ChartKnown", spec := "chartKnown", unfollowed := true, recurses := true, named := ["math/bits.overflowError"], apart := false, narrowed := true }
def ChartKnownUptoSaid : Prop := chartKnownUptoRow.holds Tryz.pinned (OpenSpec.upto chartKnownSpec)

/-- 'tallagelaw19.AdjustKnown', WHERE WHAT IT READS IS OF BULK AT MOST 1048576: true; the input reads as it did. -/
def adjustKnownUptoRow : OpenClaim := { program := "ytlifeokjcgngjaagreat", sum := "dadfb920ef21bc7072711fa11e1a07028ec25f09c6a1e8ca450b3b1429f61934", func := "tallage/tallagelaw19.AdjustKnown", spec := "adjustKnown", unfollowed := true, recurses := true, named := ["math/bits.overflowError"], apart := false, narrowed := true }
def AdjustKnownUptoSaid : Prop := adjustKnownUptoRow.holds Tryz.pinned (OpenSpec.upto adjustKnownSpec)

end Rows
end Go.Proofs.YtlifeokjcgngjaaGreat
