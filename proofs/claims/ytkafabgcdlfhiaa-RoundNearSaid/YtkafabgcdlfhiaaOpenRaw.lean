/- What the frame of a statement tells of a slice of fractions that comes in: which ones are right, and which they are. -/
import Derived.Test.YtkafabgcdlfhiaaOpenRow
import Derived.Test.YtkafabgcdlfhiaaPlaces
set_option linter.all false
namespace Go.Proofs.Ytkafabgcdlfhiaa
open Go.RowKit

section
variable {H : Type} {enc : TypeId × Value → H} {w : World} {held : Bool}
set_option maxRecDepth 100000 in
theorem open_raw {fuel : Nat} {cs : List Value} {x : DataW H × List MemPlace} (h : DataW.trod enc Try.prog w 0 (fun _ => true) held fuel 26 cs = some x) : ∃ a : Bool × Rat, RawE 9223372036854775807 w cs a := by
  obtain ⟨s, p, n, c, t, r, m, d, xs, ys, rfl, hr⟩ := open_rat h
  have hr' := hr
  obtain ⟨p', c', r', d', hv, h1, h2⟩ := hr
  simp only [Value.agg.injEq, Array.mk.injEq, List.cons.injEq, and_true, Value.slice.injEq, Value.bool.injEq] at hv
  obtain ⟨_, ⟨rfl, rfl, rfl⟩, _, rfl, rfl, rfl⟩ := hv
  obtain ⟨_, _, _, hr1, _⟩ := h1
  obtain ⟨_, _, _, hr2, _⟩ := h2
  obtain ⟨_, _, _, a1, a2, _⟩ := hr1.u32
  obtain ⟨_, _, _, b1, b2, _⟩ := hr2.u32
  exact ⟨_, s, _, _, t, _, _, xs, ys, rfl, hr', rfl, by omega, by omega⟩
set_option maxRecDepth 100000 in
theorem open_raws_arg {v : Value} {d : DataW H} {ps : List MemPlace} {r : _root_.Go.Reach} {b0 : Nat} (hv : Value.okWide Try.prog w r b0 58 v) (h : DataW.Trod enc Try.prog w 0 (fun _ => true) held 58 v d ps) : ∃ es : List (Bool × Rat), SlIn (RawE 9223372036854775807) 4 w v es :=
  open_sl Try.underlying58 (by kernel_rfl) (by omega) (fun h => open_raw h) hv h
end
end Go.Proofs.Ytkafabgcdlfhiaa
