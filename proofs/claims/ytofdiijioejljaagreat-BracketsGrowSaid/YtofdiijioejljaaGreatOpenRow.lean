/- What the frame of a statement tells of a slice of elements that comes in. No type of the program in sight but by its number. -/
import Derived.Test.YtofdiijioejljaaGreatOpenRat
import Derived.Test.YtofdiijioejljaaGreatRowW
set_option linter.all false
namespace Go.Proofs.YtofdiijioejljaaGreat
open Go.RowKit

section
variable {H : Type} {enc : TypeId × Value → H} {w : World} {held : Bool}
set_option maxRecDepth 100000 in
theorem open_sl {α : Type} {E : World → List Value → α → Prop} {sz : Nat} {t e : TypeId} (hu : Tryz.prog.underlying t = some (.slice e)) (hc : Tryz.prog.cellsOf e = sz) (hpos : 0 < sz)
    (hel : ∀ {fuel : Nat} {cs : List Value} {x : DataW H × List MemPlace}, DataW.trod enc Tryz.prog w 0 (fun _ => true) held fuel e cs = some x → ∃ a, E w cs a)
    {v : Value} {d : DataW H} {ps : List MemPlace} {r : _root_.Go.Reach} {b0 : Nat} (hv : Value.okWide Tryz.prog w r b0 t v) (h : DataW.Trod enc Tryz.prog w 0 (fun _ => true) held t v d ps) : ∃ es : List α, SlIn E sz w v es := by
  obtain ⟨p, len, cap, rfl⟩ := WideShapes.okWide_slice hu hv
  obtain ⟨fuel, hf⟩ := h
  rcases DataW.trod_slice hu hf with ⟨e, _⟩ | ⟨a, len', cap', elems, rest, n, _, e, _, _, hl, hm, hle, hat, _⟩
  · simp [Value.cells] at e
    obtain ⟨rfl, rfl, rfl⟩ := e
    exact ⟨[], SlIn.nil _ _ _⟩
  · simp [Value.cells] at e
    obtain ⟨rfl, rfl, rfl⟩ := e
    rw [hc] at hat
    have each : ∀ i, i < len → ∃ q, ∃ b off cs, some a = some ⟨b, off, none⟩ ∧ (∀ (j : Nat) (u : Value), cs[j]? = some u → w.cell? ⟨b, off + i * sz + j, none⟩ = some u) ∧ E w cs q := by
      intro i hi
      obtain ⟨y, hy⟩ : ∃ y, elems[i]? = some y := ⟨_, List.getElem?_eq_getElem (by omega)⟩
      have hb := hat i hi
      rw [hy, Option.bind_eq_some_iff] at hb
      obtain ⟨cs, hcs, ht⟩ := hb
      obtain ⟨q, hq⟩ := hel ht
      obtain ⟨_, hlen, hcell⟩ := World.cells?_some hcs
      obtain ⟨b, off, spot⟩ := a
      have hspot : spot = none := by
        obtain ⟨y0, hy0⟩ : ∃ y, elems[0]? = some y := ⟨_, List.getElem?_eq_getElem (by omega)⟩
        have hb0 := hat 0 (by omega)
        rw [hy0, Option.bind_eq_some_iff] at hb0
        obtain ⟨cs0, hcs0, ht0⟩ := hb0
        obtain ⟨_, hlen0, hcell0⟩ := World.cells?_some hcs0
        have h00 := hcell0 0 hpos
        rw [List.getElem?_eq_getElem (by omega)] at h00
        have g0 := World.cell?_spot h00
        simpa [Addr.add] using g0
      subst hspot
      refine ⟨q, b, off, cs, rfl, fun j u hj => ?_, hq⟩
      have hjl : j < sz := by have := (List.getElem?_eq_some_iff.1 hj).1; omega
      have := hcell j hjl
      rw [WideShapes.add_plain, WideShapes.add_plain] at this
      rw [this]
      exact hj
    obtain ⟨qs, hql, hqs⟩ := all_of len each
    subst hql
    exact ⟨qs, _, _, rfl, hl, hm, fun i q hq => hqs i q hq⟩
/-- fields of a struct: the cells of the k-th one, and its reading -/
theorem list_split {α : Type} (l : List α) (n : Nat) : l = l.take n ++ l.drop n := (List.take_append_drop n l).symm
end
end Go.Proofs.YtofdiijioejljaaGreat
