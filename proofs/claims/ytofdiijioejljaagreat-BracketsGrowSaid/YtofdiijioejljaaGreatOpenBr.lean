/- What the frame of a statement tells of brackets that come in. -/
import Derived.Test.YtofdiijioejljaaGreatOpenRow
import Derived.Test.YtofdiijioejljaaGreatBrOne
set_option linter.all false
namespace Go.Proofs.YtofdiijioejljaaGreat
open Go.RowKit

abbrev WideK : Nat := 9223372036854775807
section
variable {H : Type} {enc : TypeId × Value → H} {w : World} {held : Bool}
theorem drop_split (cs : List Value) (o n m : Nat) (h : m = o + n) : cs.drop o = (cs.drop o).take n ++ cs.drop m := by
  subst h
  have := (List.take_append_drop n (cs.drop o)).symm
  rw [List.drop_drop] at this
  exact this
theorem raw_wide {s t : Bool} {p r : Option Addr} {n c m d : Nat} {xs ys : List Nat} (h : RatRaw w (.agg #[.bool s, .slice p n c, .bool t, .slice r m d]) s xs t ys) : n = xs.length ∧ m = ys.length ∧ xs.length ≤ WideK ∧ ys.length ≤ WideK := by
  obtain ⟨p', c', r', d', hv, h1, h2⟩ := h
  simp only [Value.agg.injEq, Array.mk.injEq, List.cons.injEq, and_true, Value.slice.injEq, Value.bool.injEq] at hv
  obtain ⟨_, ⟨rfl, rfl, rfl⟩, _, rfl, rfl, rfl⟩ := hv
  obtain ⟨_, _, _, hr1, _⟩ := h1
  obtain ⟨_, _, _, hr2, _⟩ := h2
  obtain ⟨_, _, _, a1, a2, _⟩ := hr1.u32
  obtain ⟨_, _, _, b1, b2, _⟩ := hr2.u32
  exact ⟨rfl, rfl, by unfold WideK; omega, by unfold WideK; omega⟩
theorem open_brE {s t s' t' : Bool} {p r p' r' : Option Addr} {n c m d n' c' m' d' : Nat} {xs ys xs' ys' : List Nat} (h : RatRaw w (.agg #[.bool s, .slice p n c, .bool t, .slice r m d]) s xs t ys) (h' : RatRaw w (.agg #[.bool s', .slice p' n' c', .bool t', .slice r' m' d']) s' xs' t' ys') :
    BrE WideK w [.bool s, .slice p n c, .bool t, .slice r m d, .bool s', .slice p' n' c', .bool t', .slice r' m' d'] ((s, xs, t, ys), (s', xs', t', ys')) := by
  obtain ⟨rfl, rfl, h1, h2⟩ := raw_wide h
  obtain ⟨rfl, rfl, h3, h4⟩ := raw_wide h'
  exact ⟨_, _, _, _, _, _, _, _, rfl, h, h', h1, h2, h3, h4⟩
set_option maxRecDepth 100000 in
theorem open_br {fuel : Nat} {cs : List Value} {x : DataW H × List MemPlace} (h : DataW.trod enc Tryz.prog w 0 (fun _ => true) held fuel 59 cs = some x) : ∃ a : RBr, BrE WideK w cs a := by
  obtain ⟨zs, n, rfl, rfl, hl, hyl, hf⟩ := DataW.trod_struct Tryz.underlying59 h
  have hl2 : cs.length = 8 := by
    have c : Tryz.prog.cellsOf 59 = 8 := by kernel_rfl
    rw [c] at hl; exact hl
  have hy2 : zs.length = 2 := hyl
  obtain ⟨z0, hz0⟩ : ∃ z, zs[0]? = some z := ⟨_, List.getElem?_eq_getElem (by omega)⟩
  obtain ⟨z1, hz1⟩ : ∃ z, zs[1]? = some z := ⟨_, List.getElem?_eq_getElem (by omega)⟩
  have c1 : Tryz.prog.cellsOf 27 = 4 := by kernel_rfl
  have h0 := hf 0 _ rfl
  have h1 := hf 1 _ rfl
  rw [hz0] at h0
  rw [hz1] at h1
  change DataW.trod enc Tryz.prog w 0 (fun _ => true) held n 27 ((cs.drop 0).take (Tryz.prog.cellsOf 27)) = some z0 at h0
  change DataW.trod enc Tryz.prog w 0 (fun _ => true) held n 27 ((cs.drop 4).take (Tryz.prog.cellsOf 27)) = some z1 at h1
  rw [c1] at h0 h1
  obtain ⟨s, p, m1, c, t, r, m2, d, xs, ys, e0, n0⟩ := open_rat h0
  obtain ⟨s', p', m3, c', t', r', m4, d', xs', ys', e1, n1⟩ := open_rat h1
  have ecs : cs = [.bool s, .slice p m1 c, .bool t, .slice r m2 d] ++ [.bool s', .slice p' m3 c', .bool t', .slice r' m4 d'] := by
    have a1 : cs = (cs.drop 0).take 4 ++ cs.drop 4 := drop_split cs 0 4 4 rfl
    have a3 : cs.drop 4 = (cs.drop 4).take 4 := by rw [List.take_of_length_le]; rw [List.length_drop]; omega
    rw [a1, a3, e0, e1]
  rw [ecs]
  exact ⟨_, open_brE n0 n1⟩
set_option maxRecDepth 100000 in
theorem open_brs_arg {v : Value} {d : DataW H} {ps : List MemPlace} {r : _root_.Go.Reach} {b0 : Nat} (hv : Value.okWide Tryz.prog w r b0 22 v) (h : DataW.Trod enc Tryz.prog w 0 (fun _ => true) held 22 v d ps) : ∃ es : List RBr, SlIn (BrE WideK) 8 w v es :=
  open_sl Tryz.underlying22 (by kernel_rfl) (by omega) (fun h => open_br h) hv h
end
end Go.Proofs.YtofdiijioejljaaGreat
