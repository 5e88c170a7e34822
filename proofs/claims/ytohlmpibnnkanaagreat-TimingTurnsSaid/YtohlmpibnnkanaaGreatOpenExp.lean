/- What the frame of a statement tells of expenses that come in. -/
import Derived.Test.YtohlmpibnnkanaaGreatOpenRow
import Derived.Test.YtohlmpibnnkanaaGreatTimBase
set_option linter.all false
namespace Go.Proofs.YtohlmpibnnkanaaGreat
open Go.RowKit

abbrev WideK : Nat := 9223372036854775807
section
variable {H : Type} {enc : TypeId × Value → H} {w : World} {held : Bool}
theorem drop_split (cs : List Value) (o n m : Nat) (h : m = o + n) : cs.drop o = (cs.drop o).take n ++ cs.drop m := by
  subst h
  have := (List.take_append_drop n (cs.drop o)).symm
  rw [List.drop_drop] at this
  exact this
theorem open_expE {s t : Bool} {p r : Option Addr} {n c m d : Nat} {xs ys : List Nat} {y z : Int} (h : RatRaw w (.agg #[.bool s, .slice p n c, .bool t, .slice r m d]) s xs t ys) (hy : i64b y) (hz : i64b z) : ExpE WideK w [.int .i64 y, .int .i64 z, .bool s, .slice p n c, .bool t, .slice r m d] (y, z, s, xs, t, ys) := by
  have hr' := h
  obtain ⟨p', c', r', d', hv, h1, h2⟩ := h
  simp only [Value.agg.injEq, Array.mk.injEq, List.cons.injEq, and_true, Value.slice.injEq, Value.bool.injEq] at hv
  obtain ⟨_, ⟨rfl, rfl, rfl⟩, _, rfl, rfl, rfl⟩ := hv
  obtain ⟨_, _, _, hr1, _⟩ := h1
  obtain ⟨_, _, _, hr2, _⟩ := h2
  obtain ⟨_, _, _, a1, a2, _⟩ := hr1.u32
  obtain ⟨_, _, _, b1, b2, _⟩ := hr2.u32
  refine ⟨_, _, _, _, rfl, hy, hz, hr', ?_, ?_⟩
  · show xs.length ≤ WideK; unfold WideK; omega
  · show ys.length ≤ WideK; unfold WideK; omega
set_option maxRecDepth 100000 in
theorem open_exp {fuel : Nat} {cs : List Value} {x : DataW H × List MemPlace} (h : DataW.trod enc Tryz.prog w 0 (fun _ => true) held fuel 36 cs = some x) : ∃ a : RExp, ExpE WideK w cs a := by
  obtain ⟨zs, n, rfl, rfl, hl, hyl, hf⟩ := DataW.trod_struct Tryz.underlying36 h
  have hl2 : cs.length = 6 := by
    have c : Tryz.prog.cellsOf 36 = 6 := by kernel_rfl
    rw [c] at hl; exact hl
  have hy2 : zs.length = 3 := hyl
  obtain ⟨z0, hz0⟩ : ∃ z, zs[0]? = some z := ⟨_, List.getElem?_eq_getElem (by omega)⟩
  obtain ⟨z1, hz1⟩ : ∃ z, zs[1]? = some z := ⟨_, List.getElem?_eq_getElem (by omega)⟩
  obtain ⟨z2, hz2⟩ : ∃ z, zs[2]? = some z := ⟨_, List.getElem?_eq_getElem (by omega)⟩
  have c0 : Tryz.prog.cellsOf 3 = 1 := by kernel_rfl
  have c1 : Tryz.prog.cellsOf 33 = 4 := by kernel_rfl
  have h0 := hf 0 _ rfl
  have h1 := hf 1 _ rfl
  have h2 := hf 2 _ rfl
  rw [hz0] at h0
  rw [hz1] at h1
  rw [hz2] at h2
  change DataW.trod enc Tryz.prog w 0 (fun _ => true) held n 3 ((cs.drop 0).take (Tryz.prog.cellsOf 3)) = some z0 at h0
  change DataW.trod enc Tryz.prog w 0 (fun _ => true) held n 3 ((cs.drop 1).take (Tryz.prog.cellsOf 3)) = some z1 at h1
  change DataW.trod enc Tryz.prog w 0 (fun _ => true) held n 33 ((cs.drop 2).take (Tryz.prog.cellsOf 33)) = some z2 at h2
  rw [c0] at h0 h1
  rw [c1] at h2
  obtain ⟨k, e0, _, hk⟩ := DataW.trod_int Tryz.underlying3 h0
  obtain ⟨k1, e1, _, hk1⟩ := DataW.trod_int Tryz.underlying3 h1
  obtain ⟨s', p', m2, c', t', r', m3, d', xs', ys', e2, n2⟩ := open_rat h2
  have ecs : cs = [.int .i64 k] ++ ([.int .i64 k1] ++ [.bool s', .slice p' m2 c', .bool t', .slice r' m3 d']) := by
    have a1 : cs = (cs.drop 0).take 1 ++ cs.drop 1 := drop_split cs 0 1 1 rfl
    have a2 : cs.drop 1 = (cs.drop 1).take 1 ++ cs.drop 2 := drop_split cs 1 1 2 rfl
    have a3 : cs.drop 2 = (cs.drop 2).take 4 := by rw [List.take_of_length_le]; rw [List.length_drop]; omega
    rw [a1, a2, a3, e0, e1, e2]
  rw [ecs]
  exact ⟨_, open_expE n2 (i64_wf hk) (i64_wf hk1)⟩
set_option maxRecDepth 100000 in
theorem open_exps_arg {v : Value} {d : DataW H} {ps : List MemPlace} {r : _root_.Go.Reach} {b0 : Nat} (hv : Value.okWide Tryz.prog w r b0 22 v) (h : DataW.Trod enc Tryz.prog w 0 (fun _ => true) held 22 v d ps) : ∃ es : List RExp, SlIn (ExpE WideK) 6 w v es :=
  open_sl Tryz.underlying22 (by kernel_rfl) (by omega) (fun h => open_exp h) hv h
set_option maxRecDepth 100000 in
theorem open_exp_arg {v : Value} {d : DataW H} {ps : List MemPlace} {r : _root_.Go.Reach} {b0 : Nat} (hv : Value.okWide Tryz.prog w r b0 36 v) (h : DataW.Trod enc Tryz.prog w 0 (fun _ => true) held 36 v d ps) : ∃ e : RExp, ExpV WideK w v e := by
  obtain ⟨cs, rfl, _⟩ := WideShapes.okWide_struct Tryz.underlying36 hv
  obtain ⟨fuel, hf⟩ := h
  obtain ⟨e, he⟩ := open_exp hf
  exact ⟨e, _, rfl, by simpa [Value.cells] using he⟩
end
end Go.Proofs.YtohlmpibnnkanaaGreat
