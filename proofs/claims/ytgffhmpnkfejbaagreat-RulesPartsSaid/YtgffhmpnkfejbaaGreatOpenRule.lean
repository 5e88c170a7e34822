/- What the frame of a statement tells of items and parts that come in. -/
import Derived.Test.YtgffhmpnkfejbaaGreatOpenRow
import Derived.Test.YtgffhmpnkfejbaaGreatRuleMath
set_option linter.all false
namespace Go.Proofs.YtgffhmpnkfejbaaGreat
open Go.RowKit

abbrev WideK : Nat := 9223372036854775807
section
variable {H : Type} {enc : TypeId × Value → H} {w : World} {held : Bool}
theorem u8_wf {n : Int} (h : (Lit.int .u8 n).wf = true) : 0 ≤ n ∧ n < 256 := by
  simp [Lit.wf, IntKind.min, IntKind.max, IntKind.signed, IntKind.bits] at h
  omega
theorem take_of_drop {cs : List Value} {o n : Nat} {l : List Value} (h : (cs.drop o).take n = l) : ∃ t, cs.drop o = l ++ t := ⟨(cs.drop o).drop n, by rw [← h, List.take_append_drop]⟩
theorem drop_split (cs : List Value) (o n m : Nat) (h : m = o + n) : cs.drop o = (cs.drop o).take n ++ cs.drop m := by
  subst h
  have := (List.take_append_drop n (cs.drop o)).symm
  rw [List.drop_drop] at this
  exact this
set_option maxRecDepth 100000 in
theorem open_item {fuel : Nat} {cs : List Value} {x : DataW H × List MemPlace} (h : DataW.trod enc Tryz.prog w 0 (fun _ => true) held fuel 51 cs = some x) : ∃ a : Itm, ItmE WideK w cs a := by
  obtain ⟨zs, n, rfl, rfl, hl, hyl, hf⟩ := DataW.trod_struct Tryz.underlying51 h
  have hl2 : cs.length = 9 := by
    have c : Tryz.prog.cellsOf 51 = 9 := by kernel_rfl
    rw [c] at hl; exact hl
  have hy2 : zs.length = 3 := hyl
  obtain ⟨z0, hz0⟩ : ∃ z, zs[0]? = some z := ⟨_, List.getElem?_eq_getElem (by omega)⟩
  obtain ⟨z1, hz1⟩ : ∃ z, zs[1]? = some z := ⟨_, List.getElem?_eq_getElem (by omega)⟩
  obtain ⟨z2, hz2⟩ : ∃ z, zs[2]? = some z := ⟨_, List.getElem?_eq_getElem (by omega)⟩
  have c0 : Tryz.prog.cellsOf 5 = 1 := by kernel_rfl
  have c1 : Tryz.prog.cellsOf 37 = 4 := by kernel_rfl
  have h0 := hf 0 _ rfl
  have h1 := hf 1 _ rfl
  have h2 := hf 2 _ rfl
  rw [hz0] at h0
  rw [hz1] at h1
  rw [hz2] at h2
  change DataW.trod enc Tryz.prog w 0 (fun _ => true) held n 5 ((cs.drop 0).take (Tryz.prog.cellsOf 5)) = some z0 at h0
  change DataW.trod enc Tryz.prog w 0 (fun _ => true) held n 37 ((cs.drop 1).take (Tryz.prog.cellsOf 37)) = some z1 at h1
  change DataW.trod enc Tryz.prog w 0 (fun _ => true) held n 37 ((cs.drop 5).take (Tryz.prog.cellsOf 37)) = some z2 at h2
  rw [c0] at h0
  rw [c1] at h1 h2
  obtain ⟨k, e0, _, hk⟩ := DataW.trod_int Tryz.underlying5 h0
  obtain ⟨s, p, m, c, t, r, m', d, xs, ys, e1, n1⟩ := open_rat h1
  obtain ⟨s', p', m2, c', t', r', m3, d', xs', ys', e2, n2⟩ := open_rat h2
  have hk' := u8_wf hk
  obtain ⟨k, rfl⟩ := Int.eq_ofNat_of_zero_le hk'.1
  have ecs : cs = [.int .u8 (k : Int)] ++ ([.bool s, .slice p m c, .bool t, .slice r m' d] ++ [.bool s', .slice p' m2 c', .bool t', .slice r' m3 d']) := by
    have a1 : cs = (cs.drop 0).take 1 ++ cs.drop 1 := drop_split cs 0 1 1 rfl
    have a2 : cs.drop 1 = (cs.drop 1).take 4 ++ cs.drop 5 := drop_split cs 1 4 5 rfl
    have a3 : cs.drop 5 = (cs.drop 5).take 4 := by rw [List.take_of_length_le]; rw [List.length_drop]; omega
    rw [a1, a2, a3, e0, e1, e2]
  exact ⟨(k, rq s xs t ys, rq s' xs' t' ys'), s, p, m, c, t, r, m', d, s', p', m2, c', t', r', m3, d', ecs, by omega, n1.wide, n2.wide⟩
set_option maxRecDepth 100000 in
theorem open_parts {fuel : Nat} {cs : List Value} {x : DataW H × List MemPlace} (h : DataW.trod enc Tryz.prog w 0 (fun _ => true) held fuel 39 cs = some x) : ∃ a : Pt, PtE WideK w cs a := by
  obtain ⟨zs, n, rfl, rfl, hl, hyl, hf⟩ := DataW.trod_struct Tryz.underlying39 h
  have hl2 : cs.length = 16 := by
    have c : Tryz.prog.cellsOf 39 = 16 := by kernel_rfl
    rw [c] at hl; exact hl
  have hy2 : zs.length = 4 := hyl
  obtain ⟨z0, hz0⟩ : ∃ z, zs[0]? = some z := ⟨_, List.getElem?_eq_getElem (by omega)⟩
  obtain ⟨z1, hz1⟩ : ∃ z, zs[1]? = some z := ⟨_, List.getElem?_eq_getElem (by omega)⟩
  obtain ⟨z2, hz2⟩ : ∃ z, zs[2]? = some z := ⟨_, List.getElem?_eq_getElem (by omega)⟩
  obtain ⟨z3, hz3⟩ : ∃ z, zs[3]? = some z := ⟨_, List.getElem?_eq_getElem (by omega)⟩
  have c1 : Tryz.prog.cellsOf 37 = 4 := by kernel_rfl
  have h0 := hf 0 _ rfl
  have h1 := hf 1 _ rfl
  have h2 := hf 2 _ rfl
  have h3 := hf 3 _ rfl
  rw [hz0] at h0
  rw [hz1] at h1
  rw [hz2] at h2
  rw [hz3] at h3
  change DataW.trod enc Tryz.prog w 0 (fun _ => true) held n 37 ((cs.drop 0).take (Tryz.prog.cellsOf 37)) = some z0 at h0
  change DataW.trod enc Tryz.prog w 0 (fun _ => true) held n 37 ((cs.drop 4).take (Tryz.prog.cellsOf 37)) = some z1 at h1
  change DataW.trod enc Tryz.prog w 0 (fun _ => true) held n 37 ((cs.drop 8).take (Tryz.prog.cellsOf 37)) = some z2 at h2
  change DataW.trod enc Tryz.prog w 0 (fun _ => true) held n 37 ((cs.drop 12).take (Tryz.prog.cellsOf 37)) = some z3 at h3
  rw [c1] at h0 h1 h2 h3
  obtain ⟨s0, p0, m0, k0, t0, r0, l0, d0, xs0, ys0, e0, n0⟩ := open_rat h0
  obtain ⟨s1, p1, m1, k1, t1, r1, l1, d1, xs1, ys1, e1, n1⟩ := open_rat h1
  obtain ⟨s2, p2, m2, k2, t2, r2, l2, d2, xs2, ys2, e2, n2⟩ := open_rat h2
  obtain ⟨s3, p3, m3, k3, t3, r3, l3, d3, xs3, ys3, e3, n3⟩ := open_rat h3
  have ecs : cs = [.bool s0, .slice p0 m0 k0, .bool t0, .slice r0 l0 d0] ++ ([.bool s1, .slice p1 m1 k1, .bool t1, .slice r1 l1 d1] ++ ([.bool s2, .slice p2 m2 k2, .bool t2, .slice r2 l2 d2] ++ [.bool s3, .slice p3 m3 k3, .bool t3, .slice r3 l3 d3])) := by
    have a1 : cs = (cs.drop 0).take 4 ++ cs.drop 4 := drop_split cs 0 4 4 rfl
    have a2 : cs.drop 4 = (cs.drop 4).take 4 ++ cs.drop 8 := drop_split cs 4 4 8 rfl
    have a3 : cs.drop 8 = (cs.drop 8).take 4 ++ cs.drop 12 := drop_split cs 8 4 12 rfl
    have a4 : cs.drop 12 = (cs.drop 12).take 4 := by rw [List.take_of_length_le]; rw [List.length_drop]; omega
    rw [a1, a2, a3, a4, e0, e1, e2, e3]
  refine ⟨⟨rq s0 xs0 t0 ys0, rq s1 xs1 t1 ys1, rq s2 xs2 t2 ys2, rq s3 xs3 t3 ys3⟩, ?_⟩
  rw [ecs]
  exact PtIn.mk n0.wide n1.wide n2.wide n3.wide
set_option maxRecDepth 100000 in
theorem open_items_arg {v : Value} {d : DataW H} {ps : List MemPlace} {r : _root_.Go.Reach} {b0 : Nat} (hv : Value.okWide Tryz.prog w r b0 22 v) (h : DataW.Trod enc Tryz.prog w 0 (fun _ => true) held 22 v d ps) : ∃ es : List Itm, SlIn (ItmE WideK) 9 w v es :=
  open_sl Tryz.underlying22 (by kernel_rfl) (by omega) (fun h => open_item h) hv h
set_option maxRecDepth 100000 in
theorem open_partss_arg {v : Value} {d : DataW H} {ps : List MemPlace} {r : _root_.Go.Reach} {b0 : Nat} (hv : Value.okWide Tryz.prog w r b0 54 v) (h : DataW.Trod enc Tryz.prog w 0 (fun _ => true) held 54 v d ps) : ∃ es : List Pt, SlIn (PtE WideK) 16 w v es :=
  open_sl Tryz.underlying54 (by kernel_rfl) (by omega) (fun h => open_parts h) hv h
end
end Go.Proofs.YtgffhmpnkfejbaaGreat
