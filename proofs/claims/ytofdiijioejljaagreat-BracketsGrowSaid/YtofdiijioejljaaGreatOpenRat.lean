/- What the frame of a statement tells of fractions that come in. -/
import Derived.Test.YtofdiijioejljaaGreatRatAll
import Derived.OpenShut
import Derived.WideShapes
import Derived.ChangeArms
import Derived.ChangeSlices
set_option linter.all false
namespace Go.Proofs.YtofdiijioejljaaGreat
open Go.RowKit

theorem i64_wf {n : Int} (h : (Lit.int .i64 n).wf = true) : -9223372036854775808 ≤ n ∧ n ≤ 9223372036854775807 := by
  simp [Lit.wf, IntKind.min, IntKind.max, IntKind.signed, IntKind.bits] at h
  omega

/-- what the row's frame tells of a slice of limbs that came in -/
theorem rd_of_row {w : World} {a : Option Addr} {len cap : Nat} {zs : List Int}
    (h : (a = none ∧ len = 0 ∧ cap = 0 ∧ zs = []) ∨ ∃ x, a = some x ∧ len ≤ cap ∧ cap ≤ maxLen ∧ zs.length = cap ∧ (∀ i, i < zs.length → w.cell? (x.add i) = some (.int .u32 (zs.getD i 0))) ∧ ∀ n ∈ zs, (Lit.int .u32 n).wf = true) :
    ∃ xs : List Nat, Lim xs ∧ Rd w 1 (.slice a len cap) len (ints .u32 xs) := by
  rcases h with ⟨rfl, rfl, rfl, rfl⟩ | ⟨x, rfl, h1, h2, h3, h4, h5⟩
  · exact ⟨[], Lim.nil, Rd.nil w 1⟩
  · have hb : ∀ n ∈ zs, 0 ≤ n ∧ n < 4294967296 := fun n hn => by
      have := h5 n hn
      simp [Lit.wf, IntKind.min, IntKind.max, IntKind.signed, IntKind.bits] at this
      omega
    refine ⟨(zs.take len).map Int.toNat, ?_, ?_⟩
    · intro y hy
      obtain ⟨z, hz, rfl⟩ := List.mem_map.1 hy
      have := hb z (List.mem_of_mem_take hz)
      omega
    · refine ⟨_, cap, rfl, h1, h2, by simp; omega, fun hn => ?_⟩
      have hz0 : 0 < zs.length := by omega
      have h0 := h4 0 hz0
      have hsp : x.spot = none := by
        have : x.add 0 = x := by simp [Addr.add]
        rw [this] at h0
        unfold World.cell? at h0
        split at h0
        · split at h0
          · cases h0
          · rename_i hs; simpa using hs
        · cases h0
      obtain ⟨b, off, sp⟩ := x
      simp only at hsp
      subst hsp
      refine ⟨b, off, rfl, fun j u hj => ?_⟩
      simp only [ints, List.map_map, List.getElem?_map, List.getElem?_take] at hj
      split at hj
      · rename_i hjl
        have hjz : j < zs.length := by omega
        rw [List.getElem?_eq_getElem hjz] at hj
        simp at hj
        subst hj
        have h6 := h4 j hjz
        have h7 := hb _ (List.getElem_mem hjz)
        rw [show (⟨b, off, none⟩ : Addr).add j = ⟨b, off + j, none⟩ by unfold Addr.add; split <;> simp_all] at h6
        rw [h6]
        simp [List.getD, hjz]
        omega
      · cases hj
theorem len_two {α : Type} {l : List α} (h : l.length = 2) : ∃ a b, l = [a, b] := by
  match l, h with
  | [a, b], _ => exact ⟨a, b, rfl⟩
theorem len_four {α : Type} {l : List α} (h : l.length = 4) : ∃ a b c d, l = [a, b, c, d] := by
  match l, h with
  | [a, b, c, d], _ => exact ⟨a, b, c, d, rfl⟩
section
variable {H : Type} {enc : TypeId × Value → H} {w : World} {held : Bool}
theorem open_limbs {fuel : Nat} {cs : List Value} {x : DataW H × List MemPlace} (h : DataW.trod enc Tryz.prog w 0 (fun _ => true) held fuel 23 cs = some x) : ∃ p n c xs, cs = [.slice p n c] ∧ Rd w 1 (.slice p n c) n (ints .u32 xs) ∧ Lim xs := by
  rcases ChangeShapes.open_ints Tryz.underlying23 Tryz.underlying107 (by kernel_rfl) h with ⟨rfl, _⟩ | ⟨a, len, cap, zs, rfl, _, hl, hc, hz, _, hcell, hwf⟩
  · exact ⟨none, 0, 0, [], rfl, Rd.nil w 1, Lim.nil⟩
  · rw [if_pos rfl] at hz
    obtain ⟨xs, hxs, hrd⟩ := rd_of_row (w := w) (.inr ⟨a, rfl, hl, hc, hz, hcell, hwf⟩)
    exact ⟨some a, len, cap, xs, rfl, hrd, hxs⟩
theorem open_num {fuel : Nat} {cs : List Value} {x : DataW H × List MemPlace} (h : DataW.trod enc Tryz.prog w 0 (fun _ => true) held fuel 25 cs = some x) : ∃ s p c xs, cs = [.bool s, .slice p xs.length c] ∧ NumAt w (.agg #[.bool s, .slice p xs.length c]) s xs := by
  obtain ⟨ys, n, rfl, rfl, hl, hyl, hf⟩ := DataW.trod_struct Tryz.underlying25 h
  have hl2 : cs.length = 2 := by
    have c : Tryz.prog.cellsOf 25 = 2 := by kernel_rfl
    rw [c] at hl; exact hl
  have hy2 : ys.length = 2 := hyl
  obtain ⟨a, b, rfl⟩ : ∃ a b, cs = [a, b] := by
    exact len_two hl2
  obtain ⟨y0, y1, rfl⟩ : ∃ a b, ys = [a, b] := by
    exact len_two hy2
  have c0 : Tryz.prog.cellsOf 4 = 1 := by kernel_rfl
  have c1 : Tryz.prog.cellsOf 23 = 1 := by kernel_rfl
  have h0 := hf 0 _ rfl
  have h1 := hf 1 _ rfl
  change DataW.trod enc Tryz.prog w 0 (fun _ => true) held n 4 (([a, b].drop 0).take (Tryz.prog.cellsOf 4)) = some y0 at h0
  change DataW.trod enc Tryz.prog w 0 (fun _ => true) held n 23 (([a, b].drop 1).take (Tryz.prog.cellsOf 23)) = some y1 at h1
  rw [c0] at h0
  rw [c1] at h1
  obtain ⟨s, hs, _⟩ := DataW.trod_bool Tryz.underlying4 h0
  obtain ⟨p, m, c, xs, hp, hr, hx⟩ := open_limbs h1
  simp only [List.drop_zero, List.take_succ_cons, List.take_zero, List.cons.injEq, and_true] at hs
  simp only [List.drop_succ_cons, List.drop_zero, List.take_succ_cons, List.take_zero, List.cons.injEq, and_true] at hp
  subst hs hp
  obtain ⟨_, _, hv, _, _, hxl⟩ := hr.u32
  subst hxl
  exact ⟨s, p, c, xs, rfl, p, c, rfl, hr, hx⟩
theorem open_rat {fuel : Nat} {cs : List Value} {x : DataW H × List MemPlace} (h : DataW.trod enc Tryz.prog w 0 (fun _ => true) held fuel 27 cs = some x) : ∃ s p n c t r m d xs ys, cs = [.bool s, .slice p n c, .bool t, .slice r m d] ∧ RatRaw w (.agg #[.bool s, .slice p n c, .bool t, .slice r m d]) s xs t ys := by
  obtain ⟨zs, n, rfl, rfl, hl, hyl, hf⟩ := DataW.trod_struct Tryz.underlying27 h
  have hl2 : cs.length = 4 := by
    have c : Tryz.prog.cellsOf 27 = 4 := by kernel_rfl
    rw [c] at hl; exact hl
  have hy2 : zs.length = 2 := hyl
  obtain ⟨a, b, a', b', rfl⟩ : ∃ a b a' b', cs = [a, b, a', b'] := by
    exact len_four hl2
  obtain ⟨y0, y1, rfl⟩ : ∃ a b, zs = [a, b] := by
    exact len_two hy2
  have c0 : Tryz.prog.cellsOf 25 = 2 := by kernel_rfl
  have h0 := hf 0 _ rfl
  have h1 := hf 1 _ rfl
  change DataW.trod enc Tryz.prog w 0 (fun _ => true) held n 25 (([a, b, a', b'].drop 0).take (Tryz.prog.cellsOf 25)) = some y0 at h0
  change DataW.trod enc Tryz.prog w 0 (fun _ => true) held n 25 (([a, b, a', b'].drop 2).take (Tryz.prog.cellsOf 25)) = some y1 at h1
  rw [c0] at h0 h1
  obtain ⟨s, p, c, xs, e0, n0⟩ := open_num h0
  obtain ⟨t, r, d, ys, e1, n1⟩ := open_num h1
  simp only [List.drop_zero, List.take_succ_cons, List.take_zero, List.cons.injEq, and_true] at e0
  simp only [List.drop_succ_cons, List.drop_zero, List.take_succ_cons, List.take_zero, List.cons.injEq, and_true] at e1
  obtain ⟨rfl, rfl⟩ := e0
  obtain ⟨rfl, rfl⟩ := e1
  exact ⟨_, _, _, _, _, _, _, _, xs, ys, rfl, _, _, _, _, rfl, n0, n1⟩
theorem RatRaw.wide {v : Value} {s t : Bool} {xs ys : List Nat} (h : RatRaw w v s xs t ys) : RatIn w v (rq s xs t ys) 9223372036854775807 := by
  obtain ⟨p, c, r, d, rfl, h1, h2⟩ := id h
  obtain ⟨_, _, _, hr1, _⟩ := h1
  obtain ⟨_, _, _, hr2, _⟩ := h2
  obtain ⟨_, _, _, a1, a2, _⟩ := hr1.u32
  obtain ⟨_, _, _, b1, b2, _⟩ := hr2.u32
  exact ⟨s, xs, t, ys, h, rfl, by omega, by omega⟩
set_option maxRecDepth 100000 in
theorem open_rat_arg {v : Value} {d : DataW H} {ps : List MemPlace} {r : _root_.Go.Reach} {b0 : Nat} (hv : Value.okWide Tryz.prog w r b0 27 v) (h : DataW.Trod enc Tryz.prog w 0 (fun _ => true) held 27 v d ps) : ∃ s xs t ys, RatRaw w v s xs t ys := by
  obtain ⟨cs, rfl, _⟩ := WideShapes.okWide_struct Tryz.underlying27 hv
  obtain ⟨fuel, hf⟩ := h
  obtain ⟨s, p, n, c, t, r, m, d, xs, ys, e, hr⟩ := open_rat hf
  have e' : cs = #[.bool s, .slice p n c, .bool t, .slice r m d] := Array.toList_inj.1 (by simpa [Value.cells] using e)
  subst e'
  exact ⟨s, xs, t, ys, hr⟩
set_option maxRecDepth 100000 in
theorem open_num_arg {v : Value} {d : DataW H} {ps : List MemPlace} {r : _root_.Go.Reach} {b0 : Nat} (hv : Value.okWide Tryz.prog w r b0 25 v) (h : DataW.Trod enc Tryz.prog w 0 (fun _ => true) held 25 v d ps) : ∃ s xs, NumAt w v s xs := by
  obtain ⟨cs, rfl, _⟩ := WideShapes.okWide_struct Tryz.underlying25 hv
  obtain ⟨fuel, hf⟩ := h
  obtain ⟨s, p, c, xs, e, hr⟩ := open_num hf
  have e' : cs = #[.bool s, .slice p xs.length c] := Array.toList_inj.1 (by simpa [Value.cells] using e)
  subst e'
  exact ⟨s, xs, hr⟩
theorem all_of {α : Type} {p : Nat → α → Prop} : ∀ (n : Nat), (∀ i, i < n → ∃ q, p i q) → ∃ qs : List α, qs.length = n ∧ ∀ (i : Nat) (q : α), qs[i]? = some q → p i q
  | 0, _ => ⟨[], rfl, fun i q h => by simp at h⟩
  | n + 1, h => by
    obtain ⟨qs, hl, hq⟩ := all_of n (fun i hi => h i (by omega))
    obtain ⟨q, hqn⟩ := h n (by omega)
    refine ⟨qs ++ [q], by simp [hl], fun i x hx => ?_⟩
    by_cases hi : i < n
    · rw [List.getElem?_append_left (by omega)] at hx
      exact hq i x hx
    · rw [List.getElem?_append_right (by omega), hl] at hx
      have : i = n := by
        have := (List.getElem?_eq_some_iff.1 hx).1
        simp at this
        omega
      subst this
      simp at hx
      subst hx
      exact hqn
set_option maxRecDepth 100000 in
theorem open_rats_arg {v : Value} {d : DataW H} {ps : List MemPlace} {r : _root_.Go.Reach} {b0 : Nat} (hv : Value.okWide Tryz.prog w r b0 29 v) (h : DataW.Trod enc Tryz.prog w 0 (fun _ => true) held 29 v d ps) : ∃ qs, RatsIn w v qs 9223372036854775807 := by
  obtain ⟨p, len, cap, rfl⟩ := WideShapes.okWide_slice Tryz.underlying29 hv
  obtain ⟨fuel, hf⟩ := h
  have c4 : Tryz.prog.cellsOf 27 = 4 := by kernel_rfl
  rcases DataW.trod_slice Tryz.underlying29 hf with ⟨e, _⟩ | ⟨a, len', cap', elems, rest, n, _, e, _, _, hl, hm, hel, hat, _⟩
  · simp [Value.cells] at e
    obtain ⟨rfl, rfl, rfl⟩ := e
    exact ⟨[], none, 0, rfl, Nat.le_refl _, by decide, fun i q h => by simp at h⟩
  · simp [Value.cells] at e
    obtain ⟨rfl, rfl, rfl⟩ := e
    rw [c4] at hat
    have each : ∀ i, i < len → ∃ q, ∃ b off s p' n' c' t r m d, some a = some ⟨b, off, none⟩ ∧ (∀ j u, [Value.bool s, .slice p' n' c', .bool t, .slice r m d][j]? = some u → w.cell? ⟨b, off + i * 4 + j, none⟩ = some u) ∧ RatIn w (.agg #[.bool s, .slice p' n' c', .bool t, .slice r m d]) q 9223372036854775807 := by
      intro i hi
      obtain ⟨y, hy⟩ : ∃ y, elems[i]? = some y := ⟨_, List.getElem?_eq_getElem (by omega)⟩
      have hb := hat i hi
      rw [hy, Option.bind_eq_some_iff] at hb
      obtain ⟨cs, hcs, ht⟩ := hb
      obtain ⟨s, p', n', c', t, r, m, d, xs, ys, rfl, hr⟩ := open_rat ht
      obtain ⟨_, hlen, hcell⟩ := World.cells?_some hcs
      obtain ⟨b, off, spot⟩ := a
      have hspot : spot = none := by
        obtain ⟨y0, hy0⟩ : ∃ y, elems[0]? = some y := ⟨_, List.getElem?_eq_getElem (by omega)⟩
        have hb0 := hat 0 (by omega)
        rw [hy0, Option.bind_eq_some_iff] at hb0
        obtain ⟨cs0, hcs0, ht0⟩ := hb0
        obtain ⟨s0, _, _, _, _, _, _, _, _, _, rfl, _⟩ := open_rat ht0
        obtain ⟨_, _, hcell0⟩ := World.cells?_some hcs0
        have g0 := World.cell?_spot (show w.cell? _ = some (Value.bool s0) from hcell0 0 (by omega))
        simpa [Addr.add] using g0
      subst hspot
      refine ⟨rq s xs t ys, b, off, s, p', n', c', t, r, m, d, rfl, fun j u hj => ?_, hr.wide⟩
      have hj4 : j < 4 := (List.getElem?_eq_some_iff.1 hj).1
      have := hcell j (by omega)
      rw [WideShapes.add_plain, WideShapes.add_plain] at this
      rw [this]
      exact hj
    obtain ⟨qs, hql, hqs⟩ := all_of len each
    subst hql
    exact ⟨qs, _, _, rfl, hl, hm, fun i q hq => hqs i q hq⟩
end
end Go.Proofs.YtofdiijioejljaaGreat
