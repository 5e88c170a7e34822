/- What the span layer's Of computes: a copy of the rows, in blocks of its own. -/
import Derived.Deep.RegionHeld3
import Derived.Deep.RegionLaw
import Derived.Test.YtfalckgdhhgfaaaSpanF
namespace Go.Proofs.Ytfalckgdhhgfaaa
open Go.RowKit

/-- a grid of bools in blocks of the call's own -/
def GridOwn (B : Nat) (w : World) (v : Value) (M : List (List Bool)) : Prop :=
  ∃ hs : List Value, w.ownsRow B 35 1 v M.length hs ∧ ∀ (i : Nat) r, M[i]? = some r → ∃ u, hs[i]? = some u ∧ w.ownsRow B 4 1 u r.length (bools r)
theorem GridOwn.rd {B : Nat} {w : World} {v : Value} {M : List (List Bool)} (h : GridOwn B w v M) : RdGrid w v M := by
  obtain ⟨hs, h1, h2⟩ := h
  exact ⟨hs, Rd.own h1, fun i r hi => by obtain ⟨u, hu, hr⟩ := h2 i r hi; exact ⟨u, hu, Rd.own hr⟩⟩
theorem GridOwn.below {B : Nat} {w w' : World} {v : Value} {M : List (List Bool)} (h : GridOwn B w v M) (hb : Below w.heap.size w w') : GridOwn B w' v M := by
  obtain ⟨hs, h1, h2⟩ := h
  exact ⟨hs, Own.below h1 hb, fun i r hi => by obtain ⟨u, hu, hr⟩ := h2 i r hi; exact ⟨u, hu, Own.below hr hb⟩⟩
theorem GridOwn.mono {B B' : Nat} {w : World} {v : Value} {M : List (List Bool)} (h : GridOwn B w v M) (hB : B' ≤ B) : GridOwn B' w v M := by
  obtain ⟨hs, h1, h2⟩ := h
  exact ⟨hs, Own.mono h1 hB, fun i r hi => by obtain ⟨u, hu, hr⟩ := h2 i r hi; exact ⟨u, hu, Own.mono hr hB⟩⟩
theorem GridOwn.nil (B : Nat) (w : World) : GridOwn B w (.slice none 0 0) [] := ⟨[], World.ownsRow_nil _ _ _ _, fun i r hi => by simp at hi⟩
theorem own_apart {w : World} {B B' e e' sz sz' n n' : Nat} {v v' : Value} {cs cs' : List Value} (h : w.ownsRow B e sz v n cs) (h' : w.ownsRow B' e' sz' v' n' cs') (hne : e ≠ e') : v.ownBlock = none ∨ v.ownBlock ≠ v'.ownBlock := by
  rcases h.2 with ⟨rfl, _⟩ | ⟨g, cap, cur, rfl, _, hg, _⟩
  · exact .inl rfl
  · right
    rcases h'.2 with ⟨rfl, _⟩ | ⟨g', cap', cur', rfl, _, hg', _⟩
    · simp [Value.ownBlock]
    · intro he
      have : g = g' := by simpa [Value.ownBlock] using he
      subst this
      rw [hg] at hg'
      simp only [Option.some.injEq, Obj.cells.injEq] at hg'
      exact hne hg'.2.1
/-- one row more -/
theorem GridOwn.snoc {B m : Nat} {w w1 : World} {v v' u : Value} {M : List (List Bool)} {r : List Bool} {tmp : Obj} {hs : List Value}
    (hs1 : w.ownsRow B 35 1 v M.length hs) (h2 : ∀ (i : Nat) r, M[i]? = some r → ∃ u, hs[i]? = some u ∧ w.ownsRow B 4 1 u r.length (bools r)) (hu : w.ownsRow B 4 1 u r.length (bools r))
    (hown : w1.ownsRow B 35 1 v' m (hs ++ [u])) (hm : m = M.length + 1) (hg : (w.alloc tmp).grownBy w1 v.ownBlock) : GridOwn B w1 v' (M ++ [r]) := by
  subst hm
  have hkeep : ∀ {u : Value} {n : Nat} {cs : List Value}, w.ownsRow B 4 1 u n cs → w1.ownsRow B 4 1 u n cs := fun ho => (ho.alloc tmp).kept hg (own_apart (ho.alloc tmp) (hs1.alloc tmp) (by decide))
  have hl : hs.length = M.length := by have := hs1.1; omega
  refine ⟨hs ++ [u], by rw [List.length_append]; exact hown, fun i r' hi => ?_⟩
  by_cases h : i < M.length
  · rw [List.getElem?_append_left h] at hi
    obtain ⟨u', hu', hr'⟩ := h2 i r' hi
    exact ⟨u', by rw [List.getElem?_append_left (by omega)]; exact hu', hkeep hr'⟩
  · rw [List.getElem?_append_right (by omega)] at hi
    have h0 : i - M.length = 0 := by
      rcases Nat.eq_zero_or_pos (i - M.length) with h | h
      · exact h
      · rw [List.getElem?_eq_none (by simp; omega)] at hi; cases hi
    rw [h0] at hi
    simp only [List.getElem?_cons_zero, Option.some.injEq] at hi
    subst hi
    exact ⟨u, by rw [List.getElem?_append_right (by omega), hl, h0]; rfl, hkeep hu⟩
theorem GridOwn.stored {B b : Nat} {w : World} {v u : Value} {M : List (List Bool)} {t : TypeId} {o : Value} (h : GridOwn B w v M) (hb : Boxed w b t o) (h1 : t ≠ 35) (h2 : t ≠ 4) : GridOwn B (w.setCell ⟨b, 0, none⟩ u) v M := by
  obtain ⟨hs, a1, a2⟩ := h
  exact ⟨hs, a1.kept (grownBy_setCell' w b u) (.inr (hb.not_row h1 a1).symm), fun i r hi => by
    obtain ⟨u', hu, hr⟩ := a2 i r hi
    exact ⟨u', hu, hr.kept (grownBy_setCell' w b u) (.inr (hb.not_row h2 hr).symm)⟩⟩

theorem ofKeep {w w1 : World} {b : Nat} {t : TypeId} {v : Value} (h : Boxed w b t v) (hb : Below w.heap.size w w1) : w1.cell? ⟨b, 0, none⟩ = some v ∧ w1.frozen? ⟨b, 0, none⟩ = false :=
  have h1 : Boxed w1 b t v := (hb.block b h.lt).trans h
  ⟨h1.cell, h1.frozen⟩
theorem ofKeepA {w w1 : World} {b : Nat} {t : TypeId} {v : Value} {o : Obj} (h : Boxed w b t v) (hb : Below w.heap.size w w1) : (w1.alloc o).cell? ⟨b, 0, none⟩ = some v ∧ (w1.alloc o).frozen? ⟨b, 0, none⟩ = false :=
  have h1 : Boxed w1 b t v := (hb.block b h.lt).trans h
  ⟨(h1.alloc o).cell, (h1.alloc o).frozen⟩
theorem ofKeep2 {w w1 w2 : World} {b B n : Nat} {t e : TypeId} {v vo : Value} {o : Obj} {cs : List Value} (h : Boxed w b t v) (hb : Below w.heap.size w w1) (hs : w.ownsRow B e 1 vo n cs) (hg : (w1.alloc o).grownBy w2 vo.ownBlock) (hne : t ≠ e) : w2.cell? ⟨b, 0, none⟩ = some v ∧ w2.frozen? ⟨b, 0, none⟩ = false :=
  have h1 : Boxed w1 b t v := (hb.block b h.lt).trans h
  have h2 : Boxed (w1.alloc o) b t v := h1.alloc o
  have h3 : Boxed w2 b t v := h2.kept hg (h.not_row hne hs)
  ⟨h3.cell, h3.frozen⟩
theorem of_step {w0 wr w1 w2 : World} {M : List (List Bool)} {r : List Bool} {hs : List Value} {k B b g cap cu : Nat} {pu : Option Addr} {vo : Value} (hkl : M.length = k) (hbox : Boxed wr b 26 vo)
    (hs1 : wr.ownsRow B 35 1 vo k hs) (hs2 : ∀ (i : Nat) r, M[i]? = some r → ∃ u, hs[i]? = some u ∧ wr.ownsRow B 4 1 u r.length (bools r)) (hu : w1.ownsRow wr.heap.size 4 1 (.slice pu r.length cu) r.length (bools r))
    (hb1 : Below wr.heap.size wr w1) (hown1 : w2.ownsRow B 35 1 (.slice (some ⟨g, 0, none⟩) (k + 1) cap) (k + 1) (hs ++ [.slice pu r.length cu])) (hgr : (w1.alloc (.cells #[.slice pu r.length cu] 35)).grownBy w2 vo.ownBlock) (hb : Below B w0 wr) (hBw : B ≤ wr.heap.size) (hBb : B ≤ b) {b0 : Nat} {o0 : Value} (hb0 : Boxed wr b0 26 o0) (hne : b0 ≠ b) :
    Boxed (w2.setCell ⟨b, 0, none⟩ (.slice (some ⟨g, 0, none⟩) (k + 1) cap)) b 26 (.slice (some ⟨g, 0, none⟩) (k + 1) cap) ∧ GridOwn B (w2.setCell ⟨b, 0, none⟩ (.slice (some ⟨g, 0, none⟩) (k + 1) cap)) (.slice (some ⟨g, 0, none⟩) (k + 1) cap) (M ++ [r]) ∧
      Below B w0 (w2.setCell ⟨b, 0, none⟩ (.slice (some ⟨g, 0, none⟩) (k + 1) cap)) ∧ Boxed (w2.setCell ⟨b, 0, none⟩ (.slice (some ⟨g, 0, none⟩) (k + 1) cap)) b0 26 o0 := by
  subst hkl
  have b1 : Boxed w1 b 26 vo := (hb1.block b hbox.lt).trans hbox
  have o1 := Own.below hs1 hb1
  have b2 : Boxed w2 b 26 vo := (b1.alloc _).kept hgr (b1.not_row (by decide) o1)
  have hs := hb1.size
  have b01 : Boxed w1 b0 26 o0 := (hb1.block b0 hb0.lt).trans hb0
  refine ⟨b2.set _, ?_, ?_, ((b01.alloc _).kept hgr (b01.not_row (by decide) o1)).other hne _⟩
  · refine GridOwn.stored ?_ b2 (by decide) (by decide)
    exact GridOwn.snoc o1 (fun i r hi => by obtain ⟨u, h1, h2⟩ := hs2 i r hi; exact ⟨u, h1, Own.below h2 hb1⟩) (Own.mono hu hBw) hown1 rfl hgr
  · refine (((hb.trans (hb1.mono hBw)).alloc (by omega) _).grown hgr (by simp; omega) fun j hj => (o1.lt j hj).1).setCell (p := ⟨b, 0, none⟩) hBb _
def OfInv (M : List (List Bool)) (w : World) (b : Nat) (iv : Value) (wr : World) : Prop :=
  ∃ (k : Nat) (vo : Value), k ≤ M.length ∧ iv = .int .i64 (k : Int) ∧ Boxed wr w.heap.size 26 (.slice none 0 0) ∧ Boxed wr b 26 vo ∧ GridOwn w.heap.size wr vo (M.take k) ∧ Below w.heap.size w wr

set_option maxHeartbeats 1000000 in
theorem of_any (v : Value) (M : List (List Bool)) (w : World) (hg : RdGrid w v M) (hM : M.length ≤ 1000) (hr : ∀ r ∈ M, r.length ≤ 1000) :
    Calls Try.prog 13 #[v] w fun x w' => (∃ v', x = .returned (.agg #[v']) ∧ GridOwn w.heap.size w' v' M) ∧ Below w.heap.size w w' := by
  obtain ⟨p, c, rfl, hnc, hcm⟩ := hg.form
  obtain ⟨i0, hi, hz0, hz1, hz2⟩ := info_parts infoBools
  have HG := Lib.hid hg
  have HRL := Lib.hid hr
  clear hg hr
  refine walk_q fun R' hR' => ?_
  have bT := (Boxed.new w 26 (.slice none 0 0))
  have bR := (Boxed.new (w.alloc (.cells #[.slice none 0 0] 26)) 26 (.slice none 0 0))
  rw [World.size_alloc] at bR
  go_enter Try.func13, Try.ntmps13
  go_wp2_with fail
  go_loopw [8] (fun iv wr => OfInv M w (w.heap.size + 1) iv wr) (fun iv _ => M.length - (intOf iv).toNat)
  case atStart => exact ⟨0, _, Nat.zero_le _, rfl, bT.alloc _, bR, GridOwn.nil _ _, ((Below.refl _ _).alloc (Nat.le_refl _) _).alloc (by simp) _⟩
  case round =>
    obtain ⟨k, vo, hk, rfl, hbT, hbox, hgrid, hb⟩ := hrel
    by_cases hkn : k < M.length
    · obtain ⟨b, off, q, d, r, rfl, hr, hc, hrd, hdm, hR⟩ := (HG.out.below hb).rowAt hkn
      have hb0 := cell_lt hc
      simp only at hb0
      have cB := hbox.cell
      have fB := hbox.frozen
      have lB := hbox.lt
      have hrl : r.length ≤ 1000 := HRL.out r (List.mem_of_getElem? hr)
      have hws := hb.size
      obtain ⟨hs, hs1, hs2⟩ := hgrid
      have hkl : (M.take k).length = k := by rw [List.length_take]; omega
      rw [hkl] at hs1
      go_wp2_with fail
      go_region_law (first
        | (refine step_append_rd (by rfl) _ _ 22 (by rfl) w.heap.size 35 i0 (.slice none 0 0) 1 24 Try.underlying22 hi hz0 hz1 hz2 rfl (by omega) _ k hs (by rfl) ((Own.below (w := wr.drew) hs1 hb1).alloc _) _ 1 [.slice pu r.length cu] (by rfl) (Rd.litN rfl (by omega)) (by simp [Value.oneCell']) (by unfold maxLen; omega) (by omega) (Nat.le_trans (Nat.le_trans hws hb1.size) (by simp)) ?_; intro v1 w2 hown1 hgr; obtain ⟨g', cap', rfl⟩ := ownsRow_succ hown1; obtain ⟨cB2, fB2⟩ := ofKeep2 (w := wr.drew) hbox hb1 hs1 hgr (by decide))
        | (go_simp; go_at_call 27; refine (cloneB_any _ r _ (by first | exact hR | exact Rd.drew hR) (by omega)).mono ?_; rintro e w1 ⟨u, rfl, hu, hb1⟩; obtain ⟨pu, cu, rfl, _, _, _⟩ := Own.form hu; obtain ⟨cB1, fB1⟩ := ofKeep (w := wr.drew) hbox hb1; have lB1 := cell_lt cB1; simp only))
      all_goals
        have hst := of_step (wr := wr.drew) (w0 := w) hkl hbox hs1 hs2 hu hb1 hown1 hgr hb.drew hws (by omega) hbT (by omega)
        have HST := Lib.hid hst
        clear hst hgr hown1 cB2 fB2 hu hb1 cB1 fB1 lB1 hbox hb
        go_wp2_with fail
        go_roundw
        case rel => exact ⟨k + 1, _, by omega, by go_num, HST.out.2.2.2, HST.out.1, by rw [List.take_add_one, hr]; exact HST.out.2.1, HST.out.2.2.1⟩
        case measure => simp [intOf]; omega
    · obtain rfl : k = M.length := by omega
      have cB := hbox.cell
      have fB := hbox.frozen
      have lB := hbox.lt
      have fT := hbT.frozen
      have lT := hbT.lt
      have cT := hbT.cell
      rw [List.take_length] at hgrid
      obtain ⟨hs, hs1, _⟩ := id hgrid
      obtain ⟨pv, cv, rfl, _, _, _⟩ := Own.form hs1
      go_wp2_with fail
      have hc5 := (hbT.set (.slice pv M.length cv)).cell
      exact bodyPost_ret (v := .agg #[.slice pv M.length cv]) (by simp [results, Try.results13, go_sem, hc5]) rfl (hR'.out _ _ ⟨⟨_, rfl, hgrid.stored hbT (by decide) (by decide)⟩, hb.setCell (p := ⟨w.heap.size, 0, none⟩) (Nat.le_refl _) _⟩)

end Go.Proofs.Ytfalckgdhhgfaaa
