/- What the span layer's iterator hands out: the longest runs, in order. -/
import Derived.RangeFuncNested
import Derived.RangeFuncBound
import Derived.RangeFuncCalls
import Derived.RangeFuncLeaves
import Derived.Shelf.Abstract
import Derived.Shelf.RegionOpen
import Derived.WalkKit
import Derived.OwnWalkIn
import Derived.TacticsInMore
import Derived.LoopNIn
import Derived.LoopIn
import Derived.Test.YtfalckgdhhgfaaaSpanC
namespace Go.Proofs.Ytfalckgdhhgfaaa
open Go.RowKit Go.Shelf
attribute [local go_sem] Oper.semAt_some

/-- what a round that goes on keeps: all below; of the rest all cells but one box and the row that it points to -/
def KpB (n₀ Bo : Nat) (W W' : World) : Prop :=
  Below n₀ W W' ∧ W.heap.size ≤ W'.heap.size ∧
  (∀ k o, W.heap[k]? = some o → o.isCells = true → k ≠ Bo → (∀ v, W.cell? ⟨Bo, 0, none⟩ = some v → v.ownBlock ≠ some k) → W'.heap[k]? = some o) ∧
  (∀ v' g, W'.cell? ⟨Bo, 0, none⟩ = some v' → v'.ownBlock = some g → (∃ v, W.cell? ⟨Bo, 0, none⟩ = some v ∧ v.ownBlock = some g) ∨ (W.heap.size ≤ g ∧ g < W'.heap.size))
def RefOK (Bo : Nat) (W : World) : Prop := ∀ v g, W.cell? ⟨Bo, 0, none⟩ = some v → v.ownBlock = some g → g < W.heap.size

def spanEnc (s : Int × Int) : Array Value := #[.agg #[.int .i64 s.1, .int .i64 s.2]]


theorem grown_of_below {W W' : World} (h : Below W.heap.size W W') : W.grownBy W' none := ⟨h.os, h.tape, h.output, h.size, fun k hk _ => h.block k hk⟩
theorem J_below {β : Type} {B : Nat} {J : β → World → Prop} (hJ : AbidesFrom B J) {s : β} {W W' : World} (h : J s W) (hb : Below W.heap.size W W') : J s W' := hJ s W W' none h (grown_of_below hb) (fun r e => by cases e)
theorem RefOK.below {Bo : Nat} {W W' : World} (h : RefOK Bo W) (hB : Bo < W.heap.size) (hb : Below W.heap.size W W') : RefOK Bo W' := fun v g hc hg => by
  rw [hb.cell (p := ⟨Bo, 0, none⟩) hB] at hc
  have := h v g hc hg
  have := hb.size
  omega
theorem RefOK.kp {n₀ Bo : Nat} {W W' : World} (h : RefOK Bo W) (hk : KpB n₀ Bo W W') : RefOK Bo W' := fun v g hc hg => by
  rcases hk.2.2.2 v g hc hg with ⟨v0, h0, h1⟩ | ⟨_, h1⟩
  · have := h v0 g h0 h1; have := hk.2.1; omega
  · exact h1

def Box2 (W : World) (b : Nat) (x y : Int) : Prop := W.heap[b]? = some (.cells #[.int .i64 x, .int .i64 y] 31 (0, 0))
theorem Box2.cell0 {W : World} {b : Nat} {x y : Int} (h : Box2 W b x y) : W.cell? ⟨b, 0, none⟩ = some (.int .i64 x) := by simp [World.cell?, show W.heap[b]? = _ from h]
theorem Box2.cell1 {W : World} {b : Nat} {x y : Int} (h : Box2 W b x y) : W.cell? ⟨b, 1, none⟩ = some (.int .i64 y) := by simp [World.cell?, show W.heap[b]? = _ from h]
theorem Box2.frozen {W : World} {b : Nat} {x y : Int} (h : Box2 W b x y) : W.frozen? ⟨b, 1, none⟩ = false := by simp [World.frozen?, show W.heap[b]? = _ from h]
theorem Box2.lt {W : World} {b : Nat} {x y : Int} (h : Box2 W b x y) : b < W.heap.size := (Array.getElem?_eq_some_iff.1 h).1
theorem Box2.new (W : World) (x y : Int) : Box2 (W.alloc (.cells #[.int .i64 x, .int .i64 y] 31)) W.heap.size x y := World.alloc_heap_new W _
theorem Box2.below {W W' : World} {b : Nat} {x y : Int} (h : Box2 W b x y) (hb : Below W.heap.size W W') : Box2 W' b x y := (hb.block b h.lt).trans h
theorem Box2.set {W : World} {b : Nat} {x y : Int} (h : Box2 W b x y) (y' : Int) : Box2 (W.setCell ⟨b, 1, none⟩ (.int .i64 y')) b x y' := by
  show (W.heap.modify b _)[b]? = _
  rw [Array.getElem?_eq_getElem (by rw [Array.size_modify]; exact h.lt), Array.getElem_modify_self, (Array.getElem?_eq_some_iff.1 h).2]
  rfl
def endAt (b : Nat) (W : World) : Int := match W.cell? ⟨b, 1, none⟩ with | some (.int _ z) => z | _ => 0
theorem endAt_box {W : World} {b : Nat} {x y : Int} (h : Box2 W b x y) : endAt b W = y := by unfold endAt; rw [h.cell1]

def OutInv (M : List (List Bool)) (e : Int) (J : List (Int × Int) → World → Prop) (n₀ Bo m : Nat) (w0 : World) (iv : Value) (wr : World) : Prop :=
  ∃ (i : Nat) (pre : List (Int × Int)), iv = .int .i64 (i : Int) ∧ i ≤ M.length ∧ pre ++ spansFrom (fun z => mem M z e) M.length i = spansFrom (fun z => mem M z e) M.length 0 ∧
    (mem M i e = true → mem M ((i : Int) - 1) e = false) ∧ J pre wr ∧ Below n₀ w0 wr ∧ RefOK Bo wr ∧ m ≤ wr.heap.size
def InInv (M : List (List Bool)) (e : Int) (i b : Nat) (w1 wi : World) : Prop :=
  ∃ E : Nat, i ≤ E ∧ E < M.length ∧ (∀ z : Int, (i : Int) ≤ z → z ≤ (E : Int) → mem M z e = true) ∧ Box2 wi b (i : Int) (E : Int) ∧ Below b w1 wi

set_option maxHeartbeats 2000000 in
theorem spans1_in (n : Nat) (hn : 1 ≤ n) (l B1 B2 Bo n₀ : Nat) (v : Value) (e : Int) (M : List (List Bool)) (J Jx : List (Int × Int) → World → Prop)
    (hY : ∀ pre x W, J pre W → pre.length < (spansFrom (fun z => mem M z e) M.length 0).length → YieldAt Fence.wide (n - 1) Try.prog l (spanEnc x) W fun r W' =>
      (r = .returned (.bool true) ∧ J (pre ++ [x]) W' ∧ KpB n₀ Bo W W') ∨ (r = .returned (.bool false) ∧ Jx (pre ++ [x]) W'))
    (w0 W : World) (hw0 : n₀ = w0.heap.size) (hg : RdGrid w0 v M) (h1 : w0.cell? ⟨B1, 0, none⟩ = some v) (h2 : w0.cell? ⟨B2, 0, none⟩ = some (.int .i64 e)) (hW : Below n₀ w0 W) (hJ : AbidesFrom W.heap.size J) (hr : RefOK Bo W) (hBo : Bo < W.heap.size) (h0 : J [] W) :
    CallsIn Fence.wide n Try.prog 31 #[.func (.yield l) #[] #[], .pointer (some ⟨B1, 0, none⟩), .pointer (some ⟨B2, 0, none⟩)] W fun r W' => (∃ v, r = .returned v) ∧
      ((∃ ys, ys = spansFrom (fun z => mem M z e) M.length 0 ∧ J ys W') ∨ (∃ pre, pre <+: spansFrom (fun z => mem M z e) M.length 0 ∧ Jx pre W')) := by
  obtain ⟨p, c, rfl, hnc, hcm⟩ := hg.form
  have hf : ∀ z, (fun z => mem M z e) z = true → z < (M.length : Int) := fun z hz => (mem_year hz).2.1
  have HF := Lib.hid hf
  have HY := Lib.hid hY
  have HG := Lib.hid hg
  have HJ := Lib.hid hJ
  have HW0 := Lib.hid hw0
  clear hf hY hg hJ hw0
  refine callsIn_of_wp Try.func31 rfl trivial ?_ rfl
  simp only [Try.ntmps31, List.size_toArray, List.length_cons, List.length_nil, Nat.reduceAdd, Nat.reduceSub, Array.replicate_succ, Array.replicate_zero, List.push_toArray, List.append_toArray, List.nil_append, List.cons_append]
  gi_wp2_with fail
  gi_loopw [4] (fun iv wr => OutInv M e J n₀ Bo W.heap.size w0 iv wr) (fun iv _ => M.length - (intOf iv).toNat)
  case atStart => exact ⟨0, [], rfl, Nat.zero_le _, rfl, fun _ => mem_off (by omega), h0, hW, hr, Nat.le_refl _⟩
  case round =>
    obtain ⟨i, pre, rfl, hin, hsp, hst, hJp, hb, hro, hsz⟩ := hrel
    have c1 := (hb.cell (p := ⟨B1, 0, none⟩) (HW0.out ▸ cell_lt h1)).trans h1
    have c2 := (hb.cell (p := ⟨B2, 0, none⟩) (HW0.out ▸ cell_lt h2)).trans h2
    have l1 := cell_lt c1
    have l2 := cell_lt c2
    simp only at l1 l2
    have hnw : n₀ ≤ wr.heap.size := by have := hb.size; have := HW0.out; omega
    have HSP := Lib.hid hsp
    have HST := Lib.hid hst
    have HJP := Lib.hid hJp
    have HB := Lib.hid hb
    have HRO := Lib.hid hro
    clear hsp hst hJp hb hro
    by_cases hlt : i < M.length
    · cases hm : mem M i e with
      | false =>
        gi_wp2_with fail
        refine ⟨trivial, (callsIn_wide.2 (is_any _ i e M _ (HG.out.belowB HW0.out HB.out))).mono ?_⟩
        rintro x w1 ⟨rfl, hb1⟩
        rw [hm]
        have HB1 := Lib.hid hb1
        clear hb1
        gi_wp2_with fail
        go_roundw
        case rel =>
          refine ⟨i + 1, pre, by simp, by omega, ?_, ?_, J_below HJ.out HJP.out HB1.out, HB.out.trans (HB1.out.mono hnw), HRO.out.below (by omega) HB1.out, Nat.le_trans hsz HB1.out.size⟩
          · rw [← HSP.out, spansFrom_step hlt]
            have : startB (fun z => mem M z e) i = false := by unfold startB; simp only [hm, Bool.false_and]
            rw [this]; rfl
          · intro _
            rw [show ((i + 1 : Nat) : Int) - 1 = (i : Int) by omega]; exact hm
        case measure => simp [intOf]; omega
      | true =>
        gi_wp2_with fail
        refine ⟨trivial, (callsIn_wide.2 (is_any _ i e M _ (HG.out.belowB HW0.out HB.out))).mono ?_⟩
        rintro x w1 ⟨rfl, hb1⟩
        rw [hm]
        have HB1 := Lib.hid hb1
        have hs1 := hb1.size
        have d1 := (hb1.cell (p := ⟨B1, 0, none⟩) l1).trans c1
        have d2 := (hb1.cell (p := ⟨B2, 0, none⟩) l2).trans c2
        clear hb1 c1 c2
        gi_wp2_with fail
        gi_loopw [] (fun wi => InInv M e i w1.heap.size w1 wi) (fun wi => (M.length - endAt w1.heap.size wi).toNat)
        case atStart => exact ⟨i, Nat.le_refl _, hlt, fun z hz1 hz2 => by rw [show z = (i : Int) by omega]; exact hm, Box2.new _ _ _, (Below.refl _ _).alloc (Nat.le_refl _) _⟩
        case round =>
          obtain ⟨E, hiE, hEn, hrun, hbox, hbi⟩ := hrel
          have HRUN := Lib.hid hrun
          have HBX := Lib.hid hbox
          have HBI := Lib.hid hbi
          have hx0 := hbox.cell0
          have hx1 := hbox.cell1
          have hxf := hbox.frozen
          have hxl := hbox.lt
          have e1 := (hbi.cell (p := ⟨B1, 0, none⟩) (cell_lt d1)).trans d1
          have e2 := (hbi.cell (p := ⟨B2, 0, none⟩) (cell_lt d2)).trans d2
          have hsi := hbi.size
          have l3 := cell_lt e1
          have l4 := cell_lt e2
          have hwE := addw (E : Int) (by omega)
          clear hrun hbi hbox
          simp only at l3 l4
          have HBN := Lib.hid ((HB.out.trans (HB1.out.mono hnw)).trans (HBI.out.mono (by omega)))
          cases hm2 : mem M ((E : Int) + 1) e with
          | true =>
            have hEn2 := (mem_year hm2).2.1
            gi_wp2_with fail
            refine ⟨trivial, (callsIn_wide.2 (is_any _ ((E : Int) + 1) e M _ (HG.out.belowB HW0.out HBN.out))).mono ?_⟩
            rintro x w2 ⟨rfl, hb2⟩
            rw [hm2]
            have HBX2 := Lib.hid (HBX.out.below hb2)
            have HBI2 := Lib.hid (HBI.out.trans (hb2.mono (Nat.le_of_lt hxl)))
            have f1 := HBX2.out.cell1
            have f2 := HBX2.out.frozen
            have f3 := HBX2.out.lt
            clear hb2 hx0 hx1 hxf hxl e1 e2
            gi_wp2_with fail
            go_roundw
            case rel =>
              refine ⟨E + 1, by omega, by omega, fun z hz1 hz2 => ?_, HBX2.out.set _, HBI2.out.setCell (p := ⟨w1.heap.size, 1, none⟩) (Nat.le_refl _) _⟩
              by_cases hz : z = (E : Int) + 1
              · rw [hz]; exact hm2
              · exact HRUN.out z hz1 (by omega)
            case measure =>
              rw [endAt_box (HBX2.out.set _), endAt_box HBX.out]
              omega
          | false =>
            gi_wp2_with fail
            refine ⟨trivial, (callsIn_wide.2 (is_any _ ((E : Int) + 1) e M _ (HG.out.belowB HW0.out HBN.out))).mono ?_⟩
            rintro x w2 ⟨rfl, hb2⟩
            rw [hm2]
            have hs2 := hb2.size
            have HBX2 := Lib.hid (HBX.out.below hb2)
            have HBI2 := Lib.hid (HBI.out.trans (hb2.mono (Nat.le_of_lt hxl)))
            have f0 := HBX2.out.cell0
            have f1 := HBX2.out.cell1
            have f3 := HBX2.out.lt
            have HBR := Lib.hid (Below.thn HB1.out HBI2.out)
            clear hb2 hx0 hx1 hxf hxl e1 e2
            have hsb : startB (fun z => mem M z e) i = true := by unfold startB; simp only [hm, HST.out hm, Bool.not_false, Bool.and_self]
            obtain ⟨g1, g2, g3, g4⟩ := endF_spec HF.out M.length (i : Int) hm (by omega)
            have hE : endF (fun z => mem M z e) M.length i = (E : Int) := run_end g1 g3 g4 (by omega) HRUN.out hm2
            have hspl := spansFrom_run hlt hsb hE hiE HRUN.out
            have hsp2 := HSP.out
            rw [hspl] at hsp2
            have HSP2 := Lib.hid hsp2
            have HS3 := Lib.hid (HRO.out.below (by omega) HBR.out)
            have HBN2 := Lib.hid (HB.out.trans (HBR.out.mono hnw))
            obtain ⟨fn, tmps, assign, body, hy, hR⟩ := HY.out pre ((i : Int), (E : Int)) w2 (J_below HJ.out HJP.out HBR.out) (by rw [← hsp2]; simp)
            dsimp only [spanEnc] at hy
            clear hsp2 hspl hE g1 g2 g3 g4 hsb
            gi_wp2_with fail
            refine hR.mono ?_
            rintro r W3 (⟨rfl, hJ3, hk3⟩ | ⟨rfl, hJx3⟩)
            · have hbox3 : Box2 W3 w1.heap.size (i : Int) (E : Int) := hk3.2.2.1 _ _ HBX2.out rfl (by omega) (fun v0 hv0 he => by
                rw [(HBI2.out.cell (p := ⟨Bo, 0, none⟩) (show Bo < w1.heap.size by omega))] at hv0
                have := (HRO.out.below (by omega) HB1.out) v0 _ hv0 he
                omega)
              have k0 := hbox3.cell0
              have k1 := hbox3.cell1
              have k3 := hbox3.lt
              have HK3 := Lib.hid hk3
              have HJ3 := Lib.hid hJ3
              clear hk3 hJ3 f0 f1 f3
              gi_wp2_with fail
              go_roundw
              case rel =>
                refine ⟨E + 1, pre ++ [((i : Int), (E : Int))], by simp, by omega, ?_, ?_, HJ3.out, HBN2.out.trans HK3.out.1, HS3.out.kp HK3.out, ?_⟩
                · rw [List.append_assoc]; exact HSP2.out
                · intro h
                  rw [show ((E + 1 : Nat) : Int) = (E : Int) + 1 by omega, hm2] at h; cases h
                · have := HK3.out.2.1; omega
              case measure => simp [intOf]; omega
            · gi_wp2_with fail
              refine bodyPost_ret (results_none rfl _ _ _) rfl ?_
              exact ⟨⟨_, rfl⟩, .inr ⟨pre ++ [((i : Int), (E : Int))], ⟨_, by rw [List.append_assoc]; exact HSP2.out⟩, hJx3⟩⟩
    · obtain rfl : i = M.length := by omega
      gi_wp2_with fail
      go_end0
      have h := HSP.out
      rw [spansFrom_end (Nat.le_refl _), List.append_nil] at h
      exact ⟨⟨_, rfl⟩, .inl ⟨pre, h, HJP.out⟩⟩

theorem spans_any (v : Value) (e : Int) (w : World) :
    Calls Try.prog 18 #[.agg #[v], .int .i64 e] w fun x w' => x = .returned (.func (.func 31) #[] #[.pointer (some ⟨w.heap.size, 0, none⟩), .pointer (some ⟨w.heap.size + 1, 0, none⟩)]) ∧
      w' = (w.alloc (.cells #[v] 26)).alloc (.cells #[.int .i64 e] 3) := by
  refine walk_q fun R' hR' => ?_
  go_enter Try.func18, Try.ntmps18
  go_wp2_with fail
  exact hR'.out _ _ ⟨rfl, rfl⟩

theorem spans_stops (n : Nat) (hn : 1 ≤ n) (B1 B2 Bo : Nat) (v : Value) (e : Int) (M : List (List Bool)) (w0 w : World) (hg : RdGrid w0 v M) (h1 : w0.cell? ⟨B1, 0, none⟩ = some v) (h2 : w0.cell? ⟨B2, 0, none⟩ = some (.int .i64 e))
    (hw : Below w0.heap.size w0 w) (hr : RefOK Bo w) (hBo : Bo < w.heap.size) :
    SeqStopsK Fence.wide n Try.prog 31 #[.pointer (some ⟨B1, 0, none⟩), .pointer (some ⟨B2, 0, none⟩)] spanEnc (KpB w0.heap.size Bo) (fun ys => ys = spansFrom (fun z => mem M z e) M.length 0)
      (fun pre => pre <+: spansFrom (fun z => mem M z e) M.length 0) (spansFrom (fun z => mem M z e) M.length 0).length w := fun l J Jx W hW hJ _ hY h0 =>
  spans1_in n hn l B1 B2 Bo w0.heap.size v e M J Jx hY w0 W rfl hg h1 h2 (Below.thn hw hW) hJ (hr.below hBo hW) (by have := hW.size; omega) h0

end Go.Proofs.Ytfalckgdhhgfaaa
