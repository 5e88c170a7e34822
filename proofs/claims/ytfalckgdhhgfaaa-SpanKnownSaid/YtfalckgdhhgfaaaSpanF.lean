/- What the span layer's Of, and the small functions of its statements, compute. -/
import Derived.Deep.RegionHeld3
import Derived.Deep.QuietTactic
import Derived.BigQuiet
import Derived.Lib.SliceRun
import Derived.Test.YtfalckgdhhgfaaaSpanE
namespace Go.Proofs.Ytfalckgdhhgfaaa
open Go.RowKit

theorem infoBool : (Try.prog.info? 4).map (fun i => (i.zero, i.size, i.bytes)) = some (some (.bool false), 1, 1) := by kernel_rfl
theorem infoBools : (Try.prog.info? 35).map (fun i => (i.zero, i.size, i.bytes)) = some (some (.slice none 0 0), 1, 24) := by kernel_rfl

set_option maxHeartbeats 400000 in
theorem cloneB_any (v : Value) (r : List Bool) (w : World) (hr : Rd w 1 v r.length (bools r)) (hn : r.length ≤ 1000000) :
    Calls Try.prog 27 #[v] w fun e w' => ∃ v', e = .returned v' ∧ w'.ownsRow w.heap.size 4 1 v' r.length (bools r) ∧ Below w.heap.size w w' := by
  obtain ⟨p, c, rfl, hnc, hcm, hl⟩ := hr.form
  have Hr := Lib.hid hr
  generalize hN : r.length = n at *
  have hnil : ∀ w' : World, (binOp .eql 35 (.slice p n c) (.slice none 0 0)).run Try.prog w' = .ok (.bool p.isNone) w' := fun w' => Lib.run_eql_slice_nil w' 35 4 p n c 0 0 Try.underlying35
  obtain ⟨i0, hi, hz0, hz1, hz2⟩ := info_parts infoBool
  have HL := Lib.hid hl
  have HN := Lib.hid hN
  clear hl hr hN
  unfold maxLen at hcm
  cases p with
  | none =>
    refine walk_q fun R' hR' => ?_
    go_enter Try.func27, Try.ntmps27
    go_wp2
    refine hR'.out _ _ ⟨_, rfl, ?_, Below.refl _ _⟩
    obtain ⟨p, c', hv, _, _, h3, h4⟩ := Hr.out
    simp only [Value.slice.injEq, true_and] at hv
    obtain ⟨rfl, rfl⟩ := hv
    have h0 : n = 0 := by
      rcases Nat.eq_zero_or_pos n with h | h
      · exact h
      · obtain ⟨b, off, hp, _⟩ := h4 (by omega); cases hp
    subst h0
    have hx : bools r = [] := List.eq_nil_of_length_eq_zero (by simpa using h3)
    rw [hx]
    exact World.ownsRow_nil _ _ _ _
  | some ad =>
    refine walk_q fun R' hR' => ?_
    go_enter Try.func27, Try.ntmps27
    go_wp2_with (at_builtin; refine wpList_append_rd _ rfl _ _ 35 rfl w.heap.size 4 i0 (.bool false) 1 1 Try.underlying35 hi hz0 hz1 hz2 rfl (by decide) _ 0 [] rfl (World.ownsRow_made w #[] 0 (Nat.le_refl _) (by simp [maxLen]) rfl) _ n _ rfl (Hr.out.alloc _) (bools_one _) (by unfold maxLen; omega) (by omega) (by simp) ?_; intro v' w1 hown hgr)
    simp only [Nat.zero_add, List.nil_append] at hown
    refine hR'.out _ _ ⟨_, rfl, hown, ((Below.refl _ _).alloc (Nat.le_refl _) _).grown hgr (by simp) fun k hk => by injection (show some w.heap.size = some k from hk) with hk; omega⟩

/-- at most 50 years, of 50 entities -/
def Small (M : List (List Bool)) : Prop := M.length ≤ 50 ∧ ∀ r ∈ M, r.length ≤ 50

theorem few_any (v : Value) (M : List (List Bool)) (w : World) (hg : RdGrid w v M) :
    Calls Try.prog 5 #[v] w fun x w' => (∃ b, x = .returned (.bool b) ∧ (b = true → Small M)) ∧ w = w' := by
  obtain ⟨p, c, rfl, hnc, hcm⟩ := hg.form
  have HG := Lib.hid hg
  clear hg
  refine walk_q fun R' hR' => ?_
  go_enter Try.func5, Try.ntmps5
  go_wp2_with fail
  go_loop [3] (fun iv => ∃ k : Nat, k ≤ M.length ∧ iv = .int .i64 (k : Int) ∧ Hid (∀ r ∈ M.take k, r.length ≤ 50)) (fun iv => M.length - (intOf iv).toNat)
  case atStart => exact ⟨0, Nat.zero_le _, rfl, by show ∀ _, _; simp⟩
  case round =>
    obtain ⟨k, hk, rfl, hall⟩ := hrel
    by_cases hkn : k < M.length
    · obtain ⟨b, off, q, d, r, rfl, hr, hc, hrd, hdm, hR⟩ := HG.out.rowAt hkn
      have hb := cell_lt hc
      simp only at hb
      have HR := Lib.hid hr
      clear hr hR
      by_cases h50 : r.length ≤ 50
      · generalize hrl : r.length = L at *
        have HRL := Lib.hid hrl
        clear hrl
        go_wp2_with fail
        go_round
        case rel =>
          refine ⟨k + 1, by omega, by go_num, ?_⟩
          show ∀ s ∈ M.take (k + 1), s.length ≤ 50
          rw [List.take_add_one, HR.out]
          intro s hs
          rcases List.mem_append.1 hs with hs | hs
          · exact hall.out s hs
          · simp at hs; rw [hs, HRL.out]; exact h50
        case measure => simp [intOf]; omega
      · go_wp2_with fail
        exact hR'.out _ _ ⟨⟨false, rfl, (fun h => by cases h)⟩, rfl⟩
    · obtain rfl : k = M.length := by omega
      have HALL := Lib.hid hall.out
      clear hall
      go_wp2_with fail
      refine hR'.out _ _ ⟨⟨_, rfl, fun h => ?_⟩, rfl⟩
      have h2 := HALL.out
      rw [List.take_length] at h2
      exact ⟨by simp at h; omega, h2⟩

set_option maxHeartbeats 400000 in
theorem sameL_any (va vb : Value) (l : List (Int × Int)) (w : World) (hr : Rd w 2 va l.length (spanCells l)) (hs : Rd w 2 vb l.length (spanCells l)) :
    Calls Try.prog 14 #[va, vb] w fun e w' => e = .returned (.bool true) ∧ Below w.heap.size w w' := by
  obtain ⟨p, c, rfl, hnc, hcm, _⟩ := hr.form
  obtain ⟨q, d, rfl, hmd, hdm, _⟩ := hs.form
  unfold maxLen at hcm hdm
  have Hr := Lib.hid hr
  have Hs := Lib.hid hs
  clear hr hs
  refine walk_q fun R' hR' => ?_
  go_enter Try.func14, Try.ntmps14
  go_wp2_with fail
  go_loopw [5] (fun iv wr => ∃ k dn : Nat, k ≤ l.length ∧ iv = .int .i64 (k : Int) ∧ wr = w.drewN dn) (fun iv _ => l.length - (intOf iv).toNat)
  case atStart => exact ⟨0, 0, Nat.zero_le _, rfl, rfl⟩
  case round =>
    obtain ⟨k, dn, hk, rfl, rfl⟩ := hrel
    by_cases hkn : k < l.length
    · obtain ⟨b1, o1, ⟨s1, s2⟩, rfl, hx, hb1, hc1, hc2⟩ := spanCell Hr.out rfl hkn
      obtain ⟨b2, o2, ⟨t1, t2⟩, rfl, hy, hb2, hd1, hd2⟩ := spanCell Hs.out rfl hkn
      rw [hx] at hy
      simp only [Option.some.injEq, Prod.mk.injEq] at hy
      obtain ⟨rfl, rfl⟩ := hy
      simp only at hc1 hc2 hd1 hd2
      have hb0 : (s1 != s1) = false := by simp
      have hb02 : (s2 != s2) = false := by simp
      have hk0 : (0 : Int) ≤ (k : Int) := by omega
      have hk1 : (k : Int) < (l.length : Int) := by omega
      clear hx
      go_wp2_with fail
      go_quiet (fail)
      go_wp2_with fail
      go_roundw
      case rel => exact ⟨k + 1, _, by omega, by go_num, rfl⟩
      case measure => simp [intOf]; omega
    · obtain rfl : k = l.length := by omega
      go_wp2_with fail
      exact hR'.out _ _ ⟨rfl, Below.drewN (Below.refl _ _) _⟩

end Go.Proofs.Ytfalckgdhhgfaaa
