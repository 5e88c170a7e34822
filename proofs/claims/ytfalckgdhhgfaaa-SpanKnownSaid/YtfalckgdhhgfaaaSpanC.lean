/- What the span layer computes of some entities together: whether all are members, and when not all are any more. -/
import Derived.Test.YtfalckgdhhgfaaaSpanB
namespace Go.Proofs.Ytfalckgdhhgfaaa
open Go.RowKit

theorem all1_any (v : Value) (y e : Int) (b1 b2 : Nat) (M : List (List Bool)) (w : World) (hg : RdGrid w v M) (h1 : w.cell? ⟨b1, 0, none⟩ = some v) (h2 : w.cell? ⟨b2, 0, none⟩ = some (.int .i64 y)) :
    Calls Try.prog 29 #[.int .i64 e, .pointer (some ⟨b1, 0, none⟩), .pointer (some ⟨b2, 0, none⟩)] w fun x w' => x = .returned (.bool (!mem M y e)) ∧ Below w.heap.size w w' := by
  refine walk_q fun R' hR' => ?_
  have hb1 := cell_lt h1
  have hb2 := cell_lt h2
  simp only at hb1 hb2
  go_enter Try.func29, Try.ntmps29
  go_wp2_with fail
  refine (is_any _ y e M _ hg).mono ?_
  rintro x w1 ⟨rfl, hb⟩
  go_wp2_with fail
  exact hR'.out _ _ ⟨rfl, hb⟩

theorem indexFunc_any (v lv : Value) (y : Int) (l : List Int) (b1 b2 : Nat) (M : List (List Bool)) (w : World) (hg : RdGrid w v M) (h1 : w.cell? ⟨b1, 0, none⟩ = some v) (h2 : w.cell? ⟨b2, 0, none⟩ = some (.int .i64 y)) (hl : Rd w 1 lv l.length (zints l)) :
    Calls Try.prog 33 #[lv, .func (.func 29) #[] #[.pointer (some ⟨b1, 0, none⟩), .pointer (some ⟨b2, 0, none⟩)]] w fun x w' => (∃ r : Int, x = .returned (.int .i64 r) ∧ (0 ≤ r ↔ (l.all fun e => mem M y e) = false)) ∧ Below w.heap.size w w' := by
  obtain ⟨q, d, rfl, hld, hdm, _⟩ := hl.form
  unfold maxLen at hdm
  have HG := Lib.hid hg
  have HL := Lib.hid hl
  have H1 := Lib.hid h1
  have H2 := Lib.hid h2
  have hb1 := cell_lt h1
  have hb2 := cell_lt h2
  simp only at hb1 hb2
  clear hg hl h1 h2
  refine walk_q fun R' hR' => ?_
  go_enter Try.func33, Try.ntmps33
  go_wp2_with fail
  go_loopw [8] (fun iv wr => ∃ k : Nat, k ≤ l.length ∧ iv = .int .i64 (k : Int) ∧ Hid ((l.take k).all (fun e => mem M y e) = true) ∧ Below w.heap.size w wr) (fun iv _ => l.length - (intOf iv).toNat)
  case atStart => exact ⟨0, Nat.zero_le _, rfl, by show _ = _; simp, Below.refl _ _⟩
  case round =>
    obtain ⟨k, hk, rfl, hall, hb⟩ := hrel
    have HB := Lib.hid hb
    clear hb
    by_cases hkn : k < l.length
    · obtain ⟨b3, o3, x, rfl, hx, hcx⟩ := (HL.out.below HB.out).zintAt hkn
      have hb3 := cell_lt hcx
      simp only at hb3
      have HX := Lib.hid hx
      clear hx
      go_wp2_with fail
      refine (all1_any v y x b1 b2 M _ (HG.out.below HB.out) ((HB.out.cell (p := ⟨b1, 0, none⟩) hb1).trans H1.out) ((HB.out.cell (p := ⟨b2, 0, none⟩) hb2).trans H2.out)).mono ?_
      rintro x w1 ⟨rfl, hb⟩
      have HB1 := Lib.hid (Below.thn HB.out hb)
      clear hb
      cases hm : mem M y x with
      | true =>
        go_wp2_with fail
        go_roundw
        case rel => exact ⟨k + 1, by omega, by go_num, take_snoc_all HX.out hall.out hm, HB1.out⟩
        case measure => simp [intOf]; omega
      | false =>
        go_wp2_with fail
        exact hR'.out _ _ ⟨⟨_, rfl, ⟨fun _ => all_off HX.out hm, fun _ => by omega⟩⟩, HB1.out⟩
    · obtain rfl : k = l.length := by omega
      go_wp2_with fail
      have h := hall.out
      rw [List.take_length] at h
      exact hR'.out _ _ ⟨⟨_, rfl, ⟨fun h => absurd h (by decide), fun h' => by rw [h] at h'; cases h'⟩⟩, HB.out⟩

theorem containsFunc_any (v lv : Value) (y : Int) (l : List Int) (b1 b2 : Nat) (M : List (List Bool)) (w : World) (hg : RdGrid w v M) (h1 : w.cell? ⟨b1, 0, none⟩ = some v) (h2 : w.cell? ⟨b2, 0, none⟩ = some (.int .i64 y)) (hl : Rd w 1 lv l.length (zints l)) :
    Calls Try.prog 28 #[lv, .func (.func 29) #[] #[.pointer (some ⟨b1, 0, none⟩), .pointer (some ⟨b2, 0, none⟩)]] w fun x w' => x = .returned (.bool (!l.all fun e => mem M y e)) ∧ Below w.heap.size w w' := by
  refine walk_q fun R' hR' => ?_
  go_enter Try.func28, Try.ntmps28
  go_wp2_with fail
  refine (indexFunc_any v lv y l b1 b2 M _ hg h1 h2 hl).mono ?_
  rintro x w1 ⟨⟨r, rfl, hr⟩, hb⟩
  cases ha : (l.all fun e => mem M y e) with
  | true =>
    rw [ha] at hr
    have hr0 : ¬ 0 ≤ r := fun h => by cases hr.1 h
    go_wp2_with fail
    exact hR'.out _ _ ⟨by rw [ha]; simp, hb⟩
  | false =>
    have hr0 : 0 ≤ r := hr.2 ha
    go_wp2_with fail
    exact hR'.out _ _ ⟨by rw [ha]; simp, hb⟩

theorem all_any (v lv : Value) (y : Int) (l : List Int) (M : List (List Bool)) (w : World) (hg : RdGrid w v M) (hl : Rd w 1 lv l.length (zints l)) :
    Calls Try.prog 16 #[.agg #[v], .int .i64 y, lv] w fun x w' => x = .returned (.bool (allB M y l)) ∧ Below w.heap.size w w' := by
  obtain ⟨p, c, rfl, hnc, hcm⟩ := hg.form
  refine walk_q fun R' hR' => ?_
  have hB := ((Below.refl w.heap.size w).alloc (Nat.le_refl _) (.cells #[.slice p M.length c] 26)).alloc (by simp) (.cells #[.int .i64 y] 3)
  by_cases hy : 0 ≤ y ∧ y < (M.length : Int)
  · have hA : allB M y l = l.all fun e => mem M y e := by unfold allB; rw [decide_eq_true hy]; rfl
    have HA := Lib.hid hA
    clear hA
    go_enter Try.func16, Try.ntmps16
    go_wp2_with fail
    refine (year_yes _ y M _ (hg.below hB) hy).mono ?_
    rintro x w1 ⟨rfl, hb1⟩
    have c1 : w1.cell? ⟨w.heap.size, 0, none⟩ = some (.slice p M.length c) := (hb1.cell (p := ⟨w.heap.size, 0, none⟩) (by simp; omega)).trans (by rw [World.cell?_alloc_lt _ _ _ (by simp), World.cell?_alloc_new]; rfl)
    have c2 : w1.cell? ⟨w.heap.size + 1, 0, none⟩ = some (.int .i64 y) := by
      have h := box_after (w := w.alloc (.cells #[.slice p M.length c] 26)) hb1
      rwa [World.size_alloc] at h
    have hg1 := hg.below (Below.thn hB hb1)
    have hl1 := hl.below (Below.thn hB hb1)
    go_wp2_with fail
    refine (containsFunc_any _ _ y l _ _ M _ hg1 c1 c2 hl1).mono ?_
    rintro x w2 ⟨rfl, hb2⟩
    go_wp2_with fail
    exact hR'.out _ _ ⟨by rw [HA.out]; simp, Below.thn (Below.thn hB hb1) hb2⟩
  · have hA : allB M y l = false := by unfold allB; rw [decide_eq_false hy]; rfl
    go_enter Try.func16, Try.ntmps16
    go_wp2_with fail
    refine (year_no _ y M _ (hg.below hB) hy).mono ?_
    rintro x w1 ⟨rfl, hb1⟩
    go_wp2_with fail
    exact hR'.out _ _ ⟨by rw [hA]; rfl, Below.thn hB hb1⟩

def PartInv (M : List (List Bool)) (l : List Int) (y : Int) (w : World) (iv : Value) (wr : World) : Prop :=
  ∃ k : Nat, k ≤ M.length ∧ iv = .int .i64 (k : Int) ∧ (∀ j : Nat, j < k → ¬ (0 ≤ y ∧ y < (j : Int) ∧ allB M j l = false)) ∧ 0 ≤ y ∧ y < (k : Int) ∧ Below w.heap.size w wr

set_option maxHeartbeats 400000 in
theorem parted_any (v lv : Value) (y : Int) (l : List Int) (M : List (List Bool)) (w : World) (hg : RdGrid w v M) (hl : Rd w 1 lv l.length (zints l)) :
    Calls Try.prog 15 #[.agg #[v], .int .i64 y, lv] w fun x w' => (∃ r, x = .returned (.int .i64 r) ∧ IsParted M y l r) ∧ Below w.heap.size w w' := by
  obtain ⟨p, c, rfl, hnc, hcm⟩ := hg.form
  have HG := Lib.hid hg
  have HL := Lib.hid hl
  clear hg hl
  refine walk_q fun R' hR' => ?_
  have hB := (Below.refl w.heap.size w).alloc (Nat.le_refl _) (.cells #[.slice p M.length c] 26)
  by_cases hy : 0 ≤ y ∧ y < (M.length : Int)
  · go_enter Try.func15, Try.ntmps15
    go_wp2_with fail
    refine (year_yes _ y M _ (HG.out.below hB) hy).mono ?_
    rintro x w1 ⟨rfl, hb1⟩
    have hbox := box_after hb1
    have HB := Lib.hid (Below.thn hB hb1)
    have HB1 := Lib.hid hb1
    clear hb1
    obtain ⟨k, rfl⟩ := Int.eq_ofNat_of_zero_le hy.1
    go_wp2_with fail
    go_loopw [1] (fun iv wr => PartInv M l (k : Int) w iv wr ∧ wr.cell? ⟨w.heap.size, 0, none⟩ = some (.slice p M.length c)) (fun iv _ => M.length - (intOf iv).toNat)
    case atStart => exact ⟨⟨k + 1, by omega, by go_num, fun j hj h => by omega, by omega, by omega, HB.out⟩, hbox⟩
    case round =>
      obtain ⟨⟨n, hn, rfl, hno, hk0, hkn, hb⟩, hbox2⟩ := hrel
      have HNO := Lib.hid hno
      have HB2 := Lib.hid hb
      clear hno hb hbox
      by_cases hnl : n < M.length
      · go_wp2_with fail
        refine (year_yes _ n M _ (HG.out.below HB2.out) (by omega)).mono ?_
        rintro x w2 ⟨rfl, hb2⟩
        have HB3 := Lib.hid (Below.thn HB2.out hb2)
        have hbox3 := (hb2.cell (p := ⟨w.heap.size, 0, none⟩) (cell_lt hbox2)).trans hbox2
        clear hb2 hbox2
        go_wp2_with fail
        refine (all_any _ _ n l M _ (HG.out.below HB3.out) (HL.out.below HB3.out)).mono ?_
        rintro x w3 ⟨rfl, hb3⟩
        have HB4 := Lib.hid (Below.thn HB3.out hb3)
        have hbox4 := (hb3.cell (p := ⟨w.heap.size, 0, none⟩) (cell_lt hbox3)).trans hbox3
        clear hb3 hbox3
        cases hA : allB M n l with
        | true =>
          go_wp2_with fail
          go_roundw
          case rel => exact ⟨⟨n + 1, by omega, by go_num, fun j hj => by
            by_cases hjn : j = n
            · rw [hjn]; rintro ⟨_, _, h⟩; rw [hA] at h; cases h
            · exact HNO.out j (by omega), by omega, by omega, HB4.out⟩, hbox4⟩
          case measure => simp [intOf]; omega
        | false =>
          go_wp2_with fail
          exact hR'.out _ _ ⟨⟨_, rfl, .inr ⟨n, rfl, hnl, ⟨hk0, hkn, hA⟩, HNO.out⟩⟩, HB4.out⟩
      · obtain rfl : n = M.length := by omega
        go_wp2_with fail
        refine (year_no _ _ M _ (HG.out.below HB2.out) (by omega)).mono ?_
        rintro x w2 ⟨rfl, hb2⟩
        go_wp2_with fail
        exact hR'.out _ _ ⟨⟨_, rfl, .inl ⟨rfl, HNO.out⟩⟩, Below.thn HB2.out hb2⟩
  · go_enter Try.func15, Try.ntmps15
    go_wp2_with fail
    refine (year_no _ y M _ (HG.out.below hB) hy).mono ?_
    rintro x w1 ⟨rfl, hb1⟩
    go_wp2_with fail
    exact hR'.out _ _ ⟨⟨_, rfl, .inl ⟨rfl, fun k hk h => hy ⟨h.1, by omega⟩⟩⟩, Below.thn hB hb1⟩

end Go.Proofs.Ytfalckgdhhgfaaa
