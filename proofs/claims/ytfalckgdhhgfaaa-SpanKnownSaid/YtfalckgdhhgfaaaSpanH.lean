/- What the chapter's examples compute. -/
import Derived.Test.YtfalckgdhhgfaaaSpanG
namespace Go.Proofs.Ytfalckgdhhgfaaa
open Go.RowKit

def M0 : List (List Bool) := [[true], [true], [false]]
theorem m0_spans : spansFrom (fun z => mem M0 z 0) M0.length 0 = [(0, 1)] := by decide
theorem m0_joins : (mem M0 0 0 && !mem M0 (0 - 1) 0) = true := by decide
theorem m0_leaves : (decide ((0 : Int) ≤ 2 ∧ 2 < (M0.length : Int)) && !mem M0 2 0 && mem M0 (2 - 1) 0) = true := by decide
theorem m0_since : sinceL [(0, 1)] 1 = 0 := by decide
theorem m0_all : allB M0 3 [] = false := by decide
theorem m0_parted : IsParted M0 0 [0] 2 := .inr ⟨2, rfl, by decide, by decide, by decide⟩
theorem m0_parted2 : IsParted M0 2 [0] (-1) := .inl ⟨rfl, by decide⟩

theorem below_alloc {w w' : World} {B : Nat} {o : Obj} (h : Below (w.alloc o).heap.size (w.alloc o) w') (hB : B ≤ w.heap.size) : Below B w w' := ((Below.refl B w).alloc hB o).trans (h.mono (by simp; omega))
theorem Boxed_below {w w1 : World} {b : Nat} {t : TypeId} {v : Value} (h : Boxed w b t v) (hb : Below w.heap.size w w1) : Boxed w1 b t v := (hb.block b h.lt).trans h
theorem rd_one {w : World} {b : Nat} {t : TypeId} {v : Value} (h : Boxed w b t v) : Rd w 1 (.slice (some ⟨b, 0, none⟩) 1 1) 1 [v] :=
  ⟨_, 1, rfl, Nat.le_refl _, by simp [maxLen], rfl, fun _ => ⟨b, 0, rfl, fun j u hj => by
    cases j with
    | zero => simp only [List.getElem?_cons_zero, Option.some.injEq] at hj; subst hj; exact h.cell
    | succ j => simp at hj⟩⟩
theorem grid_rows {w : World} {v : Value} {hs : List Value} {M : List (List Bool)} (h : Rd w 1 v M.length hs) (h2 : ∀ (i : Nat) r, M[i]? = some r → ∃ u, hs[i]? = some u ∧ Rd w 1 u r.length (bools r)) : RdGrid w v M := ⟨hs, h, h2⟩

theorem m0_grid (w : World) : RdGrid ((((w.alloc (.cells #[.bool true] 4)).alloc (.cells #[.bool true] 4)).alloc (.cells #[.bool false] 4)).alloc (.cells #[.slice (some ⟨w.heap.size, 0, none⟩) 1 1, .slice (some ⟨w.heap.size + 1, 0, none⟩) 1 1, .slice (some ⟨w.heap.size + 1 + 1, 0, none⟩) 1 1] 35))
    (.slice (some ⟨w.heap.size + 1 + 1 + 1, 0, none⟩) 3 3) M0 := by
  have b1 := (((Boxed.new w 4 (.bool true)).alloc (.cells #[.bool true] 4)).alloc (.cells #[.bool false] 4)).alloc (.cells #[.slice (some ⟨w.heap.size, 0, none⟩) 1 1, .slice (some ⟨w.heap.size + 1, 0, none⟩) 1 1, .slice (some ⟨w.heap.size + 1 + 1, 0, none⟩) 1 1] 35)
  have b2 := ((Boxed.new (w.alloc (.cells #[.bool true] 4)) 4 (.bool true)).alloc (.cells #[.bool false] 4)).alloc (.cells #[.slice (some ⟨w.heap.size, 0, none⟩) 1 1, .slice (some ⟨w.heap.size + 1, 0, none⟩) 1 1, .slice (some ⟨w.heap.size + 1 + 1, 0, none⟩) 1 1] 35)
  have b3 := (Boxed.new ((w.alloc (.cells #[.bool true] 4)).alloc (.cells #[.bool true] 4)) 4 (.bool false)).alloc (.cells #[.slice (some ⟨w.heap.size, 0, none⟩) 1 1, .slice (some ⟨w.heap.size + 1, 0, none⟩) 1 1, .slice (some ⟨w.heap.size + 1 + 1, 0, none⟩) 1 1] 35)
  simp only [World.size_alloc] at b1 b2 b3
  have h := Rd.lit (w := ((w.alloc (.cells #[.bool true] 4)).alloc (.cells #[.bool true] 4)).alloc (.cells #[.bool false] 4)) (cs := #[.slice (some ⟨w.heap.size, 0, none⟩) 1 1, .slice (some ⟨w.heap.size + 1, 0, none⟩) 1 1, .slice (some ⟨w.heap.size + 1 + 1, 0, none⟩) 1 1]) (e := 35) (n := 3) rfl (by omega)
  simp only [World.size_alloc] at h
  refine grid_rows h fun i r hi => ?_
  match i, hi with
  | 0, hi => cases hi; exact ⟨_, rfl, rd_one b1⟩
  | 1, hi => cases hi; exact ⟨_, rfl, rd_one b2⟩
  | 2, hi => cases hi; exact ⟨_, rfl, rd_one b3⟩
  | n + 3, hi => simp [M0] at hi

set_option maxHeartbeats 1000000 in
theorem works_any (w : World) : Calls Try.prog 6 #[] w fun e w' => e = .returned (.bool true) ∧ Below w.heap.size w w' := by
  refine walk_q fun R' hR' => ?_
  go_enter Try.func6, Try.ntmps6
  go_wp2_with fail
  have hgw := m0_grid w
  have hB0 := ((((Below.refl w.heap.size w).alloc (Nat.le_refl _) (.cells #[.bool true] 4)).alloc (by simp) (.cells #[.bool true] 4)).alloc (by simp; omega) (.cells #[.bool false] 4)).alloc (by simp; omega) (.cells #[.slice (some ⟨w.heap.size, 0, none⟩) 1 1, .slice (some ⟨w.heap.size + 1, 0, none⟩) 1 1, .slice (some ⟨w.heap.size + 1 + 1, 0, none⟩) 1 1] 35)
  refine (of_any _ M0 _ hgw (by decide) (by decide)).mono ?_
  rintro e w1 ⟨⟨v, rfl, hg1⟩, hb1⟩
  have HB1 := Lib.hid (Below.thn hB0 hb1)
  have HG1 := Lib.hid hg1.rd
  clear hgw hB0 hb1 hg1
  obtain ⟨p, c, rfl, _, _⟩ := HG1.out.form
  have bR := Boxed.new w1 26 (.slice p M0.length c)
  have hb2 := (Below.refl w1.heap.size w1).alloc (Nat.le_refl _) (.cells #[.slice p M0.length c] 26)
  go_wp2_with fail
  have HG2 := Lib.hid (HG1.out.below hb2)
  have HB2 := Lib.hid (Below.thn HB1.out hb2)
  have hc2 := bR.cell
  have hl2 := bR.lt
  refine (spansRow_any _ 0 M0 _ HG2.out (by decide)).mono ?_
  rintro e w3 ⟨⟨v3, rfl, hown⟩, hb3⟩
  rw [m0_spans] at hown
  have HO3 := Lib.hid hown
  have bR3 := Boxed_below bR hb3
  have HG3 := Lib.hid (HG2.out.below hb3)
  have HB3 := Lib.hid (Below.thn HB2.out hb3)
  have hc3 := bR3.cell
  have hl3 := bR3.lt
  clear hb2 hb3 hc2 hl2 bR hown
  go_wp2_with fail
  refine (sameL_any _ _ [(0, 1)] _ ((Rd.own HO3.out).alloc _) (Rd.litN (n := 1) (sz := 2) rfl (by omega))).mono ?_
  rintro e w4 ⟨rfl, hbx⟩
  have hb4 := below_alloc hbx (Nat.le_refl _)
  have bR4 := Boxed_below bR3 hb4
  have HG4 := Lib.hid (HG3.out.below hb4)
  have HB4 := Lib.hid (Below.thn HB3.out hb4)
  have hc4 := bR4.cell
  have hl4 := bR4.lt
  clear hbx hb4 hc3 hl3 bR3 HO3
  go_wp2_with fail
  refine (joins_any _ 0 0 M0 _ HG4.out).mono ?_
  rintro e w5 ⟨rfl, hb5⟩
  rw [m0_joins]
  have bR5 := Boxed_below bR4 hb5
  have HG5 := Lib.hid (HG4.out.below hb5)
  have HB5 := Lib.hid (Below.thn HB4.out hb5)
  have hc5 := bR5.cell
  have hl5 := bR5.lt
  clear hb5 hc4 hl4 bR4
  go_wp2_with fail
  refine (leaves_any _ 2 0 M0 _ HG5.out).mono ?_
  rintro e w6 ⟨rfl, hb6⟩
  rw [m0_leaves]
  have bR6 := Boxed_below bR5 hb6
  have HG6 := Lib.hid (HG5.out.below hb6)
  have HB6 := Lib.hid (Below.thn HB5.out hb6)
  have hc6 := bR6.cell
  have hl6 := bR6.lt
  clear hb6 hc5 hl5 bR5
  go_wp2_with fail
  refine (since_any _ 1 0 M0 _ HG6.out).mono ?_
  rintro e w7 ⟨rfl, hb7⟩
  rw [m0_spans, m0_since]
  have bR7 := Boxed_below bR6 hb7
  have HG7 := Lib.hid (HG6.out.below hb7)
  have HB7 := Lib.hid (Below.thn HB6.out hb7)
  have hc7 := bR7.cell
  have hl7 := bR7.lt
  clear hb7 hc6 hl6 bR6
  go_wp2_with fail
  refine (parted_any _ _ 0 [0] M0 _ (HG7.out.below ((Below.refl _ _).alloc (Nat.le_refl _) _)) (Rd.litN (n := 1) (sz := 1) rfl (by omega))).mono ?_
  rintro e w8 ⟨⟨r, rfl, hr⟩, hbx⟩
  obtain rfl := hr.one m0_parted
  have hb8 := below_alloc hbx (Nat.le_refl _)
  have bR8 := Boxed_below bR7 hb8
  have HG8 := Lib.hid (HG7.out.below hb8)
  have HB8 := Lib.hid (Below.thn HB7.out hb8)
  have hc8 := bR8.cell
  have hl8 := bR8.lt
  clear hbx hb8 hc7 hl7 bR7 hr
  go_wp2_with fail
  refine (parted_any _ _ 2 [0] M0 _ (HG8.out.below ((Below.refl _ _).alloc (Nat.le_refl _) _)) (Rd.litN (n := 1) (sz := 1) rfl (by omega))).mono ?_
  rintro e w9 ⟨⟨r, rfl, hr⟩, hbx⟩
  obtain rfl := hr.one m0_parted2
  have hb9 := below_alloc hbx (Nat.le_refl _)
  have bR9 := Boxed_below bR8 hb9
  have HG9 := Lib.hid (HG8.out.below hb9)
  have HB9 := Lib.hid (Below.thn HB8.out hb9)
  have hc9 := bR9.cell
  have hl9 := bR9.lt
  clear hbx hb9 hc8 hl8 bR8 hr
  go_wp2_with fail
  refine (all_any _ _ 3 [] M0 _ HG9.out (Rd.nil _ _)).mono ?_
  rintro e w10 ⟨rfl, hb10⟩
  rw [m0_all]
  go_wp2_with fail
  exact hR'.out _ _ ⟨rfl, Below.thn HB9.out hb10⟩

end Go.Proofs.Ytfalckgdhhgfaaa
