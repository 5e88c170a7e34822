/- The chapter's examples of layer 1 hold: works() answers true. -/
import Derived.Test.YtfffohhcabcefaaLaw01A
namespace Go.Proofs.Ytfffohhcabcefaa
open Go.RowKit

theorem rlit1 {w : World} {a e : Nat} : Rd (w.alloc (.cells #[.int .u32 (a : Int)] e)) 1 (.slice (some ⟨w.heap.size, 0, none⟩) 1 1) 1 (ints .u32 [a]) := Rd.lit1 rfl
theorem rlit1' {w : World} {a e k : Nat} (h : k = w.heap.size) : Rd (w.alloc (.cells #[.int .u32 (a : Int)] e)) 1 (.slice (some ⟨k, 0, none⟩) 1 1) 1 (ints .u32 [a]) := by subst h; exact Rd.lit1 rfl
theorem rlit2' {w : World} {a b e k : Nat} (h : k = w.heap.size) : Rd (w.alloc (.cells #[.int .u32 (a : Int), .int .u32 (b : Int)] e)) 1 (.slice (some ⟨k, 0, none⟩) 2 2) 2 (ints .u32 [a, b]) := by subst h; exact Rd.lit2 rfl rfl
theorem below_alloc {w w' : World} {B : Nat} {o : Obj} (h : Below (w.alloc o).heap.size (w.alloc o) w') (hB : B ≤ w.heap.size) : Below B w w' := ((Below.refl B w).alloc hB o).trans (h.mono (by simp; omega))
theorem below_alloc2 {w w' : World} {B : Nat} {o o' : Obj} (h : Below ((w.alloc o).alloc o').heap.size ((w.alloc o).alloc o') w') (hB : B ≤ w.heap.size) : Below B w w' := (((Below.refl B w).alloc hB o).alloc (by simp; omega) o').trans (h.mono (by simp; omega))
theorem own_row {w : World} {B X : Nat} {v : Value} {n : Nat} (xs : List Nat) (h : w.ownsRow B 23 1 v (limbs X).length (ints .u32 (limbs X))) (e : limbs X = xs) (hn : xs.length = n) : Rd w 1 v n (ints .u32 xs) := by
  subst hn; rw [← e]; exact Rd.own h

set_option maxHeartbeats 4000000 in
theorem works_any (w : World) : Calls Try.prog 8 #[] w fun e w' => e = .returned (.bool true) ∧ Below w.heap.size w w' := by
  refine walk_q fun R' hR' => ?_
  go_enter Try.func8, Try.ntmps8
  -- 1
  go_wp2_with fail
  refine (sub_any _ _ 2 1 [0, 1] [1] _ (Rd.alloc (rlit2' rfl) _) (rlit1' (by simp)) (Lim.two (by omega) (by omega)) (Lim.one (by omega)) (by omega)).mono ?_
  rintro e w1 ⟨⟨h, _⟩ | ⟨_, v1, rfl, hown⟩, hb⟩
  · simp [nval, val] at h
  have H1 := Lib.hid (own_row (n := 1) [4294967295] hown (limbs_lit _ (by decide) (Lim.one (by omega)) (by decide)) rfl)
  have HB := Lib.hid (below_alloc2 hb (Nat.le_refl _))
  clear hown hb
  -- 2
  go_wp2_with fail
  refine (sub_any _ _ 1 1 [1] [2] _ (Rd.alloc (rlit1' rfl) _) (rlit1' (by simp)) (Lim.one (by omega)) (Lim.one (by omega)) (by omega)).mono ?_
  rintro e w2 ⟨⟨_, rfl⟩ | ⟨h, _⟩, hb⟩
  rotate_left
  · simp [nval, val] at h
  have hb' := below_alloc2 hb (Nat.le_refl _)
  have H1a := Lib.hid (H1.out.below hb')
  have HBa := Lib.hid (HB.out.trans (hb'.mono HB.out.size))
  clear hb hb' H1 HB
  -- 3
  go_wp2_with fail
  refine (divSmall_any _ 2 10 [0, 1] _ (rlit2' rfl) (Lim.two (by omega) (by omega)) (by omega) (by omega)).mono ?_
  rintro e w3 ⟨⟨h, _⟩ | ⟨_, v3, rfl, hown⟩, hb⟩
  · omega
  rw [show nval [0, 1] % 10 = 6 by decide]
  have H3 := Lib.hid (own_row (n := 1) [429496729] hown (limbs_lit _ (by decide) (Lim.one (by omega)) (by decide)) rfl)
  have hb' := below_alloc hb (Nat.le_refl _)
  have H1b := Lib.hid (H1a.out.below hb')
  have HBb := Lib.hid (HBa.out.trans (hb'.mono HBa.out.size))
  clear hb hb' H1a HBa hown
  -- 4
  go_wp2_with fail
  refine (shift_any _ 1 1 33 [1] _ (rlit1' rfl) (Lim.one (by omega)) rfl (by omega) (by omega) (by omega)).mono ?_
  rintro e w4 ⟨⟨_, h, _⟩ | ⟨_, v4, rfl, hown⟩, hb⟩
  · omega
  have H4 := Lib.hid (own_row (n := 2) [0, 2] hown (limbs_lit _ (by decide) (Lim.two (by omega) (by omega)) (by decide)) rfl)
  have hb' := below_alloc hb (Nat.le_refl _)
  have H1c := Lib.hid (H1b.out.below hb')
  have H3c := Lib.hid (H3.out.below hb')
  have HBc := Lib.hid (HBb.out.trans (hb'.mono HBb.out.size))
  clear hb hb' H1b HBb hown H3
  -- 5
  go_wp2_with fail
  refine (shift_any _ 2 (2 + 4294967296 * 3) (-33) [2, 3] _ (rlit2' rfl) (Lim.two (by omega) (by omega)) rfl (by omega) (by omega) (by omega)).mono ?_
  rintro e w5 ⟨⟨_, h, _⟩ | ⟨_, v5, rfl, hown⟩, hb⟩
  · omega
  have H5 := Lib.hid (own_row (n := 1) [1] hown (limbs_lit _ (by decide) (Lim.one (by omega)) (by decide)) rfl)
  have hb' := below_alloc hb (Nat.le_refl _)
  have H1d := Lib.hid (H1c.out.below hb')
  have H3d := Lib.hid (H3c.out.below hb')
  have H4d := Lib.hid (H4.out.below hb')
  have HBd := Lib.hid (HBc.out.trans (hb'.mono HBc.out.size))
  clear hb hb' H1c HBc hown H3c H4
  -- 6
  go_wp2_with fail
  refine (add_any _ _ 1 1 [4294967295] [1] _ (Rd.alloc (rlit1' rfl) _) (rlit1' (by simp)) (Lim.one (by omega)) (Lim.one (by omega)) (by omega) (by omega)).mono ?_
  rintro e w6 ⟨v6, rfl, hown, hb⟩
  have H6 := Lib.hid (own_row (n := 2) [0, 1] hown (limbs_lit _ (by decide) (Lim.two (by omega) (by omega)) (by decide)) rfl)
  have hb' := below_alloc2 hb (Nat.le_refl _)
  have H1e := Lib.hid (H1d.out.below hb')
  have H3e := Lib.hid (H3d.out.below hb')
  have H4e := Lib.hid (H4d.out.below hb')
  have H5e := Lib.hid (H5.out.below hb')
  have HBe := Lib.hid (HBd.out.trans (hb'.mono HBd.out.size))
  clear hb hb' H1d HBd hown H3d H4d H5
  -- same H6
  go_wp2_with fail
  refine (same_any _ _ 2 [0, 1] _ (H6.out.alloc _) (rlit2' (by first | rfl | simp))).mono ?_
  rintro e w70 ⟨rfl, hb⟩
  have hb' := below_alloc hb (Nat.le_refl _)
  have H1x0 := Lib.hid (H1e.out.below hb')
  have H3x0 := Lib.hid (H3e.out.below hb')
  have H4x0 := Lib.hid (H4e.out.below hb')
  have H5x0 := Lib.hid (H5e.out.below hb')
  have HBx0 := Lib.hid (HBe.out.trans (hb'.mono HBe.out.size))
  clear hb hb' H6 H1e H3e H4e H5e HBe
  -- same H1
  go_wp2_with fail
  refine (same_any _ _ 1 [4294967295] _ (H1x0.out.alloc _) (rlit1' (by first | rfl | simp))).mono ?_
  rintro e w71 ⟨rfl, hb⟩
  have hb' := below_alloc hb (Nat.le_refl _)
  have H3x1 := Lib.hid (H3x0.out.below hb')
  have H4x1 := Lib.hid (H4x0.out.below hb')
  have H5x1 := Lib.hid (H5x0.out.below hb')
  have HBx1 := Lib.hid (HBx0.out.trans (hb'.mono HBx0.out.size))
  clear hb hb' H1x0 H3x0 H4x0 H5x0 HBx0
  -- same H3
  go_wp2_with fail
  refine (same_any _ _ 1 [429496729] _ (H3x1.out.alloc _) (rlit1' (by first | rfl | simp))).mono ?_
  rintro e w72 ⟨rfl, hb⟩
  have hb' := below_alloc hb (Nat.le_refl _)
  have H4x2 := Lib.hid (H4x1.out.below hb')
  have H5x2 := Lib.hid (H5x1.out.below hb')
  have HBx2 := Lib.hid (HBx1.out.trans (hb'.mono HBx1.out.size))
  clear hb hb' H3x1 H4x1 H5x1 HBx1
  -- same H4
  go_wp2_with fail
  refine (same_any _ _ 2 [0, 2] _ (H4x2.out.alloc _) (rlit2' (by first | rfl | simp))).mono ?_
  rintro e w73 ⟨rfl, hb⟩
  have hb' := below_alloc hb (Nat.le_refl _)
  have H5x3 := Lib.hid (H5x2.out.below hb')
  have HBx3 := Lib.hid (HBx2.out.trans (hb'.mono HBx2.out.size))
  clear hb hb' H4x2 H5x2 HBx2
  -- same H5
  go_wp2_with fail
  refine (same_any _ _ 1 [1] _ (H5x3.out.alloc _) (rlit1' (by first | rfl | simp))).mono ?_
  rintro e w74 ⟨rfl, hb⟩
  have hb' := below_alloc hb (Nat.le_refl _)
  have HBx4 := Lib.hid (HBx3.out.trans (hb'.mono HBx3.out.size))
  clear hb hb' H5x3 HBx3
  go_wp2_with fail
  refine (bits_any _ 2 [0, 1] _ (rlit2' rfl) (Lim.two (by omega) (by omega)) (by omega)).mono ?_
  rintro e w9 ⟨rfl, hb⟩
  rw [show blen (nval [0, 1]) = 33 by decide]
  have hb' := below_alloc hb (Nat.le_refl _)
  go_wp2_with fail
  exact hR'.out _ _ ⟨rfl, HBx4.out.trans (hb'.mono HBx4.out.size)⟩

end Go.Proofs.Ytfffohhcabcefaa
