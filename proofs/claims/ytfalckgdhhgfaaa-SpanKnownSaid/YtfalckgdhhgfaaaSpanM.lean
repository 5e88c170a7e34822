/- What the closed statement SpanKnown computes: true. -/
import Derived.Test.YtfalckgdhhgfaaaSpanJ
import Derived.Test.YtfalckgdhhgfaaaSpanL
namespace Go.Proofs.Ytfalckgdhhgfaaa
open Go.RowKit

theorem addw' (y : Int) (h : -2 ≤ y ∧ y < 9223372036854775807) : IntKind.i64.wrap (y + 1) = y + 1 := IntWalk.i64_in _ (by omega)
theorem lit_at {w : World} {cs : Array Value} {e n k : Nat} (hk : k = w.heap.size) (hn : cs.size = n * 1) (hm : n ≤ 9223372036854775807) : Rd (w.alloc (.cells cs e)) 1 (.slice (some ⟨k, 0, none⟩) n n) n cs.toList := by
  subst hk; exact Rd.litN hn hm
theorem pow_small {n : Nat} (h : n ≤ 6) : ∃ P : Nat, P ≤ 64 ∧ wrap64 ((2 : Int) ^ n) = (P : Int) := by
  have : n = 0 ∨ n = 1 ∨ n = 2 ∨ n = 3 ∨ n = 4 ∨ n = 5 ∨ n = 6 := by omega
  rcases this with rfl | rfl | rfl | rfl | rfl | rfl | rfl
  · exact ⟨1, by omega, by first | rfl | (simp [wrap64]; done) | decide⟩
  · exact ⟨2, by omega, by first | rfl | (simp [wrap64]; done) | decide⟩
  · exact ⟨4, by omega, by first | rfl | (simp [wrap64]; done) | decide⟩
  · exact ⟨8, by omega, by first | rfl | (simp [wrap64]; done) | decide⟩
  · exact ⟨16, by omega, by first | rfl | (simp [wrap64]; done) | decide⟩
  · exact ⟨32, by omega, by first | rfl | (simp [wrap64]; done) | decide⟩
  · exact ⟨64, by omega, by first | rfl | (simp [wrap64]; done) | decide⟩

def M1 : List (List Bool) := [[true, false], [], [true, true, true], [false, true]]
theorem m1_grid (w : World) : RdGrid ((((w.alloc (.cells #[.bool true, .bool false] 4)).alloc (.cells #[.bool true, .bool true, .bool true] 4)).alloc (.cells #[.bool false, .bool true] 4)).alloc (.cells #[.slice (some ⟨w.heap.size, 0, none⟩) 2 2, .slice none 0 0, .slice (some ⟨w.heap.size + 1, 0, none⟩) 3 3, .slice (some ⟨w.heap.size + 1 + 1, 0, none⟩) 2 2] 35))
    (.slice (some ⟨w.heap.size + 1 + 1 + 1, 0, none⟩) 4 4) M1 := by
  have b1 := (((Rd.lit (w := w) (cs := #[.bool true, .bool false]) (e := 4) (n := 2) rfl (by omega)).alloc (.cells #[.bool true, .bool true, .bool true] 4)).alloc (.cells #[.bool false, .bool true] 4)).alloc (.cells #[.slice (some ⟨w.heap.size, 0, none⟩) 2 2, .slice none 0 0, .slice (some ⟨w.heap.size + 1, 0, none⟩) 3 3, .slice (some ⟨w.heap.size + 1 + 1, 0, none⟩) 2 2] 35)
  have b2 := ((Rd.lit (w := w.alloc (.cells #[.bool true, .bool false] 4)) (cs := #[.bool true, .bool true, .bool true]) (e := 4) (n := 3) rfl (by omega)).alloc (.cells #[.bool false, .bool true] 4)).alloc (.cells #[.slice (some ⟨w.heap.size, 0, none⟩) 2 2, .slice none 0 0, .slice (some ⟨w.heap.size + 1, 0, none⟩) 3 3, .slice (some ⟨w.heap.size + 1 + 1, 0, none⟩) 2 2] 35)
  have b3 := (Rd.lit (w := (w.alloc (.cells #[.bool true, .bool false] 4)).alloc (.cells #[.bool true, .bool true, .bool true] 4)) (cs := #[.bool false, .bool true]) (e := 4) (n := 2) rfl (by omega)).alloc (.cells #[.slice (some ⟨w.heap.size, 0, none⟩) 2 2, .slice none 0 0, .slice (some ⟨w.heap.size + 1, 0, none⟩) 3 3, .slice (some ⟨w.heap.size + 1 + 1, 0, none⟩) 2 2] 35)
  have h := Rd.lit (w := ((w.alloc (.cells #[.bool true, .bool false] 4)).alloc (.cells #[.bool true, .bool true, .bool true] 4)).alloc (.cells #[.bool false, .bool true] 4)) (cs := #[.slice (some ⟨w.heap.size, 0, none⟩) 2 2, .slice none 0 0, .slice (some ⟨w.heap.size + 1, 0, none⟩) 3 3, .slice (some ⟨w.heap.size + 1 + 1, 0, none⟩) 2 2]) (e := 35) (n := 4) rfl (by omega)
  simp only [World.size_alloc] at b2 b3 h
  refine grid_rows h fun i r hi => ?_
  match i, hi with
  | 0, hi => cases hi; exact ⟨_, rfl, b1⟩
  | 1, hi => cases hi; exact ⟨_, rfl, Rd.nil _ _⟩
  | 2, hi => cases hi; exact ⟨_, rfl, b2⟩
  | 3, hi => cases hi; exact ⟨_, rfl, b3⟩
  | n + 4, hi => simp [M1] at hi

set_option maxRecDepth 100000 in
set_option maxHeartbeats 4000000 in
theorem spanKnown_any (w : World) : Calls Try.prog 4 #[] w fun x w' => x = .returned (.bool true) ∧ Below w.heap.size w w' := by
  obtain ⟨i0, hi, hz0, hz1, hz2⟩ := info_parts infoBools
  refine walk_q fun R' hR' => ?_
  go_enter Try.func4, Try.ntmps4
  go_wp2_with fail
  go_loopw [1] (fun nv wr => ∃ n : Nat, n ≤ 7 ∧ nv = .int .i64 (n : Int) ∧ Below w.heap.size w wr) (fun nv _ => 7 - (intOf nv).toNat)
  case atStart => exact ⟨0, by omega, rfl, Below.refl _ _⟩
  case round =>
    obtain ⟨n, hn, rfl, hb⟩ := hrel
    have HB := Lib.hid hb
    clear hb
    by_cases hn7 : n ≤ 6
    · have hdn : decide ((n : Int) ≤ 6) = true := decide_eq_true (by omega)
      go_wp2_with fail
      obtain ⟨w1, hw1⟩ : ∃ w1 : World, w1 = wr := ⟨_, rfl⟩
      go_loopw [2] (fun bv wr' => ∃ b : Nat, b ≤ 1000 ∧ bv = .int .i64 (b : Int) ∧ Below w.heap.size w wr') (fun bv _ => 1000 - (intOf bv).toNat)
      case atStart => exact ⟨0, by omega, rfl, HB.out⟩
      case round =>
        obtain ⟨b, hb1, rfl, hb⟩ := hrel
        obtain ⟨P, hP, hPe⟩ := pow_small hn7
        have HB2 := Lib.hid hb
        clear hb
        by_cases hbP : b < P
        · have hdb : decide ((b : Int) < (P : Int)) = true := decide_eq_true (by omega)
          go_wp2_with fail
          rw [hPe]
          go_loopw [3, 4] (fun mv iv wr' => ∃ (k : Nat) (M : List (List Bool)), k ≤ n ∧ M.length = k ∧ iv = .int .i64 (k : Int) ∧ GridOwn w.heap.size wr' mv M ∧ Below w.heap.size w wr') (fun _ iv _ => n - (intOf iv).toNat)
          case atStart => exact ⟨0, [], by omega, rfl, rfl, GridOwn.nil _ _, HB2.out⟩
          case round =>
            obtain ⟨k, M, hk, hMk, rfl, hgr, hb⟩ := hrel
            have HGR := Lib.hid hgr
            have HB3 := Lib.hid hb
            have hws := hb.size
            clear hgr hb
            by_cases hkn : k < n
            · obtain ⟨hs, hs1, hs2⟩ := HGR.out
              go_wp2_with (at_builtin; generalize hbb : (((b : Int) / 2 ^ k).tmod 2 == 1) = bb; refine wpList_append_rd ((wr.alloc (.cells #[.bool bb] 4)).alloc _) rfl _ _ 22 rfl w.heap.size 35 i0 (.slice none 0 0) 1 24 Try.underlying22 hi hz0 hz1 hz2 rfl (by decide) u3 M.length hs rfl ((hs1.alloc _).alloc _) _ 1 [.slice (some ⟨wr.heap.size, 0, none⟩) 1 1] rfl (lit_at (by simp) rfl (by omega)) (by simp [Value.oneCell']) (by unfold maxLen; omega) (by omega) (by simp; omega) ?_; intro v2 w2 hown2 hgr2)
              have hu : (wr.alloc (.cells #[.bool bb] 4)).ownsRow w.heap.size 4 1 (.slice (some ⟨wr.heap.size, 0, none⟩) 1 1) 1 (bools [bb]) := own_full wr w.heap.size 1 4 #[.bool bb] hws rfl (by omega)
              have hgs := GridOwn.snoc (r := [bb]) (hs1.alloc (.cells #[.bool bb] 4)) (fun i r hi => by obtain ⟨u, h1, h2⟩ := hs2 i r hi; exact ⟨u, h1, h2.alloc _⟩) hu hown2 rfl hgr2
              have hbs : Below w.heap.size w w2 := (((HB3.out.alloc hws _).alloc (by simp; omega) _).grown hgr2 (by simp; omega) fun j hj => (hs1.lt j hj).1)
              have HGS := Lib.hid hgs
              have HBS := Lib.hid hbs
              clear hgs hbs hown2 hgr2 hu hs1 hs2 hbb
              go_wp2_with fail
              go_roundw
              case rel => first | exact ⟨k + 1, M ++ [[bb]], by omega, by simp [hMk], by go_num, HGS.out, HBS.out⟩ | ((repeat apply Exists.intro); exact ⟨⟨k + 1, M ++ [[bb]], by omega, by simp [hMk], by go_num, HGS.out, HBS.out⟩, rfl⟩)
              case measure => simp [intOf]; omega
            · obtain rfl : k = n := by omega
              have HRD := Lib.hid HGR.out.rd
              clear HGR
              go_wp2_with fail
              obtain ⟨wo, rfl⟩ : ∃ wo : World, wo = wr := ⟨_, rfl⟩
              go_loopw [5] (fun iv wr' => ∃ z : Int, -1 ≤ z ∧ z ≤ (k : Int) + 1 ∧ iv = .int .i64 z ∧ Below wo.heap.size wo wr') (fun iv _ => ((k : Int) + 1 - intOf iv).toNat)
              case atStart => exact ⟨-1, by omega, by omega, rfl, Below.refl _ _⟩
              case round =>
                obtain ⟨z, hz1, hz2, rfl, hb⟩ := hrel
                have HB4 := Lib.hid hb
                have HRD4 := Lib.hid (HRD.out.below hb)
                clear hb
                by_cases hzk : z ≤ (k : Int)
                · have hwz := addw z (by omega)
                  go_wp2_with fail
                  refine (spanTells_any _ _ z 0 M [0] _ (HRD4.out.below ((Below.refl _ _).alloc (Nat.le_refl _) _)) (Rd.litN (n := 1) (sz := 1) rfl (by omega))).mono ?_
                  rintro x w5 ⟨rfl, hbx⟩
                  have HB5 := Lib.hid (HB4.out.trans (below_alloc hbx HB4.out.size))
                  clear hbx
                  go_wp2_with fail
                  go_roundw
                  case rel => first | exact ⟨z + 1, by omega, by omega, rfl, HB5.out⟩ | ((repeat apply Exists.intro); exact ⟨⟨z + 1, by omega, by omega, rfl, HB5.out⟩, rfl⟩)
                  case measure => simp [intOf]; omega
                · obtain rfl : z = (k : Int) + 1 := by omega
                  go_wp2_with fail
                  refine (spanParts_any _ 0 M _ HRD4.out).mono ?_
                  rintro x w5 ⟨rfl, hbx⟩
                  have HB5 := Lib.hid (HB3.out.trans ((Below.thn HB4.out hbx).mono hws))
                  clear hbx
                  go_wp2_with fail
                  go_roundw
                  case rel => first | exact ⟨b + 1, by omega, by go_num, HB5.out⟩ | ((repeat apply Exists.intro); exact ⟨⟨b + 1, by omega, by go_num, HB5.out⟩, rfl⟩)
                  case measure => simp [intOf]; omega
        · go_wp2_with fail
          go_roundw
          case rel => exact ⟨n + 1, by omega, by go_num, HB2.out⟩
          case measure => simp [intOf]; omega
    · obtain rfl : n = 7 := by omega
      go_wp2_with fail
      have hg1 := m1_grid wr
      have hb1 := ((((Below.refl wr.heap.size wr).alloc (Nat.le_refl _) (.cells #[.bool true, .bool false] 4)).alloc (by simp) (.cells #[.bool true, .bool true, .bool true] 4)).alloc (by simp; omega) (.cells #[.bool false, .bool true] 4)).alloc (by simp; omega) (.cells #[.slice (some ⟨wr.heap.size, 0, none⟩) 2 2, .slice none 0 0, .slice (some ⟨wr.heap.size + 1, 0, none⟩) 3 3, .slice (some ⟨wr.heap.size + 1 + 1, 0, none⟩) 2 2] 35)
      have HB1 := Lib.hid (HB.out.trans (hb1.mono HB.out.size))
      clear hb1
      obtain ⟨w1, hw1⟩ : ∃ w1, World.alloc (World.alloc (World.alloc (World.alloc wr (.cells #[.bool true, .bool false] 4)) (.cells #[.bool true, .bool true, .bool true] 4)) (.cells #[.bool false, .bool true] 4)) (.cells #[.slice (some ⟨wr.heap.size, 0, none⟩) 2 2, .slice none 0 0, .slice (some ⟨wr.heap.size + 1, 0, none⟩) 3 3, .slice (some ⟨wr.heap.size + 1 + 1, 0, none⟩) 2 2] 35) = w1 := ⟨_, rfl⟩
      rw [hw1] at hg1 HB1 ⊢
      clear hw1
      have HG1 := Lib.hid hg1
      clear hg1
      go_loopw [7] (fun yv wr' => ∃ z : Int, -2 ≤ z ∧ z ≤ 6 ∧ yv = .int .i64 z ∧ Below w1.heap.size w1 wr') (fun yv _ => (6 - intOf yv).toNat)
      case atStart => exact ⟨-2, by omega, by omega, rfl, Below.refl _ _⟩
      case round =>
        obtain ⟨z, hz1, hz2, rfl, hb⟩ := hrel
        have HB2 := Lib.hid hb
        clear hb
        by_cases hz6 : z < 6
        · have hdz : decide (z < 6) = true := decide_eq_true hz6
          have hwz := addw' z (by omega)
          go_wp2_with fail
          go_loopw [8] (fun ev wr' => ∃ e : Int, -2 ≤ e ∧ e ≤ 5 ∧ ev = .int .i64 e ∧ Below w1.heap.size w1 wr') (fun ev _ => (5 - intOf ev).toNat)
          case atStart => exact ⟨-2, by omega, by omega, rfl, HB2.out⟩
          case round =>
            obtain ⟨e, he1, he2, rfl, hb⟩ := hrel
            have HB3 := Lib.hid hb
            have HG3 := Lib.hid (HG1.out.below hb)
            clear hb
            by_cases he5 : e < 5
            · have hwe := addw' e (by omega)
              go_wp2_with fail
              refine (spanTells_any _ _ z e M1 [e, 0, 1] _ (HG3.out.below ((Below.refl _ _).alloc (Nat.le_refl _) _)) (Rd.litN (n := 3) (sz := 1) rfl (by omega))).mono ?_
              rintro x w5 ⟨rfl, hbx⟩
              have hb5 := below_alloc hbx (Nat.le_refl _)
              have HG5 := Lib.hid (HG3.out.below hb5)
              have HB5 := Lib.hid (Below.thn HB3.out hb5)
              clear hbx hb5
              go_wp2_with fail
              refine (spanTells_any _ _ z e M1 [] _ HG5.out (Rd.nil _ _)).mono ?_
              rintro x w6 ⟨rfl, hb6⟩
              have HG6 := Lib.hid (HG5.out.below hb6)
              have HB6 := Lib.hid (Below.thn HB5.out hb6)
              clear hb6
              go_wp2_with fail
              refine (spanParts_any _ e M1 _ HG6.out).mono ?_
              rintro x w7 ⟨rfl, hb7⟩
              have HB7 := Lib.hid (Below.thn HB6.out hb7)
              clear hb7
              go_wp2_with fail
              go_roundw
              case rel => first | exact ⟨e + 1, by omega, by omega, rfl, HB7.out⟩ | ((repeat apply Exists.intro); exact ⟨⟨e + 1, by omega, by omega, rfl, HB7.out⟩, rfl⟩)
              case measure => simp [intOf]; omega
            · obtain rfl : e = 5 := by omega
              go_wp2_with fail
              go_roundw
              case rel => first | exact ⟨z + 1, by omega, by omega, rfl, HB3.out⟩ | ((repeat apply Exists.intro); exact ⟨⟨z + 1, by omega, by omega, rfl, HB3.out⟩, rfl⟩)
              case measure => simp [intOf]; omega
        · obtain rfl : z = 6 := by omega
          go_wp2_with fail
          refine (spanTells_any _ _ 0 0 [] [] _ ⟨[], Rd.nil _ _, fun i r h => by simp at h⟩ (Rd.nil _ _)).mono ?_
          rintro x w5 ⟨rfl, hb5⟩
          have HB5 := Lib.hid (Below.thn HB2.out hb5)
          clear hb5
          go_wp2_with fail
          refine (spanParts_any _ 0 [] _ ⟨[], Rd.nil _ _, fun i r h => by simp at h⟩).mono ?_
          rintro x w6 ⟨rfl, hb6⟩
          have HB6 := Lib.hid (Below.thn HB5.out hb6)
          clear hb6
          go_wp2_with fail
          refine (works_any _).mono ?_
          rintro x w7 ⟨rfl, hb7⟩
          go_wp2_with fail
          exact hR'.out _ _ ⟨rfl, HB1.out.trans ((Below.thn HB6.out hb7).mono HB1.out.size)⟩

end Go.Proofs.Ytfalckgdhhgfaaa
