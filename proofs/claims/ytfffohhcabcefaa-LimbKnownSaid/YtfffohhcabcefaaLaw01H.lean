/- The statement LimbKnown of layer 1: walked (the other statements' walks serve at its calls). -/
import Derived.Test.YtfffohhcabcefaaLaw01F
import Derived.Deep.RegionHeld3
namespace Go.Proofs.Ytfffohhcabcefaa
open Go.RowKit

theorem rlit3' {w : World} {a b c e k : Nat} (h : k = w.heap.size) : Rd (w.alloc (.cells #[.int .u32 (a : Int), .int .u32 (b : Int), .int .u32 (c : Int)] e)) 1 (.slice (some ⟨k, 0, none⟩) 3 3) 3 (ints .u32 [a, b, c]) := by
  subst h; exact Rd.lit rfl (by omega)
theorem rlit4' {w : World} {a b c d e k : Nat} (h : k = w.heap.size) : Rd (w.alloc (.cells #[.int .u32 (a : Int), .int .u32 (b : Int), .int .u32 (c : Int), .int .u32 (d : Int)] e)) 1 (.slice (some ⟨k, 0, none⟩) 4 4) 4 (ints .u32 [a, b, c, d]) := by
  subst h; exact Rd.lit rfl (by omega)
theorem RdRows.none_ (w : World) : RdRows w (.slice none 0 0) [] := ⟨[], Rd.nil w 1, fun i xs h => by simp at h⟩
theorem RdRows.three {w : World} {g : Nat} {u v z : Value} {xs ys zs : List Nat} {t : Nat} {fr : Nat × Nat} (h : w.heap[g]? = some (.cells #[u, v, z] t fr)) (hx : Rd w 1 u xs.length (ints .u32 xs)) (hy : Rd w 1 v ys.length (ints .u32 ys)) (hz : Rd w 1 z zs.length (ints .u32 zs)) :
    RdRows w (.slice (some ⟨g, 0, none⟩) 3 3) [xs, ys, zs] := by
  refine ⟨[u, v, z], ⟨_, 3, rfl, Nat.le_refl _, by simp [maxLen], rfl, fun _ => ⟨g, 0, rfl, fun j y hj => ?_⟩⟩, fun i ws hi => ?_⟩
  · match j, hj with
    | 0, hj => simp at hj; subst hj; simp [World.cell?, h]
    | 1, hj => simp at hj; subst hj; simp [World.cell?, h]
    | 2, hj => simp at hj; subst hj; simp [World.cell?, h]
  · match i, hi with
    | 0, hi => simp at hi; subst hi; exact ⟨u, rfl, hx⟩
    | 1, hi => simp at hi; subst hi; exact ⟨v, rfl, hy⟩
    | 2, hi => simp at hi; subst hi; exact ⟨z, rfl, hz⟩
def knownLimbs : List Nat := [0, 1, 2, 3, 10, 65535, 65536, 65537, 2147483647, 2147483648, 4294967294, 4294967295]
theorem knownLimbs_lim : Lim knownLimbs := by
  intro x hx
  simp [knownLimbs] at hx
  omega
theorem Lim.four {a b : Nat} (h : a < 4294967296) (h' : b < 4294967296) : Lim [a, b, 0, 0] := Lim.cons h (Lim.cons h' (Lim.two (by omega) (by omega)))
theorem rows_lim3 {a b : Nat} (h : a < 4294967296) (h' : b < 4294967296) : ∀ zs ∈ [[a, b], [b], [b, a, 0, 0]], Lim zs := by
  intro zs hz
  simp at hz
  rcases hz with rfl | rfl | rfl
  · exact Lim.two h h'
  · exact Lim.one h'
  · exact Lim.four h' h
theorem rows_lim2 {a b : Nat} (h : a < 4294967296) (h' : b < 4294967296) : ∀ zs ∈ [[b, a, 0, 0], [b, a, 0, 0]], Lim zs := by
  intro zs hz
  simp at hz
  rcases hz with rfl | rfl
  · exact Lim.four h' h

def knownShifts : List Int := [-100, -65, -64, -63, -33, -32, -31, -1, 0, 1, 31, 32, 33, 63, 64, 65, 65537, 9223372036854775807, -9223372036854775808]
theorem knownShifts_at {j : Nat} (h : j < 19) : ∃ z : Int, (knownShifts.map (Value.int .i64))[j]? = some (.int .i64 z) ∧ -9223372036854775808 ≤ z ∧ z ≤ 9223372036854775807 := by
  have hl : j < knownShifts.length := h
  refine ⟨knownShifts[j], by simp [hl], ?_⟩
  have hm := List.getElem_mem hl
  generalize knownShifts[j] = z at hm
  simp [knownShifts] at hm
  omega
theorem Rd.at1 {w : World} {n c k : Nat} {p : Option Addr} {cs : List Value} {u : Value} (h : Rd w 1 (.slice p n c) n cs) (hk : k < n) (hu : cs[k]? = some u) : ∃ b off, p = some ⟨b, off, none⟩ ∧ w.cell? ⟨b, off + k, none⟩ = some u := by
  obtain ⟨p', c', hv, _, _, _, h4⟩ := h
  simp only [Value.slice.injEq, true_and] at hv
  obtain ⟨rfl, rfl⟩ := hv
  obtain ⟨b, off, hp, hc⟩ := h4 (by omega)
  exact ⟨b, off, hp, hc k u hu⟩
theorem shift_long (k : Nat) : limbs (shiftN 1 ((32 * k : Nat) : Int)) = List.replicate k 0 ++ [1] := by
  have h1 : shiftN 1 ((32 * k : Nat) : Int) = 1 * 4294967296 ^ k := by
    unfold shiftN
    rw [if_pos (by omega), Int.toNat_natCast, pow32]
  rw [h1, ← limbs_shift k (by omega), limbs_lit (X := 1) [1] (by decide) (Lim.one (by omega)) (by decide)]
theorem long_row {w : World} {B k : Nat} {v : Value} (h : w.ownsRow B 23 1 v (limbs (shiftN 1 ((32 * k : Nat) : Int))).length (ints .u32 (limbs (shiftN 1 ((32 * k : Nat) : Int))))) :
    ∃ g c, v = .slice (some ⟨g, 0, none⟩) (k + 1) c ∧ w.cell? ⟨g, k, none⟩ = some (.int .u32 ((1 : Nat) : Int)) := by
  rw [shift_long] at h
  simp only [List.length_append, List.length_replicate, List.length_singleton] at h
  obtain ⟨g, c, rfl, _, _⟩ := Own.formPos h (by omega)
  obtain ⟨x, hx, hc, _⟩ := Own.elemCell h (j := k) (by omega)
  have : x = 1 := by
    rw [List.getElem?_append_right (by simp)] at hx
    simpa using hx.symm
  subst this
  exact ⟨g, c, rfl, hc⟩
theorem below_drew_alloc {w w' : World} {o : Obj} (h : Below (w.alloc o).drew.heap.size (w.alloc o).drew w') : Below w.heap.size w w' := (((Below.refl _ _).alloc (Nat.le_refl _) o).drew).trans (h.mono (by simp))
theorem Lim.three {a b c : Nat} (h : a < 4294967296) (h' : b < 4294967296) (h'' : c < 4294967296) : Lim [a, b, c] := Lim.cons h (Lim.two h' h'')

set_option maxRecDepth 100000 in
set_option maxHeartbeats 8000000 in
theorem limbKnown_any (w : World) : Calls Try.prog 7 #[] w fun e w' => e = .returned (.bool true) ∧ Below w.heap.size w w' := by
  refine walk_q fun R' hR' => ?_
  go_enter Try.func7, Try.ntmps7
  go_wp2_with fail
  generalize hw1 : World.alloc w _ = w1
  have hb1 : Below w.heap.size w w1 := by rw [← hw1]; exact (Below.refl _ _).alloc (Nat.le_refl _) _
  have hrl : Rd w1 1 (.slice (some ⟨w.heap.size, 0, none⟩) 12 12) 12 (ints .u32 knownLimbs) := by rw [← hw1]; exact Rd.lit rfl (by omega)
  have HB1 := Lib.hid hb1
  have HRL := Lib.hid hrl
  clear hw1 hb1 hrl
  go_loopw [2] (fun iv wr => ∃ i : Nat, i ≤ 12 ∧ iv = .int .i64 (i : Int) ∧ Below w1.heap.size w1 wr) (fun iv _ => 12 - (intOf iv).toNat)
  case atStart => exact ⟨0, by omega, rfl, Below.refl _ _⟩
  case round =>
    obtain ⟨wo, rfl⟩ : ∃ wo : World, wo = wr := ⟨_, rfl⟩
    obtain ⟨i, hi, rfl, hbw⟩ := hrel
    have HBW := Lib.hid hbw
    clear hbw
    by_cases hi12 : i < 12
    · have hdi : decide ((i : Int) < 12) = true := by simp; omega
      go_wp2_with fail
      go_loopw [3] (fun kv wr => ∃ k : Nat, k ≤ 12 ∧ kv = .int .i64 (k : Int) ∧ Below w1.heap.size w1 wr) (fun kv _ => 12 - (intOf kv).toNat)
      case atStart => exact ⟨0, by omega, rfl, HBW.out⟩
      case round =>
        clear HBW
        obtain ⟨k, hk, rfl, hbw⟩ := hrel
        have HBW := Lib.hid hbw
        have HR := Lib.hid (HRL.out.below hbw)
        clear hbw
        by_cases hk12 : k < 12
        · obtain ⟨g1, o1, x, hp1, hg1, hxk, hcx⟩ := HR.out.cellAt hi12
          obtain ⟨g2, o2, y, hp2, hg2, hyk, hcy⟩ := HR.out.cellAt hk12
          simp only [Option.some.injEq, Addr.mk.injEq, and_true] at hp1 hp2
          obtain ⟨rfl, rfl⟩ := hp1
          obtain ⟨rfl, rfl⟩ := hp2
          rw [Nat.zero_add] at hcx hcy
          have hx4 := knownLimbs_lim.at hxk
          have hy4 := knownLimbs_lim.at hyk
          have hi0 : (0 : Int) ≤ (i : Int) := by omega
          have hi1 : (i : Int) < 12 := by omega
          have hk0 : (0 : Int) ≤ (k : Int) := by omega
          have hk1 : (k : Int) < 12 := by omega
          have HXK := Lib.hid hxk
          have HYK := Lib.hid hyk
          clear hxk hyk
          go_wp2_with fail
          go_region_held3 (fun w' => w'.cell? ⟨w.heap.size, i, none⟩ = some (.int .u32 (x : Int)) ∧ w'.cell? ⟨w.heap.size, k, none⟩ = some (.int .u32 (y : Int))) (first | exact ⟨hcx, hcy⟩ | go_keep) (fail)
          generalize hW : World.drew (World.alloc wr (.cells #[.int .u32 (x : Int), .int .u32 (y : Int)] 23)) = w2
          have hbb : Below wr.heap.size wr w2 := by rw [← hW]; exact ((Below.refl _ _).alloc (Nat.le_refl _) _).drew
          have HA2 : Hid (Rd w2 1 (.slice (some ⟨wr.heap.size, 0, none⟩) 2 2) 2 (ints .u32 [x, y])) := by show Rd ..; rw [← hW]; exact Rd.drew (rlit2' rfl)
          have hcx2 := Below.keeps hbb _ _ hcx
          have hcy2 := Below.keeps hbb _ _ hcy
          have HBW2 := Lib.hid (Below.thn HBW.out hbb)
          clear hbb hcx hcy HBW
          clear hW
          go_wp2_with fail
          generalize hW : World.alloc w2 (.cells #[.int .u32 (y : Int)] 23) = w3
          have hbb : Below w2.heap.size w2 w3 := by rw [← hW]; exact (Below.refl _ _).alloc (Nat.le_refl _) _
          have HB3 : Hid (Rd w3 1 (.slice (some ⟨w2.heap.size, 0, none⟩) 1 1) 1 (ints .u32 [y])) := by show Rd ..; rw [← hW]; exact rlit1' rfl
          have HA3 := Lib.hid (HA2.out.below hbb)
          have hcx3 := Below.keeps hbb _ _ hcx2
          have hcy3 := Below.keeps hbb _ _ hcy2
          have HBW3 := Lib.hid (Below.thn HBW2.out hbb)
          clear hbb hcx2 hcy2 HBW2 HA2 hW
          go_region_held3 (fun w' => w'.cell? ⟨w.heap.size, i, none⟩ = some (.int .u32 (x : Int)) ∧ w'.cell? ⟨w.heap.size, k, none⟩ = some (.int .u32 (y : Int))) (first | exact ⟨hcx3, hcy3⟩ | go_keep) (fail)
          generalize hW : World.drew (World.alloc w3 (.cells #[.int .u32 (y : Int), .int .u32 (x : Int), .int .u32 0, .int .u32 0] 23)) = w4
          have hbb : Below w3.heap.size w3 w4 := by rw [← hW]; exact ((Below.refl _ _).alloc (Nat.le_refl _) _).drew
          have HC4 : Hid (Rd w4 1 (.slice (some ⟨w3.heap.size, 0, none⟩) 4 4) 4 (ints .u32 [y, x, 0, 0])) := by show Rd ..; rw [← hW]; exact Rd.drew (rlit4' rfl)
          have HA4 := Lib.hid (HA3.out.below hbb)
          have HB4 := Lib.hid (HB3.out.below hbb)
          have HBW4 := Lib.hid (Below.thn HBW3.out hbb)
          have HL4 := Lib.hid (HRL.out.below HBW4.out)
          have hcx4 := Below.keeps hbb _ _ hcx3
          have hcy4 := Below.keeps hbb _ _ hcy3
          clear hbb hcx3 hcy3 HBW3 HA3 HB3 hW HR
          go_wp2_with fail
          refine (limbSums_any _ _ _ 2 1 [x, y] [y] [[x, y], [y], [y, x, 0, 0]] _ (HA4.out.alloc _) (HB4.out.alloc _) (RdRows.three (heap_at rfl) (HA4.out.alloc _) (HB4.out.alloc _) (HC4.out.alloc _)) (Lim.two hx4 hy4) (Lim.one hy4) (rows_lim3 hx4 hy4)).mono ?_
          rintro e w5 ⟨rfl, hbx⟩
          have hb5 := below_alloc hbx (Nat.le_refl _)
          clear hbx
          have HA5 := Lib.hid (HA4.out.below hb5)
          have HB5 := Lib.hid (HB4.out.below hb5)
          have HC5 := Lib.hid (HC4.out.below hb5)
          have HBW5 := Lib.hid (Below.thn HBW4.out hb5)
          have hcx5 := Below.keeps hb5 _ _ hcx4
          have hcy5 := Below.keeps hb5 _ _ hcy4
          clear hb5 HA4 HB4 HC4 HBW4 hcx4 hcy4
          go_wp2_with fail
          refine (limbSums_any _ _ _ 1 2 [y] [x, y] [] _ HB5.out HA5.out (RdRows.none_ _) (Lim.one hy4) (Lim.two hx4 hy4) (fun _ h => by cases h)).mono ?_
          rintro e w6 ⟨rfl, hbx⟩
          have hb6 := hbx
          clear hbx
          have HA6 := Lib.hid (HA5.out.below hb6)
          have HB6 := Lib.hid (HB5.out.below hb6)
          have HC6 := Lib.hid (HC5.out.below hb6)
          have HBW6 := Lib.hid (Below.thn HBW5.out hb6)
          have hcx6 := Below.keeps hb6 _ _ hcx5
          have hcy6 := Below.keeps hb6 _ _ hcy5
          clear hb6 HA5 HB5 HC5 HBW5 hcx5 hcy5
          go_wp2_with fail
          refine (limbSums_any _ _ _ 4 2 [y, x, 0, 0] [x, y] [[y, x, 0, 0], [y, x, 0, 0]] _ (HC6.out.alloc _) (HA6.out.alloc _) (RdRows.two (heap_at rfl) (HC6.out.alloc _) (HC6.out.alloc _)) (Lim.four hy4 hx4) (Lim.two hx4 hy4) (rows_lim2 hx4 hy4)).mono ?_
          rintro e w7 ⟨rfl, hbx⟩
          have hb7 := below_alloc hbx (Nat.le_refl _)
          clear hbx
          have HA7 := Lib.hid (HA6.out.below hb7)
          have HB7 := Lib.hid (HB6.out.below hb7)
          have HC7 := Lib.hid (HC6.out.below hb7)
          have HBW7 := Lib.hid (Below.thn HBW6.out hb7)
          have hcx7 := Below.keeps hb7 _ _ hcx6
          have hcy7 := Below.keeps hb7 _ _ hcy6
          clear hb7 HA6 HB6 HC6 HBW6 hcx6 hcy6
          go_wp2_with fail
          refine (limbSmall_any _ 2 y [x, y] _ HA7.out (Lim.two hx4 hy4) hy4).mono ?_
          rintro e w8 ⟨rfl, hbx⟩
          have hb8 := hbx
          clear hbx
          have HA8 := Lib.hid (HA7.out.below hb8)
          have HB8 := Lib.hid (HB7.out.below hb8)
          have HC8 := Lib.hid (HC7.out.below hb8)
          have HBW8 := Lib.hid (Below.thn HBW7.out hb8)
          have hcx8 := Below.keeps hb8 _ _ hcx7
          have hcy8 := Below.keeps hb8 _ _ hcy7
          clear hb8 HA7 HB7 HC7 HBW7 hcx7 hcy7
          go_wp2_with fail
          refine (limbSmall_any _ 4 x [y, x, 0, 0] _ HC8.out (Lim.four hy4 hx4) hx4).mono ?_
          rintro e w9 ⟨rfl, hbx⟩
          have hb9 := hbx
          clear hbx
          have HA9 := Lib.hid (HA8.out.below hb9)
          have HB9 := Lib.hid (HB8.out.below hb9)
          have HC9 := Lib.hid (HC8.out.below hb9)
          have HBW9 := Lib.hid (Below.thn HBW8.out hb9)
          have hcx9 := Below.keeps hb9 _ _ hcx8
          have hcy9 := Below.keeps hb9 _ _ hcy8
          clear hb9 HA8 HB8 HC8 HBW8 hcx8 hcy8
          have hu : ((i : Int) * 7) = ((i * 7 : Nat) : Int) := by omega
          have HU := Lib.hid hu
          clear hu
          go_wp2_with fail
          rw [HU.out]
          refine (limbBack_any _ _ 2 4 y (i * 7) [x, y] [y, x, 0, 0] _ HA9.out HC9.out (Lim.two hx4 hy4) (Lim.four hy4 hx4) hy4 (by omega)).mono ?_
          rintro e w10 ⟨rfl, hb10⟩
          have HBW10 := Lib.hid (Below.thn HBW9.out hb10)
          clear hb10 HBW9 hcx9 hcy9 HA9 HB9 HC9
          go_wp2_with fail
          go_roundw
          case rel =>
            first
              | exact ⟨k + 1, by omega, by go_num, HBW10.out⟩
              | ((repeat apply Exists.intro); exact ⟨⟨k + 1, by omega, by go_num, HBW10.out⟩, rfl⟩)
          case measure => simp [intOf]; omega
        · obtain rfl : k = 12 := by omega
          go_wp2_with fail
          generalize hW : World.alloc wr _ = wn
          have hbn : Below wr.heap.size wr wn := by rw [← hW]; exact (Below.refl _ _).alloc (Nat.le_refl _) _
          have HN : Hid (Rd wn 1 (.slice (some ⟨wr.heap.size, 0, none⟩) 19 19) 19 (knownShifts.map (Value.int .i64))) := by show Rd ..; rw [← hW]; exact Rd.lit rfl (by omega)
          have HBN := Lib.hid (Below.thn HBW.out hbn)
          clear hW hbn HBW HR
          go_loopw [103] (fun jv wr => ∃ j : Nat, j ≤ 19 ∧ jv = .int .i64 (j : Int) ∧ Below wn.heap.size wn wr) (fun jv _ => 19 - (intOf jv).toNat)
          case atStart => exact ⟨0, by omega, rfl, Below.refl _ _⟩
          case round =>
            obtain ⟨wq, rfl⟩ : ∃ wq : World, wq = wr := ⟨_, rfl⟩
            obtain ⟨j, hj, rfl, hbw⟩ := hrel
            have HBW := Lib.hid (Below.thn HBN.out hbw)
            have HBQ := Lib.hid hbw
            by_cases hj19 : j < 19
            · obtain ⟨z, hz, hz0, hz1⟩ := knownShifts_at hj19
              obtain ⟨g1, o1, hp1, hcz⟩ := (HN.out.below hbw).at1 hj19 hz
              obtain ⟨g2, o2, x, hp2, hg2, hxk, hcx⟩ := (HRL.out.below HBW.out).cellAt hi12
              simp only [Option.some.injEq, Addr.mk.injEq, and_true] at hp1 hp2
              obtain ⟨rfl, rfl⟩ := hp1
              obtain ⟨rfl, rfl⟩ := hp2
              rw [Nat.zero_add] at hcx hcz
              have hx4 := knownLimbs_lim.at hxk
              have hi0 : (0 : Int) ≤ (i : Int) := by omega
              have hi1 : (i : Int) < 12 := by omega
              clear hxk hz hbw
              go_wp2_with fail
              go_region_held3 (fun w' => w'.cell? ⟨w.heap.size, i, none⟩ = some (.int .u32 (x : Int))) (first | exact hcx | go_keep | exact Below.keeps hbk _ _ (by assumption) | exact Below.keeps hbm _ _ (by assumption) | exact Below.keeps hbp _ _ (by assumption))
                ((first
                  | (go_at_call 4; refine (limbShift_any _ 1 z [x] _ (by first | exact Rd.drew (rlit1' (by simp)) | exact rlit1' (by simp)) (Lim.one hx4) hz0 hz1).mono ?_; rintro e wk ⟨rfl, hbk⟩)
                  | (go_at_call 4; refine (limbShift_any _ 3 z [x, 5, x] _ (by first | exact Rd.drew (rlit3' (by simp)) | exact rlit3' (by simp)) (Lim.three hx4 (by omega) hx4) hz0 hz1).mono ?_; rintro e wm ⟨rfl, hbm⟩)
                  | (go_at_call 4; refine (limbShift_any _ 2 z [0, x] _ (by first | exact Rd.drew (rlit2' (by simp)) | exact rlit2' (by simp)) (Lim.two (by omega) hx4) hz0 hz1).mono ?_; rintro e wp ⟨rfl, hbp⟩)))
              have c1 := below_drew_alloc hbk
              have c2 := below_alloc hbm (Nat.le_refl _)
              have c3 := below_alloc hbp (Nat.le_refl _)
              have HBR := Lib.hid (Below.thn HBQ.out (Below.thn c1 (Below.thn c2 c3)))
              clear c1 c2 c3 hbk hbm hbp
              go_wp2_with fail
              go_roundw
              case rel =>
                first
                  | exact ⟨j + 1, by omega, by go_num, HBR.out⟩
                  | ((repeat apply Exists.intro); exact ⟨⟨j + 1, by omega, by go_num, HBR.out⟩, rfl⟩)
              case measure => simp [intOf]; omega
            · obtain rfl : j = 19 := by omega
              go_wp2_with fail
              go_roundw
              case rel =>
                first
                  | exact ⟨i + 1, by omega, by go_num, HBW.out⟩
                  | ((repeat apply Exists.intro); exact ⟨⟨i + 1, by omega, by go_num, HBW.out⟩, rfl⟩)
              case measure => simp [intOf]; omega
    · obtain rfl : i = 12 := by omega
      go_wp2_with fail
      refine (shift_any _ 1 1 65536 [1] _ (rlit1' rfl) (Lim.one (by omega)) rfl (by omega) (by omega) (by omega)).mono ?_
      rintro e w2 ⟨⟨_, h, _⟩ | ⟨_, v2, rfl, hown2⟩, hb2⟩
      · omega
      · rw [show (65536 : Int) = ((32 * 2048 : Nat) : Int) by omega] at hown2
        obtain ⟨g, c, rfl, hc⟩ := long_row hown2
        have HB2 := Lib.hid (Below.thn HBW.out (below_alloc hb2 (Nat.le_refl _)))
        clear hown2 hb2 HBW
        go_wp2_with fail
        refine (limbSums_any _ _ _ 0 0 [] [] [] _ (Rd.nil _ _) (Rd.nil _ _) (RdRows.none_ _) Lim.nil Lim.nil (fun _ h => by cases h)).mono ?_
        rintro e w3 ⟨rfl, hb3⟩
        go_wp2_with fail
        refine (limbSmall_any _ 0 0 [] _ (Rd.nil _ _) Lim.nil (by omega)).mono ?_
        rintro e w4 ⟨rfl, hb4⟩
        go_wp2_with fail
        refine (limbBack_any _ _ 0 0 0 0 [] [] _ (Rd.nil _ _) (Rd.nil _ _) Lim.nil Lim.nil (by omega) (by omega)).mono ?_
        rintro e w5 ⟨rfl, hb5⟩
        go_wp2_with fail
        refine (works_any _).mono ?_
        rintro e w6 ⟨rfl, hb6⟩
        go_wp2_with fail
        exact hR'.out _ _ ⟨rfl, Below.thn HB1.out (Below.thn HB2.out (Below.thn hb3 (Below.thn hb4 (Below.thn hb5 hb6))))⟩

end Go.Proofs.Ytfffohhcabcefaa
