/- The statements LimbShift and LimbBack of layer 1: walked, over every argument. -/
import Derived.Test.YtfffohhcabcefaaLaw01C
namespace Go.Proofs.Ytfffohhcabcefaa
open Go.RowKit

/-- a shift's error, and the natural that it answers -/
def serr (x : Nat) (n : Int) : Int := if x ≠ 0 ∧ 65536 < n then 3 else 0
def sval (x : Nat) (n : Int) : Nat := if x ≠ 0 ∧ 65536 < n then 0 else shiftN x n
theorem shift_u (va : Value) (m x : Nat) (n : Int) (xs : List Nat) (w : World) (hr : Rd w 1 va m (ints .u32 xs)) (hx : Lim xs) (hv : nval xs = x) (hm : m ≤ 1073741824) (hn0 : -9223372036854775808 ≤ n) (hn1 : n ≤ 9223372036854775807) :
    Calls Try.prog 16 #[va, .int .i64 n] w fun e w' => (∃ v', e = .returned (.tuple #[v', .int .i64 (serr x n)]) ∧ IsNat w' w.heap.size v' (sval x n)) ∧ Below w.heap.size w w' := by
  refine (shift_any va m x n xs w hr hx hv hm hn0 hn1).mono ?_
  rintro e w' ⟨⟨h1, h2, rfl⟩ | ⟨h, v', rfl, hown⟩, hb⟩
  · refine ⟨⟨.slice none 0 0, by simp [serr, h1, h2], ?_⟩, hb⟩
    rw [sval, if_pos ⟨h1, h2⟩]; unfold IsNat; rw [limbs_zero]; exact World.ownsRow_nil _ _ _ _
  · refine ⟨⟨v', by rw [serr, if_neg h], ?_⟩, hb⟩
    rw [sval, if_neg h]; exact hown
theorem shift01_u (va : Value) (m x : Nat) (n : Int) (xs : List Nat) (w : World) (hr : Rd w 1 va m (ints .u32 xs)) (hx : Lim xs) (hv : nval xs = x) (hm : m ≤ 1048576) (hn0 : -9223372036854775808 ≤ n) (hn1 : n ≤ 9223372036854775807) :
    Calls Try.prog 15 #[va, .int .i64 n] w fun e w' => (∃ v', e = .returned (.tuple #[v', .int .i64 (serr x n)]) ∧ IsNat w' w.heap.size v' (sval x n)) ∧ Below w.heap.size w w' := by
  refine (shift01_any va m x n xs w hr hx hv hm hn0 hn1).mono ?_
  rintro e w' ⟨⟨h1, h2, rfl⟩ | ⟨h, v', rfl, hown⟩, hb⟩
  · refine ⟨⟨.slice none 0 0, by simp [serr, h1, h2], ?_⟩, hb⟩
    rw [sval, if_pos ⟨h1, h2⟩]; unfold IsNat; rw [limbs_zero]; exact World.ownsRow_nil _ _ _ _
  · refine ⟨⟨v', by rw [serr, if_neg h], ?_⟩, hb⟩
    rw [sval, if_neg h]; exact hown
/-- far to the right nothing is left -/
theorem sval_cut {x : Nat} {n : Int} (hx : (limbs x).length ≤ 40) : sval x (max n (-100000)) = sval x n ∧ serr x (max n (-100000)) = serr x n := by
  by_cases h : n < -100000
  · have e : max n (-100000) = -100000 := by omega
    rw [e]
    have h1 : shiftN x (-100000) = 0 := by
      unfold shiftN; rw [if_neg (by omega)]; exact nat_div_pow_zero hx (by omega)
    have h2 : shiftN x n = 0 := by
      unfold shiftN; rw [if_neg (by omega)]; exact nat_div_pow_zero hx (by omega)
    have h3 : ¬ (x ≠ 0 ∧ 65536 < n) := by omega
    have h4 : ¬ (x ≠ 0 ∧ (65536 : Int) < -100000) := by omega
    unfold sval serr
    rw [if_neg h3, if_neg h4, if_neg h3, if_neg h4, h1, h2]; exact ⟨rfl, rfl⟩
  · rw [show max n (-100000) = n by omega]; exact ⟨rfl, rfl⟩

set_option maxHeartbeats 4000000 in
theorem limbShift_any (va : Value) (n : Nat) (k : Int) (xs : List Nat) (w : World) (hr : Rd w 1 va n (ints .u32 xs)) (hx : Lim xs) (hk0 : -9223372036854775808 ≤ k) (hk1 : k ≤ 9223372036854775807) :
    Calls Try.prog 4 #[va, .int .i64 k] w fun e w' => e = .returned (.bool true) ∧ Below w.heap.size w w' := by
  obtain ⟨p, c, rfl, hnc, hcm, hxl⟩ := hr.u32
  obtain ⟨i0, hi, hz0, hz1, hz2⟩ := info_parts infoU32
  have Hr := Lib.hid hr
  have HL := Lib.hid hx
  have HX := Lib.hid hxl
  clear hr hx hxl
  by_cases hn : 40 < n ∨ 2000 < k ∧ k ≤ 65536
  · have hg : (40 < (n : Int)) ∨ ¬ (40 < (n : Int)) ∧ 2000 < k ∧ k ≤ 65536 := by omega
    clear hn
    rcases hg with h1 | ⟨h1, h2, h3⟩
    all_goals
      refine walk_q fun R' hR' => ?_
      go_enter Try.func4, Try.ntmps4
      go_wp2_with fail
      refine (works_any _).mono ?_
      rintro e w1 ⟨rfl, hb⟩
      go_wp2_with fail
      exact hR'.out _ _ ⟨rfl, hb⟩
  · have hn40 : n ≤ 40 := by omega
    have hg : ¬ (2000 < k) ∨ 2000 < k ∧ ¬ (k ≤ 65536) := by omega
    have hmx : max k (-100000) = k ∧ ¬ (k < -100000) ∨ max k (-100000) = -100000 ∧ k < -100000 := by omega
    obtain ⟨K, hK⟩ : ∃ K, K = max k (-100000) := ⟨_, rfl⟩
    have hlen : (limbs (nval xs)).length ≤ 40 := by have := limbs_len_le HL.out; have := HX.out; omega
    have hcut := sval_cut (n := k) hlen
    rw [← hK] at hcut
    have HC1 := Lib.hid hcut.1
    have HC2 := Lib.hid hcut.2
    clear hn hcut hlen
    have hcase : (K = k ∧ ¬ (2000 < k) ∧ ¬ (k < -100000)) ∨ (K = k ∧ 2000 < k ∧ ¬ (k ≤ 65536)) ∨ (K = -100000 ∧ ¬ (2000 < k) ∧ k < -100000) := by omega
    clear hK hg hmx
    rcases hcase with ⟨rfl, h1, h2⟩ | ⟨rfl, h1, h2⟩ | ⟨rfl, h1, h2⟩
    all_goals
      refine walk_q fun R' hR' => ?_
      go_enter Try.func4, Try.ntmps4
      go_wp2_with (at_builtin; refine wpList_append_rd _ rfl _ _ 22 rfl w.heap.size 23 i0 (.int .u32 0) 1 4 Try.underlying22 hi hz0 hz1 hz2 rfl (by decide) (.slice none 0 0) 0 [] rfl (World.ownsRow_nil _ _ _ _) _ n _ rfl Hr.out (ints_one _ _) (by unfold maxLen; omega) (by omega) (Nat.le_refl _) ?_; intro v1 w1 hown hgr)
      simp only [Nat.zero_add, List.nil_append] at hown
      have HB1 := Lib.hid (Below.own_nil hgr)
      have HX1 := Lib.hid (Rd.own hown)
      have HA1 := Lib.hid (Hr.out.below HB1.out)
      obtain ⟨p1, c1, rfl, _, _, _⟩ := HX1.out.u32
      clear hown hgr
      go_wp2_with fail
      refine (shift01_u _ n (nval xs) _ xs _ HX1.out HL.out rfl (by omega) (by omega) (by omega)).mono ?_
      rintro e w2 ⟨⟨v2, rfl, hown2⟩, hb2⟩
      first | rw [HC1.out] at hown2 | skip
      first | rw [HC2.out] | skip
      have HR2 := Lib.hid hown2.rd
      have HB2 := Lib.hid hb2
      have HA2 := Lib.hid (HA1.out.below hb2)
      have HX2 := Lib.hid (HX1.out.below hb2)
      obtain ⟨p2, c2, rfl, _, _, _⟩ := HR2.out.u32
      clear hown2 hb2
      generalize hE : serr (nval xs) _ = E
      have HE := Lib.hid hE
      clear hE
      go_wp2_with fail
      go_loopw [8] (fun tv wr => ∃ t : Nat, t ≤ 2 ∧ tv = .int .i64 (t : Int) ∧ Below w2.heap.size w2 wr) (fun tv _ => 2 - (intOf tv).toNat)
      case atStart => exact ⟨0, by omega, rfl, Below.refl _ _⟩
      case round =>
        obtain ⟨t, ht, rfl, hbw⟩ := hrel
        have HBW := Lib.hid hbw
        have HA := Lib.hid (HA2.out.below hbw)
        have HXX := Lib.hid (HX2.out.below hbw)
        have HRR := Lib.hid (HR2.out.below hbw)
        clear hbw
        by_cases ht2 : t < 2
        · go_wp2_with fail
          refine (shift_u _ n (nval xs) _ xs _ HA.out HL.out rfl (by omega) (by omega) (by omega)).mono ?_
          rintro e w3 ⟨⟨v3, rfl, hown3⟩, hb3⟩
          rw [HE.out]
          have HO3 := Lib.hid hown3
          have HB3 := Lib.hid hb3
          have HR3 := Lib.hid (HRR.out.below hb3)
          clear hown3 hb3
          go_wp2_with fail
          refine (same_any _ _ _ _ _ HO3.out.rd HR3.out).mono ?_
          rintro e w4 ⟨rfl, hb4⟩
          have HO4 := Lib.hid (HO3.out.below hb4)
          have HB4 := Lib.hid (Below.thn HB3.out hb4)
          clear hb4
          go_wp2_with fail
          refine (spoil_any v3 _ _ _ _ HO4.out).mono ?_
          rintro e w5 ⟨rfl, hg5⟩
          have HB5 := Lib.hid (Below.spoiled HB4.out HO4.out hg5 HB4.out.size (Nat.le_refl _))
          clear hg5
          go_wp2_with fail
          go_roundw
          case rel => exact ⟨t + 1, by omega, by go_num, Below.thn HBW.out HB5.out⟩
          case measure => simp [intOf]; omega
        · obtain rfl : t = 2 := by omega
          go_wp2_with fail
          refine (same_any _ _ n xs _ HA.out HXX.out).mono ?_
          rintro e w3 ⟨rfl, hb3⟩
          go_wp2_with fail
          refine (works_any _).mono ?_
          rintro e w4 ⟨rfl, hb4⟩
          go_wp2_with fail
          exact hR'.out _ _ ⟨rfl, Below.thn HB1.out (Below.thn HB2.out (Below.thn HBW.out (Below.thn hb3 hb4)))⟩

end Go.Proofs.Ytfffohhcabcefaa
