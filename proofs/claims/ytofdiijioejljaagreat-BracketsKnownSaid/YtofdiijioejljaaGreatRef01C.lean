/- What the reference of the limb layer computes, part C: comparison, difference, product with a limb. -/
import Derived.Test.YtofdiijioejljaaGreatRef01B
set_option linter.all false
namespace Go.Proofs.YtofdiijioejljaaGreat
open Go.RowKit

def CmpInv (w : World) (us ts : List Nat) (M : Nat) (iv : Value) (wr : World) : Prop :=
 ∃ k : Nat, k ≤ M ∧ iv = .int .i64 ((k : Int) - 1) ∧ hval us + hval (ts.take k) = hval ts + hval (us.take k) ∧ w = wr

theorem take_zero_val (us : List Nat) : hval (us.take 0) = 0 := by simp [hval, val]
theorem cmp_eq_step {us ts : List Nat} {k x : Nat} (hx : us.getD k 0 = x) (hy : ts.getD k 0 = x) (h : hval us + hval (ts.take (k + 1)) = hval ts + hval (us.take (k + 1))) : hval us + hval (ts.take k) = hval ts + hval (us.take k) := by
 have h1 : hval (ts.take (k + 1)) = hval (ts.take k) + 65536 ^ k * x := by rw [← hy]; exact val_take_getD 65536 ts k
 have h2 : hval (us.take (k + 1)) = hval (us.take k) + 65536 ^ k * x := by rw [← hx]; exact val_take_getD 65536 us k
 omega
theorem cmp_lt_step {us ts : List Nat} {k x y : Nat} (hu : Half us) (hx : us.getD k 0 = x) (hy : ts.getD k 0 = y) (hxy : x < y) (h : hval us + hval (ts.take (k + 1)) = hval ts + hval (us.take (k + 1))) : hval us < hval ts := by
 have h1 : hval (ts.take (k + 1)) = hval (ts.take k) + 65536 ^ k * y := by rw [← hy]; exact val_take_getD 65536 ts k
 have h2 : hval (us.take (k + 1)) = hval (us.take k) + 65536 ^ k * x := by rw [← hx]; exact val_take_getD 65536 us k
 have h3 : hval (us.take k) < 65536 ^ k := by
  have h4 := hval_lt (Dig.take hu k)
  have h5 := Nat.pow_le_pow_right (show 0 < 65536 by omega) (show (us.take k).length ≤ k by rw [List.length_take]; omega)
  omega
 have h4 : 65536 ^ k * x + 65536 ^ k ≤ 65536 ^ k * y := by
  have := Nat.mul_le_mul_left (65536 ^ k) (show x + 1 ≤ y from hxy)
  rwa [Nat.mul_add, Nat.mul_one] at this
 omega

set_option maxRecDepth 100000 in
set_option maxHeartbeats 1000000 in
theorem cmp01_any (va vb : Value) (n m : Nat) (xs ys : List Nat) (w : World) (hr : Rd w 1 va n (ints .u32 xs)) (hs : Rd w 1 vb m (ints .u32 ys)) (hx : Lim xs) (hy : Lim ys) (hn : n ≤ 1073741824) (hm : m ≤ 1073741824) :
  Calls Tryz.prog 130 #[va, vb] w fun e w' => e = .returned (.int .i64 (ncmp (nval xs) (nval ys))) ∧ Below w.heap.size w w' := by
 obtain ⟨p, c, rfl, hnc, hcm, hxl⟩ := hr.u32
 obtain ⟨q, d, rfl, hmd, hdm, hyl⟩ := hs.u32
 have Hr := Lib.hid hr
 have Hs := Lib.hid hs
 have HL := Lib.hid hx
 have HM := Lib.hid hy
 have hlx := halves_len_nval hx
 have hly := halves_len_nval hy
 rw [hxl] at hlx
 rw [hyl] at hly
 obtain ⟨a, ha⟩ : ∃ a, a = nval xs := ⟨_, rfl⟩
 obtain ⟨b, hb⟩ : ∃ b, b = nval ys := ⟨_, rfl⟩
 rw [← ha] at hlx ⊢
 rw [← hb] at hly ⊢
 have HA := Lib.hid ha
 have HBb := Lib.hid hb
 clear hr hs hx hy hxl hyl ha hb
 refine walk_q fun R' hR' => ?_
 go_enter Tryz.func130, Tryz.ntmps130
 go_wp2_with fail
 refine (halves01_any _ n xs _ Hr.out HL.out hn).mono ?_
 rintro e w1 ⟨v1, rfl, hown, hb1⟩
 rw [← HA.out] at hown
 have HO1 := Lib.hid (Rd.own hown)
 have HB1 := Lib.hid hb1
 clear hown hb1
 go_wp2_with fail
 refine (halves01_any _ m ys _ (Hs.out.below HB1.out) HM.out hm).mono ?_
 rintro e w2 ⟨v2, rfl, hown, hb2⟩
 rw [← HBb.out] at hown
 have HRA := Lib.hid (HO1.out.below hb2)
 have HRB := Lib.hid (Rd.own hown)
 have HB2 := Lib.hid (HB1.out.trans (hb2.mono HB1.out.size))
 clear hown hb2 HO1 HB1
 obtain ⟨p1, c1, rfl, h11, h12, _⟩ := HRA.out.i64
 obtain ⟨p2, c2, rfl, h21, h22, _⟩ := HRB.out.i64
 generalize hla : (halves a).length = la at *
 generalize hlb : (halves b).length = lb at *
 have HLA := Lib.hid hla
 have HLB := Lib.hid hlb
 clear hla hlb
 obtain ⟨M, hMa, hMb, hMu, hM⟩ : ∃ M, la ≤ M ∧ lb ≤ M ∧ M ≤ 2147483648 ∧ (la < lb ∧ M = lb ∨ lb ≤ la ∧ M = la) := ⟨max la lb, by omega, by omega, by omega, by omega⟩
 rcases hM with ⟨hab, rfl⟩ | ⟨hab, rfl⟩
 all_goals
  go_wp2_with fail
  go_loopw [7] (fun iv wr => CmpInv w2 (halves a) (halves b) M iv wr) (fun iv _ => (intOf iv + 1).toNat)
  case atStart => exact ⟨M, Nat.le_refl _, rfl, by
   show val 65536 _ + val 65536 _ = val 65536 _ + val 65536 _
   rw [val_take_all (by first | (rw [HLA.out]; omega) | (rw [HLB.out]; omega)), val_take_all (by first | (rw [HLA.out]; omega) | (rw [HLB.out]; omega))]; omega, rfl⟩
  case round =>
   obtain ⟨k, hk, rfl, hv, rfl⟩ := hrel
   have HV := Lib.hid hv
   clear hv
   by_cases h0 : k = 0
   ·subst h0
    go_wp2_with fail
    have e : a = b := by
     have := HV.out
     rw [take_zero_val, take_zero_val, hval_halves, hval_halves] at this
     omega
    exact hR'.out _ _ ⟨ret1 (by rw [e, ncmp_eq]), HB2.out⟩
   ·obtain ⟨j, rfl⟩ : ∃ j, k = j + 1 := ⟨k - 1, by omega⟩
    have hjj : ((j + 1 : Nat) : Int) - 1 = (j : Int) := by omega
    rw [hjj]
    clear h0 hjj
    generalize hx : (halves a).getD j 0 = x
    generalize hy : (halves b).getD j 0 = y
    have HX := Lib.hid hx
    have HY := Lib.hid hy
    clear hx hy
    go_wp2_with fail
    refine (at01_any _ _ j (halves a) _ HRA.out).mono ?_
    rintro e w3 ⟨rfl, rfl⟩
    rw [HX.out]
    go_wp2_with fail
    refine (at01_any _ _ j (halves b) _ HRB.out).mono ?_
    rintro e w3 ⟨rfl, rfl⟩
    rw [HY.out]
    rcases Nat.lt_trichotomy x y with hlt | heq | hgt
    ·go_wp2_with fail
     have := cmp_lt_step (halves_half a) HX.out HY.out hlt HV.out
     rw [hval_halves, hval_halves] at this
     exact hR'.out _ _ ⟨ret1 (by rw [ncmp_lt this]), HB2.out⟩
    ·subst heq
     go_wp2_with fail
     refine (at01_any _ _ j (halves a) _ HRA.out).mono ?_
     rintro e w3 ⟨rfl, rfl⟩
     rw [HX.out]
     go_wp2_with fail
     refine (at01_any _ _ j (halves b) _ HRB.out).mono ?_
     rintro e w3 ⟨rfl, rfl⟩
     rw [HY.out]
     go_wp2_with fail
     go_roundw
     case rel => exact ⟨j, by omega, rfl, cmp_eq_step HX.out HY.out HV.out, rfl⟩
     case measure => simp [intOf]
    ·go_wp2_with fail
     refine (at01_any _ _ j (halves a) _ HRA.out).mono ?_
     rintro e w3 ⟨rfl, rfl⟩
     rw [HX.out]
     go_wp2_with fail
     refine (at01_any _ _ j (halves b) _ HRB.out).mono ?_
     rintro e w3 ⟨rfl, rfl⟩
     rw [HY.out]
     go_wp2_with fail
     have := cmp_lt_step (halves_half b) HY.out HX.out hgt HV.out.symm
     rw [hval_halves, hval_halves] at this
     exact hR'.out _ _ ⟨ret1 (by rw [ncmp_gt this]), HB2.out⟩

end Go.Proofs.YtofdiijioejljaaGreat
