/- What the reference of the limb layer computes, part C: comparison, difference, product with a limb. -/
import Derived.Test.YtfffohhcabcefaaRef01B
namespace Go.Proofs.Ytfffohhcabcefaa
open Go.RowKit

/-- the two rows of half limbs of two naturals, both made by the call -/
def CmpInv (w : World) (us ts : List Nat) (M : Nat) (iv : Value) (wr : World) : Prop :=
  ∃ k : Nat, k ≤ M ∧ iv = .int .i64 ((k : Int) - 1) ∧ hval us + hval (ts.take k) = hval ts + hval (us.take k) ∧ w = wr

theorem take_zero_val (us : List Nat) : hval (us.take 0) = 0 := by simp [hval, val]
theorem cmp_eq_step {us ts : List Nat} {k x : Nat} (hx : us.getD k 0 = x) (hy : ts.getD k 0 = x) (h : hval us + hval (ts.take (k + 1)) = hval ts + hval (us.take (k + 1))) : hval us + hval (ts.take k) = hval ts + hval (us.take k) := by
  have h1 : hval (ts.take (k + 1)) = hval (ts.take k) + 65536 ^ k * x := by rw [← hy]; exact val_take_getD 65536 ts k
  have h2 : hval (us.take (k + 1)) = hval (us.take k) + 65536 ^ k * x := by rw [← hx]; exact val_take_getD 65536 us k
  omega
theorem cmp_lt_step {us ts : List Nat} {k x y : Nat} (hu : Half us) (hx : us.getD k 0 = x) (hy : ts.getD k 0 = y) (hxy : x < y) (h : hval us + hval (ts.take (k + 1)) = hval ts + hval (us.take (k + 1))) : hval us < hval ts := by
  have h1 : hval (ts.take (k + 1)) = hval (ts.take k) + 65536 ^ k * y := by rw [← hy]; exact val_take_getD 65536 ts k
  have h2 : hval (us.take (k + 1)) = hval (us.take k) + 65536 ^ k * x := by rw [← hx]; exact val_take_getD 65536 us k
  have h3 : hval (us.take k) < 65536 ^ k := by
    have h4 := hval_lt (Dig.take hu k)
    have h5 := Nat.pow_le_pow_right (show 0 < 65536 by omega) (show (us.take k).length ≤ k by rw [List.length_take]; omega)
    omega
  have h4 : 65536 ^ k * x + 65536 ^ k ≤ 65536 ^ k * y := by
    have := Nat.mul_le_mul_left (65536 ^ k) (show x + 1 ≤ y from hxy)
    rwa [Nat.mul_add, Nat.mul_one] at this
  omega

set_option maxHeartbeats 1000000 in
theorem cmp01_any (va vb : Value) (n m : Nat) (xs ys : List Nat) (w : World) (hr : Rd w 1 va n (ints .u32 xs)) (hs : Rd w 1 vb m (ints .u32 ys)) (hx : Lim xs) (hy : Lim ys) (hn : n ≤ 1073741824) (hm : m ≤ 1073741824) :
    Calls Try.prog 27 #[va, vb] w fun e w' => e = .returned (.int .i64 (ncmp (nval xs) (nval ys))) ∧ Below w.heap.size w w' := by
  obtain ⟨p, c, rfl, hnc, hcm, hxl⟩ := hr.u32
  obtain ⟨q, d, rfl, hmd, hdm, hyl⟩ := hs.u32
  have Hr := Lib.hid hr
  have Hs := Lib.hid hs
  have HL := Lib.hid hx
  have HM := Lib.hid hy
  have hlx := halves_len_nval hx
  have hly := halves_len_nval hy
  rw [hxl] at hlx
  rw [hyl] at hly
  obtain ⟨a, ha⟩ : ∃ a, a = nval xs := ⟨_, rfl⟩
  obtain ⟨b, hb⟩ : ∃ b, b = nval ys := ⟨_, rfl⟩
  rw [← ha] at hlx ⊢
  rw [← hb] at hly ⊢
  have HA := Lib.hid ha
  have HBb := Lib.hid hb
  clear hr hs hx hy hxl hyl ha hb
  refine walk_q fun R' hR' => ?_
  go_enter Try.func27, Try.ntmps27
  go_wp2_with fail
  refine (halves01_any _ n xs _ Hr.out HL.out hn).mono ?_
  rintro e w1 ⟨v1, rfl, hown, hb1⟩
  rw [← HA.out] at hown
  have HO1 := Lib.hid (Rd.own hown)
  have HB1 := Lib.hid hb1
  clear hown hb1
  go_wp2_with fail
  refine (halves01_any _ m ys _ (Hs.out.below HB1.out) HM.out hm).mono ?_
  rintro e w2 ⟨v2, rfl, hown, hb2⟩
  rw [← HBb.out] at hown
  have HRA := Lib.hid (HO1.out.below hb2)
  have HRB := Lib.hid (Rd.own hown)
  have HB2 := Lib.hid (HB1.out.trans (hb2.mono HB1.out.size))
  clear hown hb2 HO1 HB1
  obtain ⟨p1, c1, rfl, h11, h12, _⟩ := HRA.out.i64
  obtain ⟨p2, c2, rfl, h21, h22, _⟩ := HRB.out.i64
  generalize hla : (halves a).length = la at *
  generalize hlb : (halves b).length = lb at *
  have HLA := Lib.hid hla
  have HLB := Lib.hid hlb
  clear hla hlb
  obtain ⟨M, hMa, hMb, hMu, hM⟩ : ∃ M, la ≤ M ∧ lb ≤ M ∧ M ≤ 2147483648 ∧ (la < lb ∧ M = lb ∨ lb ≤ la ∧ M = la) := ⟨max la lb, by omega, by omega, by omega, by omega⟩
  rcases hM with ⟨hab, rfl⟩ | ⟨hab, rfl⟩
  all_goals
    go_wp2_with fail
    go_loopw [7] (fun iv wr => CmpInv w2 (halves a) (halves b) M iv wr) (fun iv _ => (intOf iv + 1).toNat)
    case atStart => exact ⟨M, Nat.le_refl _, rfl, by
      show val 65536 _ + val 65536 _ = val 65536 _ + val 65536 _
      rw [val_take_all (by first | (rw [HLA.out]; omega) | (rw [HLB.out]; omega)), val_take_all (by first | (rw [HLA.out]; omega) | (rw [HLB.out]; omega))]; omega, rfl⟩
    case round =>
      obtain ⟨k, hk, rfl, hv, rfl⟩ := hrel
      have HV := Lib.hid hv
      clear hv
      by_cases h0 : k = 0
      · subst h0
        go_wp2_with fail
        have e : a = b := by
          have := HV.out
          rw [take_zero_val, take_zero_val, hval_halves, hval_halves] at this
          omega
        exact hR'.out _ _ ⟨ret1 (by rw [e, ncmp_eq]), HB2.out⟩
      · obtain ⟨j, rfl⟩ : ∃ j, k = j + 1 := ⟨k - 1, by omega⟩
        have hjj : ((j + 1 : Nat) : Int) - 1 = (j : Int) := by omega
        rw [hjj]
        clear h0 hjj
        generalize hx : (halves a).getD j 0 = x
        generalize hy : (halves b).getD j 0 = y
        have HX := Lib.hid hx
        have HY := Lib.hid hy
        clear hx hy
        go_wp2_with fail
        refine (at01_any _ _ j (halves a) _ HRA.out).mono ?_
        rintro e w3 ⟨rfl, rfl⟩
        rw [HX.out]
        go_wp2_with fail
        refine (at01_any _ _ j (halves b) _ HRB.out).mono ?_
        rintro e w3 ⟨rfl, rfl⟩
        rw [HY.out]
        rcases Nat.lt_trichotomy x y with hlt | heq | hgt
        · go_wp2_with fail
          have := cmp_lt_step (halves_half a) HX.out HY.out hlt HV.out
          rw [hval_halves, hval_halves] at this
          exact hR'.out _ _ ⟨ret1 (by rw [ncmp_lt this]), HB2.out⟩
        · subst heq
          go_wp2_with fail
          refine (at01_any _ _ j (halves a) _ HRA.out).mono ?_
          rintro e w3 ⟨rfl, rfl⟩
          rw [HX.out]
          go_wp2_with fail
          refine (at01_any _ _ j (halves b) _ HRB.out).mono ?_
          rintro e w3 ⟨rfl, rfl⟩
          rw [HY.out]
          go_wp2_with fail
          go_roundw
          case rel => exact ⟨j, by omega, rfl, cmp_eq_step HX.out HY.out HV.out, rfl⟩
          case measure => simp [intOf]
        · go_wp2_with fail
          refine (at01_any _ _ j (halves a) _ HRA.out).mono ?_
          rintro e w3 ⟨rfl, rfl⟩
          rw [HX.out]
          go_wp2_with fail
          refine (at01_any _ _ j (halves b) _ HRB.out).mono ?_
          rintro e w3 ⟨rfl, rfl⟩
          rw [HY.out]
          go_wp2_with fail
          have := cmp_lt_step (halves_half b) HY.out HX.out hgt HV.out.symm
          rw [hval_halves, hval_halves] at this
          exact hR'.out _ _ ⟨ret1 (by rw [ncmp_gt this]), HB2.out⟩

def MulInv01 (w : World) (B M m : Nat) (us : List Nat) (ov cv iv : Value) (wr : World) : Prop :=
  ∃ (k carry : Nat) (os : List Nat), k ≤ M + 2 ∧ (k = M + 1 → carry < 65536) ∧ (k = M + 2 → carry = 0) ∧ iv = .int .i64 (k : Int) ∧ cv = .int .i64 (carry : Int) ∧ carry ≤ m ∧ os.length = k ∧ Half os ∧
    hval os + 65536 ^ k * carry = hval (us.take k) * m ∧ wr.ownsRow B 3 1 ov k (ints .i64 os) ∧ Below B w wr

theorem mul01_step {k carry x m : Nat} {us os : List Nat} (hl : os.length = k) (hh : Half os) (hv : hval os + 65536 ^ k * carry = hval (us.take k) * m) (hx : us.getD k 0 = x) :
    Half (os ++ [(x * m + carry) % 65536]) ∧ hval (os ++ [(x * m + carry) % 65536]) + 65536 ^ (k + 1) * ((x * m + carry) / 65536) = hval (us.take (k + 1)) * m := by
  refine ⟨Dig.append hh (Dig.cons (Nat.mod_lt _ (by omega)) (Dig.nil _)), ?_⟩
  rw [hval_snoc, hl, Nat.pow_succ]
  show _ = val 65536 _ * m
  rw [val_take_getD, hx]
  exact mul_stepB 65536 _ x m carry _ _ hv
theorem mul01_bound (x m carry : Nat) (hx : x < 65536) (hc : carry ≤ m) : (x * m + carry) / 65536 ≤ m := by
  have h1 : x * m ≤ 65535 * m := Nat.mul_le_mul_right _ (by omega)
  omega

set_option maxHeartbeats 1000000 in
theorem mul01_any (va : Value) (n m : Nat) (xs : List Nat) (w : World) (hr : Rd w 1 va n (ints .u32 xs)) (hx : Lim xs) (hn : n ≤ 1073741824) (hm : m < 4294967296) :
    Calls Try.prog 13 #[va, .int .u32 (m : Int)] w fun e w' => ∃ v', e = .returned v' ∧ w'.ownsRow w.heap.size 23 1 v' (limbs (nval xs * m)).length (ints .u32 (limbs (nval xs * m))) ∧ Below w.heap.size w w' := by
  obtain ⟨p, c, rfl, hnc, hcm, hxl⟩ := hr.u32
  obtain ⟨i0, hi, hz0, hz1, hz2⟩ := info_parts infoInt
  have Hr := Lib.hid hr
  have HL := Lib.hid hx
  have hlx := halves_len_nval hx
  rw [hxl] at hlx
  obtain ⟨a, ha⟩ : ∃ a, a = nval xs := ⟨_, rfl⟩
  rw [← ha] at hlx ⊢
  have HA := Lib.hid ha
  clear hr hx hxl ha
  refine walk_q fun R' hR' => ?_
  go_enter Try.func13, Try.ntmps13
  go_wp2_with fail
  refine (halves01_any _ n xs _ Hr.out HL.out hn).mono ?_
  rintro e w2 ⟨v1, rfl, hown, hb1⟩
  rw [← HA.out] at hown
  have HRA0 := Lib.hid (Rd.own hown)
  have HB2 := Lib.hid hb1
  have hB2s := hb1.size
  clear hown hb1
  obtain ⟨p1, c1, rfl, h11, h12, _⟩ := HRA0.out.i64
  generalize hla : (halves a).length = M at *
  have HLA := Lib.hid hla
  clear hla
  obtain ⟨B2, hB2e⟩ : ∃ B2, B2 = w2.heap.size := ⟨_, rfl⟩
  have HB2e := Lib.hid hB2e
  have hB2s' : w.heap.size ≤ B2 := by omega
  clear hB2e
  go_wp2_with fail
  go_loopw [6, 7, 8] (fun ov cv iv wr => MulInv01 w2 B2 M m (halves a) ov cv iv wr) (fun _ cv iv _ => 4294967296 * (M - (intOf iv).toNat) + (intOf cv).toNat)
  case atStart => exact ⟨0, 0, [], by omega, by omega, by omega, rfl, rfl, by omega, rfl, Dig.nil _, by rw [take_zero_val]; simp [hval, val], World.ownsRow_nil _ _ _ _, Below.refl _ _⟩
  case round =>
    obtain ⟨k, carry, os, hk, hk1, hk2, rfl, rfl, hc, hol, hoh, hov, hown, hbw⟩ := hrel
    have HO := Lib.hid hown
    have HOL := Lib.hid hol
    have HOH := Lib.hid hoh
    have HOV := Lib.hid hov
    have HK1 := Lib.hid hk1
    have HK2 := Lib.hid hk2
    have HBW := Lib.hid hbw
    have hbs : B2 ≤ wr.heap.size := by have := hbw.size; have := HB2e.out; omega
    have HRA := Lib.hid (HRA0.out.belowB HB2e.out hbw)
    have hgx := getD_half (halves_half a) k
    have hxy0 : M ≤ k → (halves a).getD k 0 = 0 := fun h => getD_beyond (by rw [HLA.out]; omega)
    clear hown hol hoh hov hk1 hbw
    generalize hx : (halves a).getD k 0 = x at *
    have HX := Lib.hid hx
    have HXY0 := Lib.hid hxy0
    clear hx hxy0
    by_cases hkM : k < M ∨ 0 < carry
    · clear hk2
      have hguard : ((k : Int) < (M : Int)) ∨ ¬ ((k : Int) < (M : Int)) ∧ 0 < carry := by omega
      have hpb : x * m ≤ 65535 * 4294967295 := Nat.mul_le_mul (by omega) (by omega)
      have hmb := mul01_bound x m carry hgx hc
      obtain ⟨q, hq⟩ : ∃ q, q = x * m := ⟨_, rfl⟩
      have hqi : (x : Int) * (m : Int) = (q : Int) := by rw [hq]; simp
      have hq0 : M ≤ k → q = 0 := fun h => by rw [hq, HXY0.out h, Nat.zero_mul]
      rw [← hq] at hpb hmb
      have HQ := Lib.hid hq
      have HQ0 := Lib.hid hq0
      clear hq hq0
      rcases hguard with hg | ⟨hg, hg2⟩
      all_goals
        go_wp2_with fail
        refine (at01_any _ _ k (halves a) _ HRA.out).mono ?_
        rintro e w3 ⟨rfl, rfl⟩
        rw [HX.out]
        go_wp2_with (at_builtin; refine wpList_append_one rfl _ _ 46 rfl B2 3 i0 (.int .i64 0) 8 Try.underlying46 hi hz0 hz1 hz2 rfl HO.out rfl rfl (d := (q + carry) % 65536) (by omega) (by omega) (by omega) hbs ?_; intro v1 w3 hown1 hkeep1)
        have HO4 := Lib.hid hown1
        have HB4 := Lib.hid (hkeep1 w2 HBW.out)
        clear hown1 hkeep1
        go_wp2_with fail
        go_roundw
        case rel =>
          have hst := mul01_step (m := m) HOL.out HOH.out HOV.out HX.out
          rw [← HQ.out] at hst
          exact ⟨k + 1, (q + carry) / 65536, os ++ [(q + carry) % 65536], by have := HK1.out; have := HK2.out; omega, by have := HQ0.out; omega, by have := HK1.out; have := HQ0.out; omega, by go_num, by go_num, hmb, by simp [HOL.out], hst.1, hst.2, HO4.out, HB4.out⟩
        case measure => simp [intOf]; have := HQ0.out; omega
    · have hc0 : carry = 0 := by omega
      have HC0 := Lib.hid hc0
      have hg1 : ¬ ((k : Int) < (M : Int)) := by omega
      have hg2 : ¬ (0 < (carry : Int)) := by omega
      have hkM' : M ≤ k := by omega
      clear hc0 hk2
      go_wp2_with fail
      refine (limbs01_any _ _ os _ (Rd.own HO.out) HOH.out (by omega)).mono ?_
      rintro e w3 ⟨v3, rfl, hown, hb3⟩
      have hval : hval os = a * m := by
        have := HOV.out
        rw [HC0.out, Nat.mul_zero, Nat.add_zero] at this
        rw [this]
        show val 65536 _ * m = _
        rw [val_take_all (by rw [HLA.out]; omega)]
        show hval _ * m = _
        rw [hval_halves]
      rw [hval] at hown
      go_wp2_with fail
      exact hR'.out _ _ ⟨_, rfl, Own.mono hown (by omega), (HB2.out.trans (HBW.out.mono hB2s')).trans (hb3.mono (by omega))⟩

end Go.Proofs.Ytfffohhcabcefaa
