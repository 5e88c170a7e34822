/- What the reference of the limb layer computes, part B: limbs of half limbs, trimmed rows, sums. -/
import Derived.Test.YtofdiijioejljaaGreatRef01A
set_option linter.all false
namespace Go.Proofs.YtofdiijioejljaaGreat
open Go.RowKit

def LimbInv (w : World) (B m : Nat) (hs : List Nat) (ov iv : Value) (wr : World) : Prop :=
 ∃ (k : Nat) (ds : List Nat), 2 * k ≤ m + 1 ∧ iv = .int .i64 ((2 * k : Nat) : Int) ∧ ds.length = k ∧ Lim ds ∧ nval ds = hval (hs.take (2 * k)) ∧
  wr.ownsRow B 107 1 ov k (ints .u32 ds) ∧ Below B w wr

theorem limb_step {k lo hi : Nat} {ds hs : List Nat} (hl : ds.length = k) (hd : Lim ds) (hv : nval ds = hval (hs.take (2 * k))) (hlo : hs.getD (2 * k) 0 = lo) (hhi : hs.getD (2 * k + 1) 0 = hi)
  (h1 : lo < 65536) (h2 : hi < 65536) : Lim (ds ++ [lo + 65536 * hi]) ∧ nval (ds ++ [lo + 65536 * hi]) = hval (hs.take (2 * (k + 1))) := by
 refine ⟨hd.append (Lim.cons (by omega) Lim.nil), ?_⟩
 rw [nval_snoc, hl, hv]
 show _ = val 65536 (hs.take (2 * k + 1 + 1))
 rw [val_take_getD, val_take_getD, hlo, hhi, Nat.pow_succ, Nat.add_assoc]
 show hval _ + _ = hval _ + _
 congr 1
 rw [show (4294967296 : Nat) = 65536 ^ 2 by rfl, ← Nat.pow_mul, Nat.mul_add, Nat.mul_assoc]

theorem limbs_canon {k m h : Nat} {ds : List Nat} (hl : ds.length = k) (hd : Lim ds) (hv : nval ds = h) (hm : (halves h).length = m) (hk : 2 * k ≤ m + 1) : limbs h = ds := by
 subst hv
 apply digs_of_len (by omega) hd
 show ds.length ≤ (limbs (nval ds)).length
 rcases Nat.eq_zero_or_pos k with h0 | h0
 ·omega
 ·have hne : nval ds ≠ 0 := fun h => by rw [h, halves_zero] at hm; simp at hm; omega
  have h1 : 65536 ^ ((halves (nval ds)).length - 1) ≤ nval ds := pow_digs_le (by omega) hne
  have h2 : 4294967296 ^ (k - 1) ≤ nval ds := by
   rw [show (4294967296 : Nat) = 65536 ^ 2 by rfl, ← Nat.pow_mul]
   exact Nat.le_trans (Nat.pow_le_pow_right (by omega) (by omega)) h1
  have := limbs_length_lt h2
  omega

set_option maxRecDepth 100000 in
set_option maxHeartbeats 1000000 in
theorem limbs01_any (va : Value) (n : Nat) (ls : List Nat) (w : World) (hr : Rd w 1 va n (ints .i64 ls)) (hl : Half ls) (hn : n ≤ 2147483656) :
  Calls Tryz.prog 129 #[va] w fun e w' => ∃ v', e = .returned v' ∧ w'.ownsRow w.heap.size 107 1 v' (limbs (hval ls)).length (ints .u32 (limbs (hval ls))) ∧ Below w.heap.size w w' := by
 obtain ⟨p, c, rfl, hnc, hcm, hxl⟩ := hr.i64
 obtain ⟨i0, hi, hz0, hz1, hz2⟩ := info_parts infoU32
 obtain ⟨B, hB⟩ : ∃ B, B = w.heap.size := ⟨_, rfl⟩
 obtain ⟨h, hh⟩ : ∃ h, h = hval ls := ⟨_, rfl⟩
 rw [← hh]
 have HB := Lib.hid hB
 have Hr := Lib.hid hr
 have HL := Lib.hid hl
 have HX := Lib.hid hxl
 have HH := Lib.hid hh
 rw [← hB]
 clear hr hl hxl hB hh
 refine walk_q fun R' hR' => ?_
 go_enter Tryz.func129, Tryz.ntmps129
 go_wp2_with fail
 refine (cut01_any p n c ls _ Hr.out HL.out).mono ?_
 rintro e w1 ⟨⟨m, hm, rfl, hlm⟩, rfl⟩
 have hml : (halves h).length = m := by rw [HH.out, hlm, List.length_take, HX.out]; omega
 have hrd := Rd.takeI Hr.out hm
 rw [← hlm, ← HH.out] at hrd
 have HML := Lib.hid hml
 have HRD := Lib.hid hrd
 clear hml hrd hlm
 go_wp2_with fail
 go_loopw [3, 4] (fun ov iv wr => LimbInv w B m (halves h) ov iv wr) (fun _ iv _ => m + 2 - (intOf iv).toNat)
 case atStart => exact ⟨0, [], by omega, rfl, rfl, Lim.nil, rfl, World.ownsRow_nil _ _ _ _, Below.refl _ _⟩
 case round =>
  obtain ⟨k, ds, hk, rfl, hdl, hdd, hdv, hown, hb⟩ := hrel
  have HO := Lib.hid hown
  have HDL := Lib.hid hdl
  have HDD := Lib.hid hdd
  have HDV := Lib.hid hdv
  have HBW := Lib.hid hb
  have hbs : B ≤ wr.heap.size := by have := hb.size; have := HB.out; omega
  clear hown hdl hdd hdv hb
  by_cases hkm : 2 * k < m
  ·obtain ⟨b1, o1, lo, rfl, hb1, hxk, hcx⟩ := (HRD.out.belowB HB.out HBW.out).cellAt hkm
   have hlo := (halves_half h).at hxk
   have HLO : Hid ((halves h).getD (2 * k) 0 = lo) := by show _ = _; rw [List.getD, hxk]; rfl
   clear hxk
   by_cases hkm1 : 2 * k + 1 < m
   ·obtain ⟨b2, o2, hi', hp2, hb2, hyk, hcy⟩ := (HRD.out.belowB HB.out HBW.out).cellAt hkm1
    have hhi := (halves_half h).at hyk
    have HHI : Hid ((halves h).getD (2 * k + 1) 0 = hi') := by show _ = _; rw [List.getD, hyk]; rfl
    simp only [Option.some.injEq, Addr.mk.injEq, and_true] at hp2
    obtain ⟨rfl, rfl⟩ := hp2
    clear hyk
    have hy : (lo : Int) + 65536 * (hi' : Int) = ((lo + 65536 * hi' : Nat) : Int) := by omega
    have HY := Lib.hid hy
    clear hy
    go_wp2_with (at_builtin; go_loud (refine wpList_append_one rfl _ _ 23 rfl B 107 i0 (.int .u32 0) 4 Tryz.underlying23 hi hz0 hz1 hz2 rfl HO.out rfl rfl HY.out (by omega) (by omega) hbs ?_); intro v1 w1 hown1 hkeep1)
    have HO1 := Lib.hid hown1
    have HB1 := Lib.hid (hkeep1 w HBW.out)
    clear hown1 hkeep1
    go_wp2_with fail
    go_roundw
    case rel =>
     have hst := limb_step HDL.out HDD.out HDV.out HLO.out HHI.out hlo hhi
     exact ⟨k + 1, ds ++ [lo + 65536 * hi'], by omega, by go_num, by simp [HDL.out], hst.1, hst.2, HO1.out, HB1.out⟩
    case measure => simp [intOf]; omega
   ·have HHI : Hid ((halves h).getD (2 * k + 1) 0 = 0) := by show _ = _; rw [List.getD, List.getElem?_eq_none (by rw [HML.out]; omega)]; rfl
    go_wp2_with (at_builtin; go_loud (refine wpList_append_one rfl _ _ 23 rfl B 107 i0 (.int .u32 0) 4 Tryz.underlying23 hi hz0 hz1 hz2 rfl HO.out rfl rfl rfl (by omega) (by omega) hbs ?_); intro v1 w1 hown1 hkeep1)
    have HO1 := Lib.hid hown1
    have HB1 := Lib.hid (hkeep1 w HBW.out)
    clear hown1 hkeep1
    go_wp2_with fail
    go_roundw
    case rel =>
     have hst := limb_step HDL.out HDD.out HDV.out HLO.out HHI.out hlo (by omega)
     rw [Nat.mul_zero, Nat.add_zero] at hst
     exact ⟨k + 1, ds ++ [lo], by omega, by go_num, by simp [HDL.out], hst.1, hst.2, HO1.out, HB1.out⟩
    case measure => simp [intOf]; omega
  ·go_wp2_with fail
   have hval : nval ds = h := by
    rw [HDV.out]
    show val 65536 _ = _
    rw [val_take_all (by rw [HML.out]; omega)]
    exact hval_halves h
   have hcan := limbs_canon HDL.out HDD.out hval HML.out hk
   refine hR'.out _ _ ⟨_, rfl, ?_, HBW.out⟩
   rw [hcan, HDL.out]; exact HO.out

set_option maxRecDepth 100000 in
set_option maxHeartbeats 400000 in
theorem trim01_any (va : Value) (n : Nat) (xs : List Nat) (w : World) (hr : Rd w 1 va n (ints .u32 xs)) (hl : Lim xs) (hn : n ≤ 1073741824) :
  Calls Tryz.prog 126 #[va] w fun e w' => ∃ v', e = .returned v' ∧ w'.ownsRow w.heap.size 107 1 v' (limbs (nval xs)).length (ints .u32 (limbs (nval xs))) ∧ Below w.heap.size w w' := by
 obtain ⟨p, c, rfl, hnc, hcm, hxl⟩ := hr.u32
 have Hr := Lib.hid hr
 have HL := Lib.hid hl
 have HX := Lib.hid hxl
 clear hr hl hxl
 refine walk_q fun R' hR' => ?_
 go_enter Tryz.func126, Tryz.ntmps126
 go_wp2_with fail
 refine (halves01_any _ n xs _ Hr.out HL.out hn).mono ?_
 rintro e w1 ⟨v1, rfl, hown, hb⟩
 have hlen := halves_len_nval HL.out
 rw [HX.out] at hlen
 have HO := Lib.hid hown
 have HB := Lib.hid hb
 clear hown hb
 go_wp2_with fail
 refine (limbs01_any _ _ (halves (nval xs)) _ (Rd.own HO.out) (halves_half _) (by omega)).mono ?_
 rintro e w2 ⟨v2, rfl, hown, hb⟩
 rw [hval_halves] at hown
 go_wp2_with fail
 exact hR'.out _ _ ⟨_, rfl, Own.mono hown HB.out.size, HB.out.trans (hb.mono HB.out.size)⟩

def AddInv01 (w : World) (B M : Nat) (us ts : List Nat) (ov cv iv : Value) (wr : World) : Prop :=
 ∃ (k carry : Nat) (os : List Nat), k ≤ M + 1 ∧ (k = M + 1 → carry = 0) ∧ iv = .int .i64 (k : Int) ∧ cv = .int .i64 (carry : Int) ∧ carry ≤ 1 ∧ os.length = k ∧ Half os ∧
  hval os + 65536 ^ k * carry = hval (us.take k) + hval (ts.take k) ∧ wr.ownsRow B 3 1 ov k (ints .i64 os) ∧ Below B w wr

theorem add01_step {k carry x y : Nat} {us ts os : List Nat} (hl : os.length = k) (hh : Half os) (hv : hval os + 65536 ^ k * carry = hval (us.take k) + hval (ts.take k)) (hx : us.getD k 0 = x) (hy : ts.getD k 0 = y) :
  Half (os ++ [(x + y + carry) % 65536]) ∧ hval (os ++ [(x + y + carry) % 65536]) + 65536 ^ (k + 1) * ((x + y + carry) / 65536) = hval (us.take (k + 1)) + hval (ts.take (k + 1)) := by
 refine ⟨Dig.append hh (Dig.cons (Nat.mod_lt _ (by omega)) (Dig.nil _)), ?_⟩
 rw [hval_snoc, hl, Nat.pow_succ]
 show _ = val 65536 _ + val 65536 _
 rw [val_take_getD, val_take_getD, hx, hy]
 exact add_stepB 65536 _ _ x y carry _ _ _ hv rfl

theorem getD_beyond {us : List Nat} {k : Nat} (h : us.length ≤ k) : us.getD k 0 = 0 := by rw [List.getD, List.getElem?_eq_none h]; rfl
theorem getD_half {us : List Nat} (h : Half us) (k : Nat) : us.getD k 0 < 65536 := by
 rw [List.getD]
 cases hk : us[k]? with
 | none => simp
 | some x => exact h.at hk

set_option maxRecDepth 100000 in
set_option maxHeartbeats 1000000 in
theorem add01_any (va vb : Value) (n m : Nat) (xs ys : List Nat) (w : World) (hr : Rd w 1 va n (ints .u32 xs)) (hs : Rd w 1 vb m (ints .u32 ys)) (hx : Lim xs) (hy : Lim ys) (hn : n ≤ 1073741824) (hm : m ≤ 1073741824) :
  Calls Tryz.prog 110 #[va, vb] w fun e w' => ∃ v', e = .returned v' ∧ w'.ownsRow w.heap.size 107 1 v' (limbs (nval xs + nval ys)).length (ints .u32 (limbs (nval xs + nval ys))) ∧ Below w.heap.size w w' := by
 obtain ⟨p, c, rfl, hnc, hcm, hxl⟩ := hr.u32
 obtain ⟨q, d, rfl, hmd, hdm, hyl⟩ := hs.u32
 obtain ⟨i0, hi, hz0, hz1, hz2⟩ := info_parts infoInt
 obtain ⟨B, hB⟩ : ∃ B, B = w.heap.size := ⟨_, rfl⟩
 have HB := Lib.hid hB
 have Hr := Lib.hid hr
 have Hs := Lib.hid hs
 have HL := Lib.hid hx
 have HM := Lib.hid hy
 have hlx := halves_len_nval hx
 have hly := halves_len_nval hy
 rw [hxl] at hlx
 rw [hyl] at hly
 obtain ⟨a, ha⟩ : ∃ a, a = nval xs := ⟨_, rfl⟩
 obtain ⟨b, hb⟩ : ∃ b, b = nval ys := ⟨_, rfl⟩
 rw [← ha] at hlx ⊢
 rw [← hb] at hly ⊢
 rw [← hB]
 have HA := Lib.hid ha
 have HBb := Lib.hid hb
 clear hr hs hx hy hxl hyl ha hb hB
 refine walk_q fun R' hR' => ?_
 go_enter Tryz.func110, Tryz.ntmps110
 go_wp2_with fail
 refine (halves01_any _ n xs _ Hr.out HL.out hn).mono ?_
 rintro e w1 ⟨v1, rfl, hown, hb1⟩
 rw [← HA.out, ← HB.out] at hown
 rw [← HB.out] at hb1
 have HO1 := Lib.hid hown
 have HB1 := Lib.hid hb1
 clear hown hb1
 go_wp2_with fail
 refine (halves01_any _ m ys _ (Hs.out.belowB HB.out HB1.out) HM.out hm).mono ?_
 rintro e w2 ⟨v2, rfl, hown, hb2⟩
 rw [← HBb.out] at hown
 have hB1s : B ≤ w1.heap.size := by have := HB1.out.size; have := HB.out; omega
 have HO1b := Lib.hid (Own.below HO1.out hb2)
 have HO2 := Lib.hid (Own.mono hown hB1s)
 have HB2 := Lib.hid (HB1.out.trans (hb2.mono hB1s))
 have hB2s : B ≤ w2.heap.size := by have := hb2.size; omega
 clear hown hb2 HO1 HB1
 obtain ⟨p1, c1, rfl, h11, h12, _⟩ := (Rd.own HO1b.out).i64
 obtain ⟨p2, c2, rfl, h21, h22, _⟩ := (Rd.own HO2.out).i64
 generalize hla : (halves a).length = la at *
 generalize hlb : (halves b).length = lb at *
 have HLA := Lib.hid hla
 have HLB := Lib.hid hlb
 clear hla hlb
 obtain ⟨M, hMa, hMb, hMu, hM⟩ : ∃ M, la ≤ M ∧ lb ≤ M ∧ M ≤ 2147483648 ∧ (la < lb ∧ M = lb ∨ lb ≤ la ∧ M = la) := ⟨max la lb, by omega, by omega, by omega, by omega⟩
 obtain ⟨B2, hB2e⟩ : ∃ B2, B2 = w2.heap.size := ⟨_, rfl⟩
 have HB2e := Lib.hid hB2e
 have hB2s' : B ≤ B2 := by omega
 clear hB2e
 rcases hM with ⟨hab, rfl⟩ | ⟨hab, rfl⟩
 all_goals
  go_wp2_with fail
  go_loopw [7, 8, 9] (fun ov cv iv wr => AddInv01 w2 B2 M (halves a) (halves b) ov cv iv wr) (fun _ cv iv _ => 2 * (M - (intOf iv).toNat) + (intOf cv).toNat)
  case atStart => exact ⟨0, 0, [], by omega, fun _ => rfl, rfl, rfl, by omega, rfl, Dig.nil _, rfl, World.ownsRow_nil _ _ _ _, Below.refl _ _⟩
  case round =>
   obtain ⟨k, carry, os, hk, hk1, rfl, rfl, hc, hol, hoh, hov, hown, hbw⟩ := hrel
   have HO := Lib.hid hown
   have HOL := Lib.hid hol
   have HOH := Lib.hid hoh
   have HOV := Lib.hid hov
   have HK1 := Lib.hid hk1
   have HBW := Lib.hid hbw
   have hbs : B2 ≤ wr.heap.size := by have := hbw.size; have := HB2e.out; omega
   have HRA := Lib.hid ((Rd.own HO1b.out).belowB HB2e.out hbw)
   have HRB := Lib.hid ((Rd.own HO2.out).belowB HB2e.out hbw)
   have hgx := getD_half (halves_half a) k
   have hgy := getD_half (halves_half b) k
   have hxy0 : M ≤ k → (halves a).getD k 0 = 0 ∧ (halves b).getD k 0 = 0 := fun h => ⟨getD_beyond (by rw [HLA.out]; omega), getD_beyond (by rw [HLB.out]; omega)⟩
   clear hown hol hoh hov hk1 hbw
   generalize hx : (halves a).getD k 0 = x at *
   generalize hy : (halves b).getD k 0 = y at *
   have HX := Lib.hid hx
   have HY := Lib.hid hy
   have HXY0 := Lib.hid hxy0
   clear hx hy hxy0
   have hkk : k = M + 1 → carry = 0 := HK1.out
   by_cases hkM : k < M ∨ 0 < carry
   ·clear hkk
    have hguard : decide (k < M) = true ∨ decide (k < M) = false ∧ 0 < carry := by
     by_cases h : k < M
     ·left; simpa using h
     ·right; exact ⟨by simpa using h, by omega⟩
    have HSUM : Hid (((x : Int) + (y : Int) + (carry : Int)).tmod 65536 = (((x + y + carry) % 65536 : Nat) : Int)) := by show _ = _; rw [Int.tmod_eq_emod_of_nonneg (by omega)]; omega
    rcases hguard with hg | ⟨hg, hg2⟩
    all_goals
     go_wp2_with fail
     refine (at01_any _ _ k (halves a) _ HRA.out).mono ?_
     rintro e w3 ⟨rfl, rfl⟩
     rw [HX.out]
     go_wp2_with fail
     refine (at01_any _ _ k (halves b) _ HRB.out).mono ?_
     rintro e w3 ⟨rfl, rfl⟩
     rw [HY.out]
     go_wp2_with (at_builtin; refine wpList_append_one rfl _ _ 135 rfl B2 3 i0 (.int .i64 0) 8 Tryz.underlying135 hi hz0 hz1 hz2 rfl HO.out rfl rfl (d := (x + y + carry) % 65536) (by omega) (by omega) (by omega) hbs ?_; intro v1 w3 hown1 hkeep1)
     have HO4 := Lib.hid hown1
     have HB4 := Lib.hid (hkeep1 w2 HBW.out)
     clear hown1 hkeep1
     go_wp2_with fail
     go_roundw
     case rel =>
      have hst := add01_step HOL.out HOH.out HOV.out HX.out HY.out
      exact ⟨k + 1, (x + y + carry) / 65536, os ++ [(x + y + carry) % 65536], by have := HK1.out; have := HXY0.out; omega, by have := HK1.out; have := HXY0.out; omega, by go_num, by go_num, by omega, by simp [HOL.out], hst.1, hst.2, HO4.out, HB4.out⟩
     case measure => simp [intOf]; have := HXY0.out; omega
   ·have hc0 : carry = 0 := by omega
    have hkM' : M ≤ k := by omega
    have HC0 := Lib.hid hc0
    have hg1 : decide (k < M) = false := by simp; omega
    have hg2 : ¬ (0 < (carry : Int)) := by omega
    have hks : k ≤ M + 1 := by omega
    clear hkk
    clear hc0
    go_wp2_with fail
    refine (limbs01_any _ _ os _ (Rd.own HO.out) HOH.out (by omega)).mono ?_
    rintro e w3 ⟨v3, rfl, hown, hb3⟩
    have hval : hval os = a + b := by
     have := HOV.out
     rw [HC0.out, Nat.mul_zero, Nat.add_zero] at this
     rw [this]
     show val 65536 _ + val 65536 _ = _
     rw [val_take_all (by rw [HLA.out]; omega), val_take_all (by rw [HLB.out]; omega)]
     show hval _ + hval _ = _
     rw [hval_halves, hval_halves]
    rw [hval] at hown
    go_wp2_with fail
    exact hR'.out _ _ ⟨_, rfl, Own.mono hown (by omega), (HB2.out.trans (HBW.out.mono hB2s')).trans (hb3.mono (by omega))⟩
end Go.Proofs.YtofdiijioejljaaGreat
