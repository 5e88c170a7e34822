/- What the reference of the limb layer computes, part F: shifts to the right, every shift, how many binary digits. -/
import Derived.Test.YtfffohhcabcefaaRef01E
namespace Go.Proofs.Ytfffohhcabcefaa
open Go.RowKit

set_option maxHeartbeats 2000000 in
theorem shift01_down (va : Value) (m n x : Nat) (xs : List Nat) (w : World) (hr : Rd w 1 va m (ints .u32 xs)) (hx : Lim xs) (hv : nval xs = x) (hm : m ≤ 1048576) (hn0 : 0 < n) (hn : n ≤ 9223372036854775808) :
    Calls Try.prog 15 #[va, .int .i64 (-(n : Int))] w fun e w' => ∃ v', e = .returned (.tuple #[v', .int .i64 0]) ∧ IsNat w' w.heap.size v' (x / 2 ^ n) ∧ Below w.heap.size w w' := by
  obtain ⟨p, c, rfl, hnc, hcm, hxl⟩ := hr.u32
  obtain ⟨B, hB⟩ : ∃ B, B = w.heap.size := ⟨_, rfl⟩
  have hxlen : (limbs x).length ≤ 1048576 := by rw [← hv]; exact Nat.le_trans (limbs_len_le hx) (by omega)
  have HB := Lib.hid hB
  have Hr := Lib.hid hr
  have HL := Lib.hid hx
  have HV := Lib.hid hv
  rw [← hB]
  clear hr hx hv hxl hB
  refine walk_q fun R' hR' => ?_
  go_enter Try.func15, Try.ntmps15
  go_wp2_with fail
  refine (trim01_any _ m xs _ Hr.out HL.out (by omega)).mono ?_
  rintro e w1 ⟨v1, rfl, hown, hb1⟩
  rw [HV.out, ← HB.out] at hown
  rw [← HB.out] at hb1
  obtain ⟨p1, c1, rfl, h11, h12, _⟩ := (Rd.own hown).u32
  have HO1 : Hid (IsNat w1 B (.slice p1 (limbs x).length c1) x) := hown
  have HB1 := Lib.hid hb1
  clear hown hb1
  go_wp2_with fail
  refine wp_loop_rounds 1 ?_
  rw [rounds_succ]
  go_wp2_with fail
  refine wp_loop_rounds 1 ?_
  rw [rounds_succ]
  go_wp2_with fail
  go_loopw [6, 1] (fun ov nv wr => DownInv w B x n ov nv wr) (fun _ nv _ => (-(intOf nv)).toNat)
  case atStart => exact ⟨n, Nat.le_refl _, rfl, by rw [Nat.sub_self, Nat.pow_zero, Nat.div_one]; exact HO1.out, HB1.out⟩
  case round =>
    obtain ⟨k, hk, rfl, hown, hbw⟩ := hrel
    have HO := Lib.hid hown
    have HBW := Lib.hid hbw
    have hyl : (limbs (x / 2 ^ (n - k))).length ≤ 1048576 := Nat.le_trans (limbs_len_mono (Nat.div_le_self _ _)) hxlen
    have hbs : B ≤ wr.heap.size := by have := hbw.size; have := HB.out; omega
    obtain ⟨p2, c2, rfl, h21, h22, _⟩ := hown.rd.u32
    clear hown hbw
    by_cases hgo : 16 ≤ k ∧ 0 < (limbs (x / 2 ^ (n - k))).length
    · obtain ⟨hk16, hyp⟩ := hgo
      go_wp2_with fail
      refine (div01_any _ _ 65536 _ _ HO.out.rd (limbs_lim _) (by omega) (by omega)).mono ?_
      rintro e w2 ⟨⟨h, _⟩ | ⟨_, v2, rfl, hown⟩, hb2⟩
      · omega
      · rw [nval_limbs, show (65536 : Nat) = 2 ^ 16 by rfl, down_step hk hk16] at hown
        have HO2 : Hid (IsNat w2 B v2 (x / 2 ^ (n - (k - 16)))) := Own.mono hown hbs
        have HB2 := Lib.hid (HBW.out.trans (hb2.mono hbs))
        clear hown hb2
        go_wp2_with fail
        go_roundw
        case rel => exact ⟨k - 16, by omega, by go_num, HO2.out, HB2.out⟩
        case measure => simp [intOf]; omega
    · have hg : ¬ (16 ≤ k) ∨ 16 ≤ k ∧ ¬ (0 < (limbs (x / 2 ^ (n - k))).length) := by omega
      clear hgo
      rcases hg with hg | ⟨hg, hg2⟩
      all_goals
        go_wp2_with fail
        go_loopw [6, 1] (fun ov nv wr => DownInv w B x n ov nv wr) (fun _ nv _ => (-(intOf nv)).toNat)
        case atStart => exact ⟨k, hk, rfl, HO.out, HBW.out⟩
        case round =>
          clear HO HBW hbs h21 h22 hg hk
          obtain ⟨k, hk, rfl, hown, hbw⟩ := hrel
          have HO := Lib.hid hown
          have HBW := Lib.hid hbw
          have hyl : (limbs (x / 2 ^ (n - k))).length ≤ 1048576 := Nat.le_trans (limbs_len_mono (Nat.div_le_self _ _)) hxlen
          have hbs : B ≤ wr.heap.size := by have := hbw.size; have := HB.out; omega
          obtain ⟨p2, c2, rfl, h21, h22, _⟩ := hown.rd.u32
          clear hown hbw
          by_cases hgo : 0 < k ∧ 0 < (limbs (x / 2 ^ (n - k))).length
          · obtain ⟨hk0, hyp⟩ := hgo
            go_wp2_with fail
            refine (div01_any _ _ 2 _ _ HO.out.rd (limbs_lim _) (by omega) (by omega)).mono ?_
            rintro e w2 ⟨⟨h, _⟩ | ⟨_, v2, rfl, hown⟩, hb2⟩
            · omega
            · rw [nval_limbs, show x / 2 ^ (n - k) / 2 = x / 2 ^ (n - k) / 2 ^ 1 by rfl, down_step hk hk0] at hown
              have HO2 : Hid (IsNat w2 B v2 (x / 2 ^ (n - (k - 1)))) := Own.mono hown hbs
              have HB2 := Lib.hid (HBW.out.trans (hb2.mono hbs))
              clear hown hb2
              go_wp2_with fail
              go_roundw
              case rel => exact ⟨k - 1, by omega, by go_num, HO2.out, HB2.out⟩
              case measure => simp [intOf]; omega
          · have hfin : Hid (x / 2 ^ (n - k) = x / 2 ^ n) := by
              show _ = _
              by_cases h0 : k = 0
              · subst h0; rfl
              · have hz : x / 2 ^ (n - k) = 0 := limbs_len_zero (by omega)
                have h2 := down_step (x := x) hk (Nat.le_refl k)
                rw [Nat.sub_self, Nat.sub_zero, hz, Nat.zero_div] at h2
                rw [hz, h2]
            have hg : ¬ (0 < k) ∨ 0 < k ∧ ¬ (0 < (limbs (x / 2 ^ (n - k))).length) := by omega
            clear hgo
            rcases hg with hg | ⟨hg, hg2⟩
            all_goals
              go_wp2_with fail
              have := HO.out
              rw [hfin.out] at this
              refine hR'.out _ _ ⟨_, rfl, ?_, HBW.out⟩
              rw [← hfin.out]; exact HO.out

set_option maxHeartbeats 2000000 in
theorem shift01_any (va : Value) (m x : Nat) (n : Int) (xs : List Nat) (w : World) (hr : Rd w 1 va m (ints .u32 xs)) (hx : Lim xs) (hv : nval xs = x) (hm : m ≤ 1048576) (hn0 : -9223372036854775808 ≤ n) (hn1 : n ≤ 9223372036854775807) :
    Calls Try.prog 15 #[va, .int .i64 n] w fun e w' => ((x ≠ 0 ∧ 65536 < n ∧ e = .returned (.tuple #[.slice none 0 0, .int .i64 3])) ∨
      (¬ (x ≠ 0 ∧ 65536 < n) ∧ ∃ v', e = .returned (.tuple #[v', .int .i64 0]) ∧ IsNat w' w.heap.size v' (shiftN x n))) ∧ Below w.heap.size w w' := by
  by_cases hneg : n < 0
  · obtain ⟨k, rfl⟩ : ∃ k : Nat, n = -(k : Int) := ⟨(-n).toNat, by omega⟩
    refine (shift01_down va m k x xs w hr hx hv hm (by omega) (by omega)).mono ?_
    rintro e w' ⟨v', rfl, hown, hb⟩
    refine ⟨.inr ⟨by omega, v', rfl, ?_⟩, hb⟩
    have : shiftN x (-(k : Int)) = x / 2 ^ k := by unfold shiftN; rw [if_neg (by omega)]; simp
    rw [this]; exact hown
  · obtain ⟨k, rfl⟩ := Int.eq_ofNat_of_zero_le (show 0 ≤ n by omega)
    by_cases hpos : x ≠ 0 ∧ k ≤ 65536
    · refine (shift01_up va m k x xs w hr hx hv hm hpos.1 hpos.2).mono ?_
      rintro e w' ⟨v', rfl, hown, hb⟩
      refine ⟨.inr ⟨by omega, v', rfl, ?_⟩, hb⟩
      have : shiftN x (k : Int) = x * 2 ^ k := by simp [shiftN]
      rw [this]; exact hown
    · obtain ⟨p, c, rfl, hnc, hcm, hxl⟩ := hr.u32
      have Hr := Lib.hid hr
      have HL := Lib.hid hx
      have HV := Lib.hid hv
      clear hr hx hv hxl
      refine walk_q fun R' hR' => ?_
      go_enter Try.func15, Try.ntmps15
      go_wp2_with fail
      refine (trim01_any _ m xs _ Hr.out HL.out (by omega)).mono ?_
      rintro e w1 ⟨v1, rfl, hown, hb1⟩
      rw [HV.out] at hown
      obtain ⟨p1, c1, rfl, h11, h12, _⟩ := (Rd.own hown).u32
      have HO1 : Hid (IsNat w1 w.heap.size (.slice p1 (limbs x).length c1) x) := hown
      have HB1 := Lib.hid hb1
      clear hown hb1
      by_cases hx0 : x = 0
      · have hl0 : (limbs x).length = 0 := by rw [hx0, limbs_zero]; rfl
        have hl1 : ¬ (0 < (limbs x).length) := by omega
        have HX0 := Lib.hid hx0
        clear hx0 hpos hl0
        have hk2 : (65536 < (k : Int)) ∨ ¬ (65536 < (k : Int)) ∧ 16 ≤ (k : Int) ∨ ¬ (65536 < (k : Int)) ∧ ¬ (16 ≤ (k : Int)) ∧ 0 < (k : Int) ∨ ¬ (65536 < (k : Int)) ∧ ¬ (16 ≤ (k : Int)) ∧ ¬ (0 < (k : Int)) := by omega
        rcases hk2 with h1 | ⟨h1, h2⟩ | ⟨h1, h2, h3⟩ | ⟨h1, h2, h3⟩
        all_goals
          go_wp2_with fail
          refine wp_loop_rounds 1 ?_
          rw [rounds_succ]
          go_wp2_with fail
          refine wp_loop_rounds 1 ?_
          rw [rounds_succ]
          go_wp2_with fail
          refine wp_loop_rounds 1 ?_
          rw [rounds_succ]
          go_wp2_with fail
          refine wp_loop_rounds 1 ?_
          rw [rounds_succ]
          go_wp2_with fail
          refine hR'.out _ _ ⟨.inr ⟨fun h => h.1 HX0.out, _, rfl, ?_⟩, HB1.out⟩
          have : shiftN x (k : Int) = x := by rw [HX0.out]; simp [shiftN]
          rw [this]; exact HO1.out
      · have hl1 : 0 < (limbs x).length := limbs_len_pos hx0
        have hk : 65536 < (k : Int) := by omega
        have HX0 := Lib.hid hx0
        clear hx0 hpos
        go_wp2_with fail
        exact hR'.out _ _ ⟨.inl ⟨HX0.out, hk, rfl⟩, HB1.out⟩

set_option maxHeartbeats 1000000 in
theorem bits01_any (va : Value) (m : Nat) (xs : List Nat) (w : World) (hr : Rd w 1 va m (ints .u32 xs)) (hx : Lim xs) (hm : m ≤ 1073741824) :
    Calls Try.prog 28 #[va] w fun e w' => e = .returned (.int .i64 (blen (nval xs) : Int)) ∧ Below w.heap.size w w' := by
  obtain ⟨p, c, rfl, hnc, hcm, hxl⟩ := hr.u32
  obtain ⟨x, hx'⟩ : ∃ x, x = nval xs := ⟨_, rfl⟩
  have hlx := halves_len_nval hx
  rw [hxl] at hlx
  rw [← hx'] at hlx ⊢
  have Hr := Lib.hid hr
  have HL := Lib.hid hx
  have HV := Lib.hid hx'.symm
  clear hxl hr hx hx'
  refine walk_q fun R' hR' => ?_
  go_enter Try.func28, Try.ntmps28
  go_wp2_with fail
  refine (halves01_any _ m xs _ Hr.out HL.out hm).mono ?_
  rintro e w1 ⟨v1, rfl, hown, hb1⟩
  rw [HV.out] at hown
  have HRA := Lib.hid (Rd.own hown)
  have HB1 := Lib.hid hb1
  clear hown hb1
  obtain ⟨p1, c1, rfl, h11, h12, _⟩ := HRA.out.i64
  generalize hla : (halves x).length = M at *
  have HLA := Lib.hid hla
  by_cases hx0 : x = 0
  · have hm0 : M = 0 := by rw [← hla, hx0, halves_zero]; rfl
    have hmb : ((M : Int) == 0) = true := by rw [beq_iff_eq]; omega
    have HX0 := Lib.hid hx0
    clear hx0 hm0 hla
    go_wp2_with fail
    exact hR'.out _ _ ⟨ret1 (by rw [HX0.out]; rfl), HB1.out⟩
  · have hm0 : 0 < M := by rw [← hla]; exact digs_length_pos (by omega) hx0
    have hmb : ((M : Int) == 0) = false := by rw [beq_eq_false_iff_ne]; omega
    clear hla
    obtain ⟨b, off, t, rfl, _, ht, hcell⟩ := HRA.out.cellAt (k := M - 1) (by omega)
    have htop := blen_topB (B := 65536) (j := 16) (n := x) (t := t) rfl (by omega) (by show (halves x)[(halves x).length - 1]? = _; rw [HLA.out]; exact ht)
    have htop1 : blen x = 16 * (M - 1) + blen t := by
      have h1 := htop.1
      have h2 : (digs 65536 x).length = M := HLA.out
      rw [h2] at h1
      exact h1
    have HT := Lib.hid htop1
    have ht32 := (halves_half x).at ht
    have htb : blen t ≤ 16 := blen_le_of_lt ht32
    have hi1 : 0 ≤ (M : Int) - 1 := by omega
    have hi2 : (M : Int) - 1 < (M : Int) := by omega
    have hi3 : ((M : Int) - 1).toNat = M - 1 := by omega
    clear ht htop htop1
    go_wp2_with fail
    go_loop [4, 5] (fun nv tv => ∃ cnt t' : Nat, nv = .int .i64 (cnt : Int) ∧ tv = .int .i64 (t' : Int) ∧ cnt + blen t' = 16 * (M - 1) + blen t ∧ t' < 65536) (fun _ tv => (intOf tv).toNat)
    case atStart => exact ⟨16 * (M - 1), t, congrArg (Value.int .i64) (by omega), rfl, rfl, ht32⟩
    case round =>
      obtain ⟨cnt, t', rfl, rfl, hcnt, ht'⟩ := hrel
      by_cases h15 : 0 < t'
      · have hb2 := blen_half (t := t') (by omega)
        go_wp2_with fail
        go_round
        case rel => exact ⟨cnt + 1, t' / 2, by go_num, by go_num, by omega, by omega⟩
        case measure => simp [intOf]; omega
      · obtain rfl : t' = 0 := by omega
        rw [blen_zero, Nat.add_zero] at hcnt
        have HC := Lib.hid hcnt
        clear hcnt
        go_wp2_with fail
        exact hR'.out _ _ ⟨ret1 (by rw [HT.out, ← HC.out]), HB1.out⟩

end Go.Proofs.Ytfffohhcabcefaa
