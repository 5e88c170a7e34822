/- What the reference of the limb layer computes, part E: shifts, how many binary digits. -/
import Derived.Test.YtfffohhcabcefaaRef01D
import Derived.Test.YtfffohhcabcefaaLimbE
namespace Go.Proofs.Ytfffohhcabcefaa
open Go.RowKit

/-- a row of the call's own that is the canonical one of a natural -/
def IsNat (w : World) (B : Nat) (v : Value) (x : Nat) : Prop := w.ownsRow B 23 1 v (limbs x).length (ints .u32 (limbs x))
theorem IsNat.rd {w : World} {B x : Nat} {v : Value} (h : IsNat w B v x) : Rd w 1 v (limbs x).length (ints .u32 (limbs x)) := Rd.own h
theorem IsNat.mono {w : World} {B B' x : Nat} {v : Value} (h : IsNat w B v x) (hB : B' ≤ B) : IsNat w B' v x := Own.mono h hB
theorem IsNat.below {w w' : World} {B x : Nat} {v : Value} (h : IsNat w B v x) (hb : Below w.heap.size w w') : IsNat w' B v x := Own.below h hb

theorem len_mul_two_pow (x j : Nat) : (limbs (x * 2 ^ j)).length ≤ (limbs x).length + j / 32 + 1 := by
  apply limbs_length_le
  have h1 := lt_pow_limbs x
  have h2 : 2 ^ j ≤ 4294967296 ^ (j / 32 + 1) := by rw [pow32]; exact Nat.pow_le_pow_right (by omega) (by omega)
  rw [Nat.add_assoc, Nat.pow_add]
  exact Nat.mul_lt_mul_of_lt_of_le h1 h2 (Nat.pow_pos (by omega))

/-- to the left: what is still to come -/
def UpInv (w : World) (B x n : Nat) (ov nv : Value) (wr : World) : Prop := ∃ k : Nat, k ≤ n ∧ nv = .int .i64 (k : Int) ∧ IsNat wr B ov (x * 2 ^ (n - k)) ∧ Below B w wr
/-- to the right: what is still to come -/
def DownInv (w : World) (B x n : Nat) (ov nv : Value) (wr : World) : Prop := ∃ k : Nat, k ≤ n ∧ nv = .int .i64 (-(k : Int)) ∧ IsNat wr B ov (x / 2 ^ (n - k)) ∧ Below B w wr

theorem up_step {x n k j : Nat} (hk : k ≤ n) (hj : j ≤ k) : x * 2 ^ (n - k) * 2 ^ j = x * 2 ^ (n - (k - j)) := by
  rw [Nat.mul_assoc, ← Nat.pow_add]; congr 2; omega
theorem down_step {x n k j : Nat} (hk : k ≤ n) (hj : j ≤ k) : x / 2 ^ (n - k) / 2 ^ j = x / 2 ^ (n - (k - j)) := by
  rw [Nat.div_div_eq_div_mul, ← Nat.pow_add]; congr 2; omega

set_option maxHeartbeats 2000000 in
theorem shift01_up (va : Value) (m n x : Nat) (xs : List Nat) (w : World) (hr : Rd w 1 va m (ints .u32 xs)) (hx : Lim xs) (hv : nval xs = x) (hm : m ≤ 1048576) (hx0 : x ≠ 0) (hn : n ≤ 65536) :
    Calls Try.prog 15 #[va, .int .i64 (n : Int)] w fun e w' => ∃ v', e = .returned (.tuple #[v', .int .i64 0]) ∧ IsNat w' w.heap.size v' (x * 2 ^ n) ∧ Below w.heap.size w w' := by
  obtain ⟨p, c, rfl, hnc, hcm, hxl⟩ := hr.u32
  obtain ⟨B, hB⟩ : ∃ B, B = w.heap.size := ⟨_, rfl⟩
  have hxlen : (limbs x).length ≤ 1048576 := by rw [← hv]; exact Nat.le_trans (limbs_len_le hx) (by omega)
  have HB := Lib.hid hB
  have Hr := Lib.hid hr
  have HL := Lib.hid hx
  have HV := Lib.hid hv
  rw [← hB]
  clear hr hx hv hxl hB
  refine walk_q fun R' hR' => ?_
  go_enter Try.func15, Try.ntmps15
  go_wp2_with fail
  refine (trim01_any _ m xs _ Hr.out HL.out (by omega)).mono ?_
  rintro e w1 ⟨v1, rfl, hown, hb1⟩
  rw [HV.out, ← HB.out] at hown
  rw [← HB.out] at hb1
  obtain ⟨p1, c1, rfl, h11, h12, _⟩ := (Rd.own hown).u32
  have hlp := limbs_len_pos hx0
  have hni : ¬ (65536 < (n : Int)) := by omega
  have HO1 : Hid (IsNat w1 B (.slice p1 (limbs x).length c1) x) := hown
  have HB1 := Lib.hid hb1
  clear hown hb1
  go_wp2_with fail
  go_loopw [6, 1] (fun ov nv wr => UpInv w B x n ov nv wr) (fun _ nv _ => (intOf nv).toNat)
  case atStart => exact ⟨n, Nat.le_refl _, rfl, by rw [Nat.sub_self, Nat.pow_zero, Nat.mul_one]; exact HO1.out, HB1.out⟩
  case round =>
    obtain ⟨k, hk, rfl, hown, hbw⟩ := hrel
    have HO := Lib.hid hown
    have HBW := Lib.hid hbw
    have hy0 : x * 2 ^ (n - k) ≠ 0 := Nat.mul_ne_zero hx0 (by have := Nat.pow_pos (n := n - k) (show 0 < 2 by omega); omega)
    have hyl := len_mul_two_pow x (n - k)
    have hyp := limbs_len_pos hy0
    have hbs : B ≤ wr.heap.size := by have := hbw.size; have := HB.out; omega
    obtain ⟨p2, c2, rfl, h21, h22, _⟩ := hown.rd.u32
    clear hown hbw hlp
    by_cases hk16 : 16 ≤ k
    · go_wp2_with fail
      refine (mul01_any _ _ 65536 _ _ HO.out.rd (limbs_lim _) (by omega) (by omega)).mono ?_
      rintro e w2 ⟨v2, rfl, hown, hb2⟩
      rw [nval_limbs, show (65536 : Nat) = 2 ^ 16 by rfl, up_step hk hk16] at hown
      have HO2 : Hid (IsNat w2 B v2 (x * 2 ^ (n - (k - 16)))) := Own.mono hown hbs
      have HB2 := Lib.hid (HBW.out.trans (hb2.mono hbs))
      clear hown hb2
      go_wp2_with fail
      go_roundw
      case rel => exact ⟨k - 16, by omega, by go_num, HO2.out, HB2.out⟩
      case measure => simp [intOf]; omega
    · clear hy0 hyl hyp
      go_wp2_with fail
      go_loopw [6, 1] (fun ov nv wr => UpInv w B x n ov nv wr) (fun _ nv _ => (intOf nv).toNat)
      case atStart => exact ⟨k, hk, rfl, HO.out, HBW.out⟩
      case round =>
        rename_i wo _ _ _ _ _
        clear HO HBW hbs h21 h22 hk16 hk
        obtain ⟨k, hk, rfl, hown, hbw⟩ := hrel
        have HO := Lib.hid hown
        have HBW := Lib.hid hbw
        have hy0 : x * 2 ^ (n - k) ≠ 0 := Nat.mul_ne_zero hx0 (by have := Nat.pow_pos (n := n - k) (show 0 < 2 by omega); omega)
        have hyl := len_mul_two_pow x (n - k)
        have hyp := limbs_len_pos hy0
        have hbs : B ≤ wr.heap.size := by have := hbw.size; have := HB.out; omega
        obtain ⟨p2, c2, rfl, h21, h22, _⟩ := hown.rd.u32
        clear hown hbw
        by_cases hk0 : 0 < k
        · go_wp2_with fail
          refine (add01_any _ _ _ _ _ _ _ HO.out.rd HO.out.rd (limbs_lim _) (limbs_lim _) (by omega) (by omega)).mono ?_
          rintro e w2 ⟨v2, rfl, hown, hb2⟩
          rw [nval_limbs, ← Nat.mul_two, show x * 2 ^ (n - k) * 2 = x * 2 ^ (n - k) * 2 ^ 1 by rfl, up_step hk hk0] at hown
          have HO2 : Hid (IsNat w2 B v2 (x * 2 ^ (n - (k - 1)))) := Own.mono hown hbs
          have HB2 := Lib.hid (HBW.out.trans (hb2.mono hbs))
          clear hown hb2
          go_wp2_with fail
          go_roundw
          case rel => exact ⟨k - 1, by omega, by go_num, HO2.out, HB2.out⟩
          case measure => simp [intOf]; omega
        · obtain rfl : k = 0 := by omega
          clear hy0 hyl hyp
          go_wp2_with fail
          refine wp_loop_rounds 1 ?_
          rw [rounds_succ]
          go_wp2_with fail
          refine wp_loop_rounds 1 ?_
          rw [rounds_succ]
          go_wp2_with fail
          have := HO.out
          rw [Nat.sub_zero] at this
          exact hR'.out _ _ ⟨_, rfl, this, HBW.out⟩

end Go.Proofs.Ytfffohhcabcefaa
