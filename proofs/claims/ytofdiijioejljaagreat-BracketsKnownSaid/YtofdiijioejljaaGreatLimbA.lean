/- What the smallest functions of the limb layer compute: sums, products and quotients of limbs, a row without noughts at its end. -/
import Derived.Test.YtofdiijioejljaaGreatRows
import Derived.Test.YtofdiijioejljaaGreatBase
import Derived.Deep.QuietTactic
import Derived.BigQuiet
set_option linter.all false
namespace Go.Proofs.YtofdiijioejljaaGreat
open Go.RowKit

theorem mul_lt64 (a b : Nat) (ha : a < 4294967296) (hb : b < 4294967296) : a * b < 18446744065119617026 := by
 have h1 : a * b ≤ 4294967295 * 4294967295 := Nat.mul_le_mul (by omega) (by omega)
 omega

set_option maxRecDepth 100000 in
set_option maxHeartbeats 400000 in
theorem mul32_any (a b : Nat) (w : World) (ha : a < 4294967296) (hb : b < 4294967296) :
  Calls Tryz.prog 150 #[.int .u32 (a : Int), .int .u32 (b : Int)] w fun e w' => e = .returned (.tuple #[.int .u32 ((a * b / 4294967296 : Nat) : Int), .int .u32 ((a * b % 4294967296 : Nat) : Int)]) ∧ w = w' := by
 have h := mul_lt64 a b ha hb
 have h2 : (a : Int) * (b : Int) < 18446744065119617026 := by rw [← Int.natCast_mul]; omega
 have h3 : 0 ≤ (a : Int) * (b : Int) := by rw [← Int.natCast_mul]; omega
 refine walk_q fun R' hR' => ?_
 go_enter Tryz.func150, Tryz.ntmps150
 go_wp2
 refine hR'.out _ _ ⟨ret2 ?_ ?_, rfl⟩ <;> simp

set_option maxRecDepth 100000 in
set_option maxHeartbeats 400000 in
theorem add32_any (a b c : Nat) (w : World) (ha : a < 4294967296) (hb : b < 4294967296) (hc : c < 4294967296) :
  Calls Tryz.prog 121 #[.int .u32 (a : Int), .int .u32 (b : Int), .int .u32 (c : Int)] w fun e w' => e = .returned (.tuple #[.int .u32 (((a + b + c) % 4294967296 : Nat) : Int), .int .u32 (((a + b + c) / 4294967296 : Nat) : Int)]) ∧ w = w' := by
 refine walk_q fun R' hR' => ?_
 go_enter Tryz.func121, Tryz.ntmps121
 go_wp2
 refine hR'.out _ _ ⟨ret2 ?_ ?_, rfl⟩ <;> simp

set_option maxRecDepth 100000 in
set_option maxHeartbeats 400000 in
theorem div32_any (a b d : Nat) (w : World) (ha : a < d) (hb : b < 4294967296) (hd : d < 4294967296) :
  Calls Tryz.prog 143 #[.int .u32 (a : Int), .int .u32 (b : Int), .int .u32 (d : Int)] w fun e w' =>
   e = .returned (.tuple #[.int .u32 (((a * 4294967296 + b) / d : Nat) : Int), .int .u32 (((a * 4294967296 + b) % d : Nat) : Int)]) ∧ ∃ k, w' = w.drewN k := by
 have hd0 : ((d : Int) != 0) = true := by rw [bne_iff_ne]; omega
 have hd1 : 1 ≤ (d : Int) := by omega
 have hle : ¬ ((d : Int) ≤ (a : Int)) := by omega
 have hor : bits BinOp.or IntKind.u64 ((a : Int) * 4294967296) (b : Int) = ((a * 4294967296 + b : Nat) : Int) := by
  have e1 : ((a : Int) * 4294967296) = ((a * 4294967296 : Nat) : Int) := by simp
  rw [e1, u64_or_nat _ _ (by omega) (by omega), nat_join 32 _ _ (by omega) (by omega)]
 have hq : (a * 4294967296 + b) / d < 4294967296 := by
  rw [Nat.div_lt_iff_lt_mul (by omega)]
  have : (a + 1) * 4294967296 ≤ d * 4294967296 := Nat.mul_le_mul_right _ ha
  rw [Nat.mul_comm 4294967296 d]; omega
 have hq1 : ((a : Int) * 4294967296 + (b : Int)) / (d : Int) < 4294967296 := by
  have : (((a * 4294967296 + b) / d : Nat) : Int) < 4294967296 := by omega
  simpa using this
 have hr : (a * 4294967296 + b) % d < d := Nat.mod_lt _ (by omega)
 have hr1 : ((a : Int) * 4294967296 + (b : Int)) % (d : Int) < 4294967296 := by
  have : (((a * 4294967296 + b) % d : Nat) : Int) < 4294967296 := by omega
  simpa using this
 have hq0 : 0 ≤ ((a : Int) * 4294967296 + (b : Int)) / (d : Int) := by
  exact Int.ediv_nonneg (by omega) (by omega)
 have hr0 : 0 ≤ ((a : Int) * 4294967296 + (b : Int)) % (d : Int) := by
  exact Int.emod_nonneg _ (by omega)
 rw [show ((a * 4294967296 + b : Nat) : Int) = (a : Int) * 4294967296 + (b : Int) by simp] at hor
 clear hq hr
 refine walk_q fun R' hR' => ?_
 go_enter Tryz.func143, Tryz.ntmps143
 go_wp2_with fail
 go_quiet (fail)
 go_wp2
 refine hR'.out _ _ ⟨ret2 ?_ ?_, _, rfl⟩ <;> simp

theorem top_bit (n : Nat) (h : n < 4294967296) : n.testBit 31 = decide (2147483648 ≤ n) := by
 rw [Nat.testBit_eq_decide_div_mod_eq]
 by_cases h' : 2147483648 ≤ n
 ·have : n / 2 ^ 31 = 1 := by omega
  simp [this, h']
 ·have : n / 2 ^ 31 = 0 := by omega
  simp [this]; omega
theorem by_top (n : Nat) (h : n < 4294967296) : n / 2147483648 = (n.testBit 31).toNat := by
 rw [top_bit n h]
 by_cases h' : 2147483648 ≤ n <;> simp [h'] <;> omega
theorem borrow_bit (x y c d : Nat) (hx : x < 4294967296) (hy : y < 4294967296) (hc : c < 2) (hd : d = (x + 8589934592 - y - c) % 4294967296) :
  ((4294967295 ^^^ x) &&& y ||| (4294967295 ^^^ (x ^^^ y)) &&& d) / 2147483648 = if x < y + c then 1 else 0 := by
 have hdl : d < 4294967296 := by omega
 have h1 : 4294967295 ^^^ x < 2 ^ 32 := Nat.xor_lt_two_pow (by omega) (by omega)
 have h2 : x ^^^ y < 2 ^ 32 := Nat.xor_lt_two_pow (by omega) (by omega)
 have h3 : 4294967295 ^^^ (x ^^^ y) < 2 ^ 32 := Nat.xor_lt_two_pow (by omega) h2
 have h4 : (4294967295 ^^^ x) &&& y ||| (4294967295 ^^^ (x ^^^ y)) &&& d < 2 ^ 32 := Nat.or_lt_two_pow (Nat.and_lt_two_pow _ (by omega)) (Nat.and_lt_two_pow _ (by omega))
 rw [by_top _ (by omega)]
 simp only [Nat.testBit_or, Nat.testBit_and, Nat.testBit_xor, top_bit _ hx, top_bit _ hy, top_bit _ hdl, top_bit 4294967295 (by omega)]
 by_cases a1 : 2147483648 ≤ x <;> by_cases a2 : 2147483648 ≤ y <;> by_cases a3 : 2147483648 ≤ d <;> simp [a1, a2, a3] <;> omega

set_option maxRecDepth 100000 in
set_option maxHeartbeats 400000 in
theorem sub32_any (a b c : Nat) (w : World) (ha : a < 4294967296) (hb : b < 4294967296) (hc : c < 2) :
  Calls Tryz.prog 124 #[.int .u32 (a : Int), .int .u32 (b : Int), .int .u32 (c : Int)] w fun e w' =>
   (∃ d r : Nat, e = .returned (.tuple #[.int .u32 (d : Int), .int .u32 (r : Int)]) ∧ d < 4294967296 ∧ r ≤ 1 ∧ a + 4294967296 * r = d + b + c) ∧ w = w' := by
 obtain ⟨d, hd⟩ : ∃ d, d = (a + 8589934592 - b - c) % 4294967296 := ⟨_, rfl⟩
 have hdl : d < 4294967296 := by omega
 have hbb := borrow_bit a b c d ha hb hc hd
 have hdi : ((a : Int) - (b : Int) - (c : Int)) % 4294967296 = (d : Int) := by omega
 have hm : IntKind.u32.max = ((4294967295 : Nat) : Int) := rfl
 have h1 : 4294967295 ^^^ a < 4294967296 := Nat.xor_lt_two_pow (n := 32) (by omega) (by omega)
 have h2 : a ^^^ b < 4294967296 := Nat.xor_lt_two_pow (n := 32) (by omega) (by omega)
 have h3 : 4294967295 ^^^ (a ^^^ b) < 4294967296 := Nat.xor_lt_two_pow (n := 32) (by omega) (by omega)
 have h4 : (4294967295 ^^^ a) &&& b < 4294967296 := Nat.and_lt_two_pow (n := 32) _ (by omega)
 have h5 : (4294967295 ^^^ (a ^^^ b)) &&& d < 4294967296 := Nat.and_lt_two_pow (n := 32) _ (by omega)
 have H : Hid (bits BinOp.or IntKind.u32 (bits BinOp.and IntKind.u32 (bits BinOp.xor IntKind.u32 IntKind.u32.max (a : Int)) (b : Int))
   (bits BinOp.and IntKind.u32 (bits BinOp.xor IntKind.u32 IntKind.u32.max (bits BinOp.xor IntKind.u32 (a : Int) (b : Int))) (((a : Int) - (b : Int) - (c : Int)) % 4294967296)) / 2147483648 = ((if a < b + c then 1 else 0 : Nat) : Int)) := by
  show _ = _
  rw [hdi, hm, u32_xor_nat _ _ (by omega) ha, u32_and_nat _ _ h1 hb, u32_xor_nat _ _ ha hb, u32_xor_nat _ _ (by omega) h2, u32_and_nat _ _ h3 hdl, u32_or_nat _ _ h4 h5, ← hbb]
  simp
 have HD : Hid (((a : Int) - (b : Int) - (c : Int)) % 4294967296 = ((a + 8589934592 - b - c) % 4294967296 : Nat)) := by show _ = _; rw [hdi, hd]
 clear hd hdi hbb hm h1 h2 h3 h4 h5 hdl
 refine walk_q fun R' hR' => ?_
 go_enter Tryz.func124, Tryz.ntmps124
 go_wp2
 all_goals exact hR'.out _ _ ⟨⟨(a + 8589934592 - b - c) % 4294967296, if a < b + c then 1 else 0, ret2 HD.out H.out, Nat.mod_lt _ (by omega), by split <;> omega, by split <;> omega⟩, rfl⟩

set_option maxRecDepth 100000 in
set_option maxHeartbeats 400000 in
theorem trimmed_any (p : Option Addr) (n c : Nat) (xs : List Nat) (w : World) (hr : Rd w 1 (.slice p n c) n (ints .u32 xs)) (hl : Lim xs) :
  Calls Tryz.prog 103 #[.slice p n c] w fun e w' => (∃ m, m ≤ n ∧ e = .returned (.slice p m c) ∧ limbs (nval xs) = xs.take m) ∧ w = w' := by
 have hnc : n ≤ c ∧ c ≤ 9223372036854775807 ∧ xs.length = n := by
  obtain ⟨p', c', hv, h1, h2, h3⟩ := hr.form
  simp only [Value.slice.injEq, true_and] at hv
  obtain ⟨rfl, rfl⟩ := hv
  unfold maxLen at h2
  simp at h3
  exact ⟨h1, by omega, h3⟩
 obtain ⟨hnc, hcm, hxl⟩ := hnc
 have HX : Hid (xs.length = n) := hxl
 clear hxl
 refine walk_q fun R' hR' => ?_
 go_enter Tryz.func103, Tryz.ntmps103
 go_wp2
 go_loop [0] (fun v => ∃ m, m ≤ n ∧ v = .slice p m c ∧ nval (xs.take m) = nval xs) (fun v => match v with | .slice _ m _ => m | _ => 0)
 case atStart => exact ⟨n, Nat.le_refl _, rfl, by rw [List.take_of_length_le (Nat.le_of_eq HX.out)]⟩
 case round =>
  obtain ⟨m, hm, rfl, hv⟩ := hrel
  have HV : Hid (nval (xs.take m) = nval xs) := hv
  clear hv
  by_cases h0 : m = 0
  ·subst h0
   go_wp2
   exact hR'.out _ _ ⟨⟨0, Nat.zero_le _, rfl, digs_take (by omega) hl (Nat.zero_le _) HV.out (.inl rfl)⟩, rfl⟩
  ·obtain ⟨b, off, x, rfl, hb, hx, hc⟩ := hr.cellAt (k := m - 1) (by omega)
   have HX2 : Hid (xs[m-1]? = some x) := hx
   clear hx
   have h0' : 0 < m := by omega
   obtain ⟨j, rfl⟩ : ∃ j, m = j + 1 := ⟨m - 1, by omega⟩
   rw [Nat.add_sub_cancel] at hc
   by_cases hx0 : x = 0
   ·subst hx0
    go_wp2
    go_round
    case rel => exact ⟨j, by omega, rfl, (val_take_of HX2.out).symm.trans HV.out⟩
    case measure => simp
   ·have hx0' : ((x : Int) == 0) = false := by rw [beq_eq_false_iff_ne]; omega
    go_wp2
    exact hR'.out _ _ ⟨⟨j + 1, hm, rfl, digs_take (by omega) hl (by rw [HX.out]; exact hm) HV.out (.inr ⟨x, HX2.out, hx0⟩)⟩, rfl⟩
end Go.Proofs.YtofdiijioejljaaGreat
