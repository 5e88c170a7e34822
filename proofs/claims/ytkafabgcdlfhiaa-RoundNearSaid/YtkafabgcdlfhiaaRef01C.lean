/- What the reference of the limb layer computes, part C: comparison, difference, product with a limb. -/
import Derived.Test.YtkafabgcdlfhiaaRef01B
set_option linter.all false
namespace Go.Proofs.Ytkafabgcdlfhiaa
open Go.RowKit

/-- the two rows of half limbs of two naturals, both made by the call -/
def CmpInv (w : World) (us ts : List Nat) (M : Nat) (iv : Value) (wr : World) : Prop :=
  ∃ k : Nat, k ≤ M ∧ iv = .int .i64 ((k : Int) - 1) ∧ hval us + hval (ts.take k) = hval ts + hval (us.take k) ∧ w = wr

theorem take_zero_val (us : List Nat) : hval (us.take 0) = 0 := by simp [hval, val]
theorem cmp_eq_step {us ts : List Nat} {k x : Nat} (hx : us.getD k 0 = x) (hy : ts.getD k 0 = x) (h : hval us + hval (ts.take (k + 1)) = hval ts + hval (us.take (k + 1))) : hval us + hval (ts.take k) = hval ts + hval (us.take k) := by
  have h1 : hval (ts.take (k + 1)) = hval (ts.take k) + 65536 ^ k * x := by rw [← hy]; exact val_take_getD 65536 ts k
  have h2 : hval (us.take (k + 1)) = hval (us.take k) + 65536 ^ k * x := by rw [← hx]; exact val_take_getD 65536 us k
  omega
theorem cmp_lt_step {us ts : List Nat} {k x y : Nat} (hu : Half us) (hx : us.getD k 0 = x) (hy : ts.getD k 0 = y) (hxy : x < y) (h : hval us + hval (ts.take (k + 1)) = hval ts + hval (us.take (k + 1))) : hval us < hval ts := by
  have h1 : hval (ts.take (k + 1)) = hval (ts.take k) + 65536 ^ k * y := by rw [← hy]; exact val_take_getD 65536 ts k
  have h2 : hval (us.take (k + 1)) = hval (us.take k) + 65536 ^ k * x := by rw [← hx]; exact val_take_getD 65536 us k
  have h3 : hval (us.take k) < 65536 ^ k := by
    have h4 := hval_lt (Dig.take hu k)
    have h5 := Nat.pow_le_pow_right (show 0 < 65536 by omega) (show (us.take k).length ≤ k by rw [List.length_take]; omega)
    omega
  have h4 : 65536 ^ k * x + 65536 ^ k ≤ 65536 ^ k * y := by
    have := Nat.mul_le_mul_left (65536 ^ k) (show x + 1 ≤ y from hxy)
    rwa [Nat.mul_add, Nat.mul_one] at this
  omega

def MulInv01 (w : World) (B M m : Nat) (us : List Nat) (ov cv iv : Value) (wr : World) : Prop :=
  ∃ (k carry : Nat) (os : List Nat), k ≤ M + 2 ∧ (k = M + 1 → carry < 65536) ∧ (k = M + 2 → carry = 0) ∧ iv = .int .i64 (k : Int) ∧ cv = .int .i64 (carry : Int) ∧ carry ≤ m ∧ os.length = k ∧ Half os ∧
    hval os + 65536 ^ k * carry = hval (us.take k) * m ∧ wr.ownsRow B 3 1 ov k (ints .i64 os) ∧ Below B w wr

theorem mul01_step {k carry x m : Nat} {us os : List Nat} (hl : os.length = k) (hh : Half os) (hv : hval os + 65536 ^ k * carry = hval (us.take k) * m) (hx : us.getD k 0 = x) :
    Half (os ++ [(x * m + carry) % 65536]) ∧ hval (os ++ [(x * m + carry) % 65536]) + 65536 ^ (k + 1) * ((x * m + carry) / 65536) = hval (us.take (k + 1)) * m := by
  refine ⟨Dig.append hh (Dig.cons (Nat.mod_lt _ (by omega)) (Dig.nil _)), ?_⟩
  rw [hval_snoc, hl, Nat.pow_succ]
  show _ = val 65536 _ * m
  rw [val_take_getD, hx]
  exact mul_stepB 65536 _ x m carry _ _ hv
theorem mul01_bound (x m carry : Nat) (hx : x < 65536) (hc : carry ≤ m) : (x * m + carry) / 65536 ≤ m := by
  have h1 : x * m ≤ 65535 * m := Nat.mul_le_mul_right _ (by omega)
  omega


end Go.Proofs.Ytkafabgcdlfhiaa
