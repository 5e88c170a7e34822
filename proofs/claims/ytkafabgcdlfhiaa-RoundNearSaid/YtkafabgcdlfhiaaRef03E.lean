/- What the reference's number layer computes: times. -/
import Derived.Test.YtkafabgcdlfhiaaHalfMath
set_option linter.all false
namespace Go.Proofs.Ytkafabgcdlfhiaa
open Go.RowKit
attribute [local irreducible] vcOps VS

theorem read1 {w : World} {b off k : Nat} {u : Value} {z : Int} (hz : z = (k : Int)) (h : w.cell? ⟨b, off + k, none⟩ = some u) : ∀ j v, [u][j]? = some v → w.cell? ((⟨b, off + z.toNat * 1, none⟩ : Addr).add j) = some v := by
  subst hz
  intro j v hj
  rw [Addr.add_mid, Int.toNat_natCast, Nat.mul_one]
  cases j with
  | zero => cases hj; exact h
  | succ j => cases hj
theorem times_end {i k : Nat} {os xs ys : List Nat} {x : Nat} (hx : xs[i]? = some x) (hk : ys.length ≤ k) (h : hval os + 65536 ^ (i + k) * 0 = hval (xs.take i) * hval ys + 65536 ^ i * (x * hval (ys.take k))) : hval os = hval (xs.take (i + 1)) * hval ys := by
  have e : hval (xs.take (i + 1)) = hval (xs.take i) + 65536 ^ i * x := by
    rw [take_succ_snoc hx, hval_snoc, List.length_take, Nat.min_eq_left (by have := (List.getElem?_eq_some_iff.1 hx).1; omega)]
  rw [Nat.mul_zero, Nat.add_zero, List.take_of_length_le hk] at h
  rw [e, Nat.add_mul, h, Nat.mul_assoc]
theorem times_room {i k n m c : Nat} {os xs ys : List Nat} {x : Nat} (hxh : Half xs) (hyh : Half ys) (hx : xs[i]? = some x) (hn : xs.length = n) (hm : ys.length = m) (hk : m ≤ k) (hc : 0 < c) (h : hval os + 65536 ^ (i + k) * c = hval (xs.take i) * hval ys + 65536 ^ i * (x * hval (ys.take k))) : i + k < n + m + 1 := by
  have hi := (List.getElem?_eq_some_iff.1 hx).1
  have e : hval (xs.take (i + 1)) = hval (xs.take i) + 65536 ^ i * x := by
    rw [take_succ_snoc hx, hval_snoc, List.length_take, Nat.min_eq_left (by omega)]
  have e3 : ys.take k = ys := List.take_of_length_le (by omega)
  have e2 : hval os + 65536 ^ (i + k) * c = hval (xs.take (i + 1)) * hval ys := by
    rw [e, Nat.add_mul, h, e3, Nat.mul_assoc]
  have b1 : hval (xs.take (i + 1)) < 65536 ^ (i + 1) := by
    have := hval_lt (xs := xs.take (i + 1)) (Dig.take hxh _)
    rwa [List.length_take, Nat.min_eq_left (by omega)] at this
  have b2 : hval ys < 65536 ^ m := by have := hval_lt hyh; rwa [hm] at this
  have b3 : hval (xs.take (i + 1)) * hval ys < 65536 ^ (i + 1 + m) := by
    rw [Nat.pow_add]; exact Nat.mul_lt_mul'' b1 b2
  have b4 : 65536 ^ (i + k) ≤ 65536 ^ (i + k) * c := Nat.le_mul_of_pos_right _ hc
  have : 65536 ^ (i + k) < 65536 ^ (i + 1 + m) := by omega
  have := (Nat.pow_lt_pow_iff_right (show 1 < 65536 by omega)).1 this
  omega
theorem half_bound {x y o c : Nat} (hx : x < 65536) (hy : y < 65536) (ho : o < 65536) (hc : c < 65536) : x * y + o + c < 4294967296 := by
  have h1 : x * y ≤ 65535 * 65535 := Nat.mul_le_mul (by omega) (by omega)
  omega

end Go.Proofs.Ytkafabgcdlfhiaa
