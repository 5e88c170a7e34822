/- What the reference's number layer computes: Right, plain, made, Cmp, Sign. -/
import Derived.Test.YtkafabgcdlfhiaaBigAll
import Derived.Test.YtkafabgcdlfhiaaRef01D
set_option linter.all false
namespace Go.Proofs.Ytkafabgcdlfhiaa
open Go.RowKit

def icmp (X Y : Int) : Int := (X - Y).sign
theorem icmp_lt {X Y : Int} (h : X < Y) : icmp X Y = -1 := sign_neg (by omega)
theorem icmp_gt {X Y : Int} (h : Y < X) : icmp X Y = 1 := sign_pos (by omega)
theorem icmp_ncmp (a b : Nat) : icmp (a : Int) b = ncmp a b := by
  rcases Nat.lt_trichotomy a b with h | rfl | h
  · rw [icmp_lt (by omega), ncmp_lt h]
  · rw [ncmp_eq]; simp [icmp]
  · rw [icmp_gt (by omega), ncmp_gt h]
theorem icmp_ncmp' (a b : Nat) : icmp (-(a : Int)) (-(b : Int)) = ncmp b a := by
  rw [← icmp_ncmp]; unfold icmp; congr 1; omega
end Go.Proofs.Ytkafabgcdlfhiaa
