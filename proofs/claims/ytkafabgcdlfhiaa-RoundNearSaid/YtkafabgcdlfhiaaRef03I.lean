/- What the reference's number layer computes: Gcd. -/
import Derived.Test.YtkafabgcdlfhiaaRef03H
set_option linter.all false
namespace Go.Proofs.Ytkafabgcdlfhiaa
open Go.RowKit
attribute [local irreducible] vcOps VS

theorem gcd_len {a b N : Nat} (hb : b ≠ 0) (ha : (halves a).length ≤ N) (hbl : (halves b).length ≤ N) : (halves (a % b)).length ≤ N := Nat.le_trans (digs_len_mono (by omega) (Nat.le_of_lt (Nat.mod_lt a (Nat.pos_of_ne_zero hb)))) hbl
end Go.Proofs.Ytkafabgcdlfhiaa
