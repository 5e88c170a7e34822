/- What the reference's number layer computes: Mul, DivMod, Gcd. -/
import Derived.Test.YtkafabgcdlfhiaaRef03G
set_option linter.all false
namespace Go.Proofs.Ytkafabgcdlfhiaa
open Go.RowKit
attribute [local irreducible] vcOps VS

theorem IntIn.kpI {w w' : World} {v : Value} {X : Int} {j : Nat} (h : IntIn w v X j) (k : KpS KI w w') : IntIn w' v X j := h.kp (U := UU) k.weak
theorem IntRd.kpI {w w' : World} {v : Value} {X : Int} (h : IntRd w v X) (k : KpS KI w w') : IntRd w' v X := h.kp (U := UU) k.weak
theorem IntOwn.kpI {w w' : World} {B : Nat} {v : Value} {X : Int} (h : IntOwn w B v X) (k : KpS KI w w') : IntOwn w' B v X := h.kp k.weak
theorem Rd.kpI {w w' : World} {v : Value} {n : Nat} {xs : List Nat} (h : Rd w 1 v n (ints .u32 xs)) (k : KpS KI w w') : Rd w' 1 v n (ints .u32 xs) := h.kp (U := UU) k.weak
theorem OwnU.kpI {w w' : World} {B n : Nat} {v : Value} {cs : List Value} (h : w.ownsRow B UU 1 v n cs) (k : KpS KI w w') : w'.ownsRow B UU 1 v n cs := Own.kp h k.weak
theorem halves_len2 (a : Nat) : (halves a).length ≤ 2 * (limbs a).length := by
  have := halves_len_nval (limbs_lim a)
  rwa [nval_limbs] at this
theorem limbs_half (a : Nat) : (limbs a).length ≤ (halves a).length := by
  refine limbs_length_le _ _ ?_
  have h1 : a < 65536 ^ (halves a).length := lt_pow_digs (by omega) a
  refine Nat.lt_of_lt_of_le h1 (Nat.pow_le_pow_left (by omega) _)
theorem prod_sgn {X Y : Int} {s t : Bool} (hX : X = if s = true then -(X.natAbs : Int) else X.natAbs) (hY : Y = if t = true then -(Y.natAbs : Int) else Y.natAbs) : (if (!(s == t)) = true then -((X.natAbs * Y.natAbs : Nat) : Int) else ((X.natAbs * Y.natAbs : Nat) : Int)) = X * Y := by
  generalize X.natAbs = a at *
  generalize Y.natAbs = b at *
  subst hX hY
  cases s <;> cases t <;> simp [Int.neg_mul, Int.mul_neg]

theorem sign_of {s : Bool} {n : Nat} (h : n ≠ 0) : (if s = true then -(n : Int) else n).sign = if s = true then -1 else 1 := by
  cases s
  · exact sign_pos (by simp; omega)
  · exact sign_neg (by simp; omega)
theorem div_len {a b : Nat} : (halves (a / b)).length ≤ (halves a).length := digs_len_mono (by omega) (Nat.div_le_self _ _)
theorem mod_len {a b : Nat} : (halves (a % b)).length ≤ (halves a).length := digs_len_mono (by omega) (Nat.mod_le _ _)
theorem rdiv_sz {xs : List Nat} {a : Nat} {s : Bool} (hl : Lim xs) (hv : nval xs = a) : Sz (if s = true then -((nval xs : Nat) : Int) else nval xs) xs.length := by
  unfold Sz
  have : (if s = true then -((nval xs : Nat) : Int) else nval xs).natAbs = nval xs := by cases s <;> simp
  rw [this]
  exact limbs_len_le hl
end Go.Proofs.Ytkafabgcdlfhiaa
