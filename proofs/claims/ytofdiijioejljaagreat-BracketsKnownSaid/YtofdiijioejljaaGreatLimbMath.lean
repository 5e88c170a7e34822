/- Plain arithmetic of rows of digits to a base: values, canonical digits, lengths. No program in sight. -/
import Derived.Lib.Hide
set_option linter.all false
namespace Go.Proofs.YtofdiijioejljaaGreat

def val (B : Nat) : List Nat → Nat
 | [] => 0
 | x :: xs => x + B * val B xs

def Dig (B : Nat) (xs : List Nat) : Prop := ∀ x ∈ xs, x < B

def digs (B : Nat) (n : Nat) : List Nat :=
 if _h : n = 0 ∨ B < 2 then [] else n % B :: digs B (n / B)
termination_by n
decreasing_by
 have : n ≠ 0 ∧ 2 ≤ B := by omega
 exact Nat.div_lt_self (by omega) (by omega)

theorem val_nil (B : Nat) : val B [] = 0 := rfl
theorem val_cons (B x : Nat) (xs : List Nat) : val B (x :: xs) = x + B * val B xs := rfl
theorem digs_zero (B : Nat) : digs B 0 = [] := by rw [digs]; simp
theorem digs_pos {B n : Nat} (hB : 2 ≤ B) (hn : n ≠ 0) : digs B n = n % B :: digs B (n / B) := by
 rw [digs, dif_neg (by omega)]

theorem Dig.nil (B : Nat) : Dig B [] := fun _ h => by cases h
theorem Dig.cons {B x : Nat} {xs : List Nat} (hx : x < B) (h : Dig B xs) : Dig B (x :: xs) := by
 intro y hy; cases hy with
 | head => exact hx
 | tail _ h' => exact h y h'
theorem Dig.head {B x : Nat} {xs : List Nat} (h : Dig B (x :: xs)) : x < B := h x (List.mem_cons_self ..)
theorem Dig.tail {B x : Nat} {xs : List Nat} (h : Dig B (x :: xs)) : Dig B xs := fun y hy => h y (List.mem_cons_of_mem _ hy)
theorem Dig.take {B : Nat} {xs : List Nat} (h : Dig B xs) (k : Nat) : Dig B (xs.take k) := fun y hy => h y (List.mem_of_mem_take hy)
theorem Dig.drop {B : Nat} {xs : List Nat} (h : Dig B xs) (k : Nat) : Dig B (xs.drop k) := fun y hy => h y (List.mem_of_mem_drop hy)
theorem Dig.append {B : Nat} {xs ys : List Nat} (h : Dig B xs) (h' : Dig B ys) : Dig B (xs ++ ys) := by
 intro y hy; rcases List.mem_append.1 hy with hy | hy
 ·exact h y hy
 ·exact h' y hy
theorem Dig.at {B : Nat} {xs : List Nat} (h : Dig B xs) {k x : Nat} (hk : xs[k]? = some x) : x < B := h x (List.mem_of_getElem? hk)
theorem Dig.replicate {B : Nat} (hB : 0 < B) (k : Nat) : Dig B (List.replicate k 0) := fun y hy => by
 rw [List.mem_replicate] at hy; omega

theorem digs_dig {B : Nat} (hB : 2 ≤ B) : ∀ n, Dig B (digs B n) := by
 intro n
 induction n using Nat.strongRecOn with
 | _ n ih =>
  by_cases hn : n = 0
  ·subst hn; rw [digs_zero]; exact Dig.nil B
  ·rw [digs_pos hB hn]
   exact Dig.cons (Nat.mod_lt _ (by omega)) (ih _ (Nat.div_lt_self (by omega) (by omega)))

theorem val_digs {B : Nat} (hB : 2 ≤ B) : ∀ n, val B (digs B n) = n := by
 intro n
 induction n using Nat.strongRecOn with
 | _ n ih =>
  by_cases hn : n = 0
  ·subst hn; rw [digs_zero]; rfl
  ·rw [digs_pos hB hn, val_cons, ih _ (Nat.div_lt_self (by omega) (by omega))]
   exact Nat.mod_add_div n B

theorem val_lt {B : Nat} : ∀ {xs : List Nat}, Dig B xs → val B xs < B ^ xs.length := by
 intro xs
 induction xs with
 | nil => intro _; simp [val]
 | cons x xs ih =>
  intro h
  have h1 := ih h.tail
  have hx := h.head
  rw [val_cons, List.length_cons, Nat.pow_succ, Nat.mul_comm (B ^ xs.length) B]
  calc x + B * val B xs < B + B * val B xs := by omega
   _ = B * (val B xs + 1) := by rw [Nat.mul_add]; omega
   _ ≤ B * B ^ xs.length := Nat.mul_le_mul_left _ h1

theorem val_append (B : Nat) : ∀ (xs ys : List Nat), val B (xs ++ ys) = val B xs + B ^ xs.length * val B ys := by
 intro xs ys
 induction xs with
 | nil => simp [val]
 | cons x xs ih =>
  rw [List.cons_append, val_cons, ih, val_cons, List.length_cons, Nat.pow_succ, Nat.mul_add, Nat.add_assoc]
  congr 2
  rw [← Nat.mul_assoc, Nat.mul_comm B (B ^ xs.length)]

theorem val_snoc (B : Nat) (xs : List Nat) (x : Nat) : val B (xs ++ [x]) = val B xs + B ^ xs.length * x := by
 rw [val_append]; simp [val]

theorem val_replicate_zero (B k : Nat) : val B (List.replicate k 0) = 0 := by
 induction k with
 | zero => rfl
 | succ k ih => rw [List.replicate_succ, val_cons, ih]; simp

theorem digs_val {B : Nat} (hB : 2 ≤ B) : ∀ {xs : List Nat}, Dig B xs → (∀ x, xs.getLast? = some x → x ≠ 0) → digs B (val B xs) = xs := by
 intro xs
 induction xs with
 | nil => intro _ _; exact digs_zero B
 | cons x xs ih =>
  intro hd hl
  have hx := hd.head
  have hne : val B (x :: xs) ≠ 0 := by
   intro h0
   rw [val_cons] at h0
   have hx0 : x = 0 := by omega
   cases xs with
   | nil => exact hl x (by simp) hx0
   | cons y ys =>
    have hv : val B (y :: ys) = 0 := by
     have : B * val B (y :: ys) = 0 := by omega
     rcases Nat.mul_eq_zero.1 this with h | h
     ·omega
     ·exact h
    have := ih hd.tail (fun z hz => hl z (by rw [List.getLast?_cons_cons]; exact hz))
    rw [hv, digs_zero] at this
    cases this
  rw [digs_pos hB hne, val_cons]
  have h1 : (x + B * val B xs) % B = x := by rw [Nat.add_mul_mod_self_left]; exact Nat.mod_eq_of_lt hx
  have h2 : (x + B * val B xs) / B = val B xs := by
   rw [Nat.add_mul_div_left _ _ (by omega), Nat.div_eq_of_lt hx]; omega
  rw [h1, h2]
  congr 1
  cases xs with
  | nil => exact digs_zero B
  | cons y ys => exact ih hd.tail (fun z hz => hl z (by rw [List.getLast?_cons_cons]; exact hz))

theorem digs_last {B : Nat} (hB : 2 ≤ B) : ∀ n x, (digs B n).getLast? = some x → x ≠ 0 := by
 intro n
 induction n using Nat.strongRecOn with
 | _ n ih =>
  intro x hx
  by_cases hn : n = 0
  ·subst hn; rw [digs_zero] at hx; cases hx
  ·rw [digs_pos hB hn] at hx
   by_cases h2 : n / B = 0
   ·rw [h2, digs_zero] at hx
    simp at hx
    have : n < B := by
     rcases Nat.lt_or_ge n B with h | h
     ·exact h
     ·have := Nat.div_pos h (by omega : 0 < B); omega
    rw [Nat.mod_eq_of_lt this] at hx
    omega
   ·rw [digs_pos hB h2, List.getLast?_cons_cons, ← digs_pos hB h2] at hx
    exact ih _ (Nat.div_lt_self (by omega) (by omega)) x hx

theorem digs_inj {B : Nat} (hB : 2 ≤ B) {m n : Nat} (h : digs B m = digs B n) : m = n := by
 have := congrArg (val B) h
 rwa [val_digs hB, val_digs hB] at this

theorem digs_length_le {B : Nat} (hB : 2 ≤ B) : ∀ (k n : Nat), n < B ^ k → (digs B n).length ≤ k := by
 intro k
 induction k with
 | zero => intro n h; have : n = 0 := by simpa using h
           subst this; rw [digs_zero]; simp
 | succ k ih =>
  intro n h
  by_cases hn : n = 0
  ·subst hn; rw [digs_zero]; simp
  ·rw [digs_pos hB hn, List.length_cons]
   have : n / B < B ^ k := by
    rw [Nat.div_lt_iff_lt_mul (by omega)]
    rwa [Nat.pow_succ] at h
   have := ih _ this
   omega
theorem digs_length_lt {B : Nat} (hB : 2 ≤ B) {k n : Nat} (h : B ^ k ≤ n) : k < (digs B n).length := by
 rcases Nat.lt_or_ge k (digs B n).length with h' | h'
 ·exact h'
 ·have h1 := val_lt (digs_dig hB n)
  rw [val_digs hB] at h1
  have := Nat.pow_le_pow_right (show 0 < B by omega) h'
  omega
theorem digs_len_mono {B : Nat} (hB : 2 ≤ B) {m n : Nat} (h : m ≤ n) : (digs B m).length ≤ (digs B n).length := by
 apply digs_length_le hB
 have h1 := val_lt (digs_dig hB n)
 rw [val_digs hB] at h1
 omega
theorem digs_len_val {B : Nat} (hB : 2 ≤ B) {xs : List Nat} (h : Dig B xs) : (digs B (val B xs)).length ≤ xs.length :=
 digs_length_le hB _ _ (val_lt h)
theorem lt_pow_digs {B : Nat} (hB : 2 ≤ B) (n : Nat) : n < B ^ (digs B n).length := by
 have h1 := val_lt (digs_dig hB n)
 rwa [val_digs hB] at h1
theorem pow_digs_le {B : Nat} (hB : 2 ≤ B) {n : Nat} (hn : n ≠ 0) : B ^ ((digs B n).length - 1) ≤ n := by
 rcases Nat.lt_or_ge n (B ^ ((digs B n).length - 1)) with h | h
 ·have h1 := digs_length_le hB _ _ h
  have h2 : 0 < (digs B n).length := by rw [digs_pos hB hn]; simp
  omega
 ·exact h
theorem digs_nil_iff {B : Nat} (hB : 2 ≤ B) {n : Nat} : digs B n = [] ↔ n = 0 := by
 constructor
 ·intro h; exact digs_inj hB (h.trans (digs_zero B).symm)
 ·rintro rfl; exact digs_zero B
theorem digs_length_pos {B : Nat} (hB : 2 ≤ B) {n : Nat} (hn : n ≠ 0) : 0 < (digs B n).length := by
 rw [digs_pos hB hn]; simp

theorem val_take_drop (B : Nat) (xs : List Nat) (k : Nat) (hk : k ≤ xs.length) : val B xs = val B (xs.take k) + B ^ k * val B (xs.drop k) := by
 conv => lhs; rw [← List.take_append_drop k xs]
 rw [val_append, List.length_take, Nat.min_eq_left hk]

theorem take_succ_snoc {α : Type} {xs : List α} {k : Nat} {x : α} (h : xs[k]? = some x) : xs.take (k + 1) = xs.take k ++ [x] := by
 rw [List.take_add_one, h]; rfl

theorem val_take_of {B : Nat} {xs : List Nat} {k : Nat} (hk : xs[k]? = some 0) : val B (xs.take (k + 1)) = val B (xs.take k) := by
 rw [take_succ_snoc hk, val_snoc]; simp

theorem digs_take {B : Nat} (hB : 2 ≤ B) {xs : List Nat} (hd : Dig B xs) {m : Nat} (hm : m ≤ xs.length) (hv : val B (xs.take m) = val B xs) (hl : m = 0 ∨ ∃ x, xs[m - 1]? = some x ∧ x ≠ 0) :
  digs B (val B xs) = xs.take m := by
 rw [← hv]
 apply digs_val hB (hd.take m)
 intro x hx
 rcases hl with rfl | ⟨y, hy, hy0⟩
 ·simp at hx
 ·rw [List.getLast?_eq_getElem?, List.length_take, Nat.min_eq_left hm, List.getElem?_take] at hx
  split at hx
  ·rw [hy] at hx; cases hx; exact hy0
  ·cases hx

theorem val_lt_of_high {B : Nat} {xs ys : List Nat} (hx : Dig B xs) {k a b : Nat} (ha : xs[k]? = some a) (hb : ys[k]? = some b) (hab : a < b)
  (hh : xs.drop (k + 1) = ys.drop (k + 1)) : val B xs < val B ys := by
 have hlx : k < xs.length := (List.getElem?_eq_some_iff.1 ha).1
 have hly : k < ys.length := (List.getElem?_eq_some_iff.1 hb).1
 rw [val_take_drop B xs (k + 1) (by omega), val_take_drop B ys (k + 1) (by omega), hh, take_succ_snoc ha, take_succ_snoc hb, val_snoc, val_snoc]
 have h1 := val_lt (hx.take k)
 rw [List.length_take, Nat.min_eq_left (by omega)] at h1 ⊢
 rw [List.length_take, Nat.min_eq_left (by omega)]
 have h2 : B ^ k * a + B ^ k ≤ B ^ k * b := by
  calc B ^ k * a + B ^ k = B ^ k * (a + 1) := by rw [Nat.mul_add]; omega
   _ ≤ B ^ k * b := Nat.mul_le_mul_left _ hab
 omega

def nval (xs : List Nat) : Nat := val 4294967296 xs
def limbs (n : Nat) : List Nat := digs 4294967296 n
def Lim (xs : List Nat) : Prop := Dig 4294967296 xs
theorem Lim.nil : Lim [] := Dig.nil _
theorem Lim.cons {x : Nat} {xs : List Nat} (hx : x < 4294967296) (h : Lim xs) : Lim (x :: xs) := Dig.cons hx h
theorem Lim.take {xs : List Nat} (h : Lim xs) (k : Nat) : Lim (xs.take k) := Dig.take h k
theorem Lim.drop {xs : List Nat} (h : Lim xs) (k : Nat) : Lim (xs.drop k) := Dig.drop h k
theorem Lim.append {xs ys : List Nat} (h : Lim xs) (h' : Lim ys) : Lim (xs ++ ys) := Dig.append h h'
theorem Lim.at {xs : List Nat} (h : Lim xs) {k x : Nat} (hk : xs[k]? = some x) : x < 4294967296 := Dig.at h hk
theorem limbs_lim (n : Nat) : Lim (limbs n) := digs_dig (by omega) n
theorem nval_limbs (n : Nat) : nval (limbs n) = n := val_digs (by omega) n
theorem limbs_zero : limbs 0 = [] := digs_zero _
theorem nval_nil : nval [] = 0 := rfl
theorem nval_cons (x : Nat) (xs : List Nat) : nval (x :: xs) = x + 4294967296 * nval xs := rfl
theorem nval_snoc (xs : List Nat) (x : Nat) : nval (xs ++ [x]) = nval xs + 4294967296 ^ xs.length * x := val_snoc _ xs x
theorem nval_append (xs ys : List Nat) : nval (xs ++ ys) = nval xs + 4294967296 ^ xs.length * nval ys := val_append _ xs ys
theorem nval_lt {xs : List Nat} (h : Lim xs) : nval xs < 4294967296 ^ xs.length := val_lt h
theorem limbs_len_le {xs : List Nat} (h : Lim xs) : (limbs (nval xs)).length ≤ xs.length := digs_len_val (by omega) h
theorem limbs_length_le (k n : Nat) (h : n < 4294967296 ^ k) : (limbs n).length ≤ k := digs_length_le (by omega) k n h
theorem limbs_length_lt {k n : Nat} (h : 4294967296 ^ k ≤ n) : k < (limbs n).length := digs_length_lt (by omega) h
theorem lt_pow_limbs (n : Nat) : n < 4294967296 ^ (limbs n).length := lt_pow_digs (by omega) n
theorem pow_limbs_le {n : Nat} (hn : n ≠ 0) : 4294967296 ^ ((limbs n).length - 1) ≤ n := pow_digs_le (by omega) hn
theorem limbs_len_mono {m n : Nat} (h : m ≤ n) : (limbs m).length ≤ (limbs n).length := digs_len_mono (by omega) h
theorem limbs_inj {m n : Nat} (h : limbs m = limbs n) : m = n := digs_inj (by omega) h
theorem limbs_nil_iff {n : Nat} : limbs n = [] ↔ n = 0 := digs_nil_iff (by omega)
theorem limbs_len_pos {n : Nat} (hn : n ≠ 0) : 0 < (limbs n).length := digs_length_pos (by omega) hn
theorem limbs_len_zero {n : Nat} (h : (limbs n).length = 0) : n = 0 := limbs_nil_iff.1 (List.eq_nil_of_length_eq_zero h)
theorem limbs_nval {xs : List Nat} (h : Lim xs) (hl : ∀ x, xs.getLast? = some x → x ≠ 0) : limbs (nval xs) = xs := digs_val (by omega) h hl
theorem limbs_last (n x : Nat) (h : (limbs n).getLast? = some x) : x ≠ 0 := digs_last (by omega) n x h

def ncmp (a b : Nat) : Int := if a < b then -1 else if b < a then 1 else 0
theorem ncmp_lt {a b : Nat} (h : a < b) : ncmp a b = -1 := by simp [ncmp, h]
theorem ncmp_gt {a b : Nat} (h : b < a) : ncmp a b = 1 := by simp [ncmp, h]; omega
theorem ncmp_eq (a : Nat) : ncmp a a = 0 := by simp [ncmp]
theorem ncmp_neg {a b : Nat} : (ncmp a b < 0) ↔ a < b := by unfold ncmp; split <;> (try split) <;> omega
theorem nval_take_getD (xs : List Nat) (k : Nat) : nval (xs.take (k + 1)) = nval (xs.take k) + 4294967296 ^ k * xs.getD k 0 := by
 by_cases h : k < xs.length
 ·rw [take_succ_snoc (List.getElem?_eq_getElem h), nval_snoc, List.length_take, Nat.min_eq_left (by omega)]
  simp [List.getD, h]
 ·rw [List.take_of_length_le (by omega), List.take_of_length_le (by omega)]
  simp [List.getD, List.getElem?_eq_none (by omega : xs.length ≤ k)]
theorem nval_take_all {xs : List Nat} {k : Nat} (h : xs.length ≤ k) : nval (xs.take k) = nval xs := by rw [List.take_of_length_le h]

theorem add_step (p s x y c X Y D : Nat) (h : D + p * c = X + Y) (hs : s = x + y + c) :
  D + p * (s % 4294967296) + p * 4294967296 * (s / 4294967296) = (X + p * x) + (Y + p * y) := by
 subst hs
 have h2 : p * ((x + y + c) % 4294967296) + p * 4294967296 * ((x + y + c) / 4294967296) = p * (x + y + c) := by
  rw [Nat.mul_assoc, ← Nat.mul_add, Nat.mod_add_div]
 rw [Nat.mul_add, Nat.mul_add] at h2
 omega
theorem mul_step (p x m c X D : Nat) (h : D + p * c = X * m) :
  D + p * ((x * m + c) % 4294967296) + p * 4294967296 * ((x * m + c) / 4294967296) = (X + p * x) * m := by
 have h2 : p * ((x * m + c) % 4294967296) + p * 4294967296 * ((x * m + c) / 4294967296) = p * (x * m + c) := by
  rw [Nat.mul_assoc, ← Nat.mul_add, Nat.mod_add_div]
 rw [Nat.mul_add] at h2
 rw [Nat.add_mul, Nat.mul_assoc p x m]
 omega

def blen (n : Nat) : Nat := if n = 0 then 0 else Nat.log2 n + 1
theorem blen_zero : blen 0 = 0 := rfl
theorem lt_blen (n : Nat) : n < 2 ^ blen n := by
 unfold blen
 split
 ·omega
 ·exact Nat.lt_log2_self
theorem blen_le {n : Nat} (h : n ≠ 0) : 2 ^ (blen n - 1) ≤ n := by
 unfold blen
 rw [if_neg h]
 exact Nat.log2_self_le h
theorem blen_pos {n : Nat} (h : n ≠ 0) : 0 < blen n := by unfold blen; rw [if_neg h]; omega
theorem blen_eq {n b : Nat} (h : n < 2 ^ b) (h' : b = 0 ∨ 2 ^ (b - 1) ≤ n) : blen n = b := by
 by_cases h0 : n = 0
 ·subst h0
  rcases h' with rfl | h'
  ·rfl
  ·have := Nat.pow_pos (n := b - 1) (show 0 < 2 by omega); omega
 ·have h1 := lt_blen n
  have h2 := blen_le h0
  have h3 := blen_pos h0
  rcases Nat.lt_trichotomy (blen n) b with hl | he | hg
  ·rcases h' with rfl | h'
   ·omega
   ·have := Nat.pow_le_pow_right (show 0 < 2 by omega) (show blen n ≤ b - 1 by omega)
    omega
  ·exact he
  ·have := Nat.pow_le_pow_right (show 0 < 2 by omega) (show b ≤ blen n - 1 by omega)
   omega
theorem blen_le_of_lt {n k : Nat} (h : n < 2 ^ k) : blen n ≤ k := by
 by_cases h0 : n = 0
 ·subst h0; rw [blen_zero]; omega
 ·have h1 := blen_le h0
  rcases Nat.lt_or_ge k (blen n) with hl | hg
  ·have := Nat.pow_le_pow_right (show 0 < 2 by omega) (show k ≤ blen n - 1 by omega)
   omega
  ·exact hg
theorem pow32 (k : Nat) : 4294967296 ^ k = 2 ^ (32 * k) := by rw [Nat.pow_mul]
theorem blen_top {n t : Nat} (hl : (limbs n)[(limbs n).length - 1]? = some t) : blen n = 32 * ((limbs n).length - 1) + blen t ∧ t ≠ 0 := by
 have hlast : (limbs n).getLast? = some t := by rw [List.getLast?_eq_getElem?]; exact hl
 have ht := limbs_last n t hlast
 have hpos : 0 < (limbs n).length := by
  rcases Nat.eq_zero_or_pos (limbs n).length with h | h
  ·rw [List.eq_nil_of_length_eq_zero h] at hl; cases hl
  ·exact h
 refine ⟨?_, ht⟩
 have e : limbs n = (limbs n).take ((limbs n).length - 1) ++ [t] := by
  have := take_succ_snoc hl
  rw [show (limbs n).length - 1 + 1 = (limbs n).length by omega, List.take_length] at this
  exact this
 have hv : n = nval ((limbs n).take ((limbs n).length - 1)) + 4294967296 ^ ((limbs n).length - 1) * t := by
  have h1 := congrArg nval e
  rw [nval_limbs, nval_snoc, List.length_take, Nat.min_eq_left (by omega)] at h1
  exact h1
 have hlo := nval_lt ((limbs_lim n).take ((limbs n).length - 1))
 rw [List.length_take, Nat.min_eq_left (by omega)] at hlo
 generalize nval ((limbs n).take ((limbs n).length - 1)) = lo at hv hlo
 generalize (limbs n).length - 1 = m at hv hlo
 have h1 := lt_blen t
 have h2 := blen_le ht
 have h3 := blen_pos ht
 rw [pow32] at hv hlo
 apply blen_eq
 ·rw [hv, Nat.pow_add]
  calc lo + 2 ^ (32 * m) * t < 2 ^ (32 * m) + 2 ^ (32 * m) * t := by omega
   _ = 2 ^ (32 * m) * (t + 1) := by rw [Nat.mul_add]; omega
   _ ≤ 2 ^ (32 * m) * 2 ^ blen t := Nat.mul_le_mul_left _ h1
 ·right
  rw [hv, show 32 * m + blen t - 1 = 32 * m + (blen t - 1) by omega, Nat.pow_add]
  have := Nat.mul_le_mul_left (2 ^ (32 * m)) h2
  omega
theorem limbs_shift {x : Nat} (k : Nat) (hx : x ≠ 0) : List.replicate k 0 ++ limbs x = limbs (x * 4294967296 ^ k) := by
 have h : nval (List.replicate k 0 ++ limbs x) = x * 4294967296 ^ k := by
  rw [nval_append, nval_limbs, show nval (List.replicate k 0) = 0 from val_replicate_zero _ k, List.length_replicate, Nat.mul_comm]; omega
 rw [← h]
 symm
 apply limbs_nval
 ·exact Lim.append (Dig.replicate (by omega) k) (limbs_lim x)
 ·intro y hy
  rw [List.getLast?_append] at hy
  have hne : limbs x ≠ [] := fun h => hx (limbs_nil_iff.1 h)
  cases hl : (limbs x).getLast? with
  | none => rw [List.getLast?_eq_none_iff] at hl; exact absurd hl hne
  | some z => rw [hl] at hy; simp at hy; subst hy; exact limbs_last x z hl
theorem nval_drop_limbs (x k : Nat) (hk : k ≤ (limbs x).length) : nval ((limbs x).drop k) = x / 4294967296 ^ k := by
 have h := val_take_drop 4294967296 (limbs x) k hk
 have h1 : val 4294967296 (limbs x) = x := nval_limbs x
 have h2 := nval_lt ((limbs_lim x).take k)
 rw [List.length_take, Nat.min_eq_left hk] at h2
 rw [h1] at h
 show val 4294967296 _ = _
 have h3 : val 4294967296 ((limbs x).take k) < 4294967296 ^ k := h2
 generalize val 4294967296 ((limbs x).take k) = lo at h h3
 generalize val 4294967296 ((limbs x).drop k) = hi at h ⊢
 rw [h, Nat.add_mul_div_left _ _ (Nat.pow_pos (by omega)), Nat.div_eq_of_lt h3]; omega
def shiftN (x : Nat) (n : Int) : Nat := if 0 ≤ n then x * 2 ^ n.toNat else x / 2 ^ (-n).toNat

theorem digs_of_len {B : Nat} (hB : 2 ≤ B) {ds : List Nat} (hd : Dig B ds) (h : ds.length ≤ (digs B (val B ds)).length) : digs B (val B ds) = ds := by
 apply digs_val hB hd
 intro x hx h0
 subst h0
 have hne : ds ≠ [] := by rintro rfl; cases hx
 have hpos : 0 < ds.length := List.length_pos_iff.2 hne
 have hk : ds[ds.length - 1]? = some 0 := by rw [← List.getLast?_eq_getElem?]; exact hx
 have h1 := val_take_of (B := B) hk
 rw [show ds.length - 1 + 1 = ds.length by omega, List.take_length] at h1
 have h2 := val_lt (hd.take (ds.length - 1))
 rw [← h1, List.length_take, Nat.min_eq_left (by omega)] at h2
 have h3 := digs_length_le hB _ _ h2
 omega
theorem val_take_getD (B : Nat) (xs : List Nat) (k : Nat) : val B (xs.take (k + 1)) = val B (xs.take k) + B ^ k * xs.getD k 0 := by
 by_cases h : k < xs.length
 ·rw [take_succ_snoc (List.getElem?_eq_getElem h), val_snoc, List.length_take, Nat.min_eq_left (by omega)]
  simp [List.getD, h]
 ·rw [List.take_of_length_le (by omega), List.take_of_length_le (by omega)]
  simp [List.getD, List.getElem?_eq_none (by omega : xs.length ≤ k)]
theorem val_take_all {B : Nat} {xs : List Nat} {k : Nat} (h : xs.length ≤ k) : val B (xs.take k) = val B xs := by rw [List.take_of_length_le h]
theorem add_stepB (B p s x y c X Y D : Nat) (h : D + p * c = X + Y) (hs : s = x + y + c) : D + p * (s % B) + p * B * (s / B) = (X + p * x) + (Y + p * y) := by
 subst hs
 have h2 : p * ((x + y + c) % B) + p * B * ((x + y + c) / B) = p * (x + y + c) := by
  rw [Nat.mul_assoc, ← Nat.mul_add, Nat.mod_add_div]
 rw [Nat.mul_add, Nat.mul_add] at h2
 omega
theorem val_drop_cons {B : Nat} {xs : List Nat} {k x : Nat} (h : xs[k]? = some x) : val B (xs.drop k) = x + B * val B (xs.drop (k + 1)) := by
 obtain ⟨hl, e⟩ := List.getElem?_eq_some_iff.1 h
 rw [List.drop_eq_getElem_cons hl, e, val_cons]
theorem div_stepB (B d r x Q X : Nat) (h : Q * d + r = X) : ((r * B + x) / d + B * Q) * d + (r * B + x) % d = x + B * X := by
 subst h
 have h2 := Nat.mod_add_div (r * B + x) d
 rw [Nat.mul_comm d] at h2
 rw [Nat.add_mul, Nat.mul_add, Nat.mul_assoc, Nat.mul_comm B r]
 omega
theorem div_ltB (B d r x : Nat) (hr : r < d) (hx : x < B) : (r * B + x) / d < B := by
 rw [Nat.div_lt_iff_lt_mul (by omega)]
 have : (r + 1) * B ≤ d * B := Nat.mul_le_mul_right _ hr
 rw [Nat.mul_comm B d]
 rw [Nat.add_mul] at this
 omega
theorem sub_stepB (B p x y r d r' X Y D : Nat) (h : D + Y = X + p * r) (hs : x + B * r' = d + y + r) : (D + p * d) + (Y + p * y) = (X + p * x) + p * B * r' := by
 have h2 : p * (x + B * r') = p * (d + y + r) := by rw [hs]
 rw [Nat.mul_add, Nat.mul_add, Nat.mul_add, ← Nat.mul_assoc] at h2
 omega

end Go.Proofs.YtofdiijioejljaaGreat
