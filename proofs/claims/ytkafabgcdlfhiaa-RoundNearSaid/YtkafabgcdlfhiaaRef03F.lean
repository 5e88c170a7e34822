/- What the reference's number layer computes: less, take. -/
import Derived.Test.YtkafabgcdlfhiaaRef03E
set_option linter.all false
namespace Go.Proofs.Ytkafabgcdlfhiaa
open Go.RowKit
attribute [local irreducible] vcOps VS

theorem halves_lt_len {A B : Nat} (h : (halves A).length < (halves B).length) : A < B := by
  rcases Nat.lt_or_ge A B with e | e
  · exact e
  · have : (halves B).length ≤ (halves A).length := digs_len_mono (by omega) e
    omega
theorem halves_lt_dig {A B k a b : Nat} (ha : (halves A)[k]? = some a) (hb : (halves B)[k]? = some b) (hab : a < b) (hh : (halves A).drop (k + 1) = (halves B).drop (k + 1)) : A < B := by
  have := val_lt_of_high (B := 65536) (halves_half A) ha hb hab hh
  have e1 : val 65536 (halves A) = A := hval_halves A
  have e2 : val 65536 (halves B) = B := hval_halves B
  omega
theorem drop_same {xs ys : List Nat} {k x : Nat} (hx : xs[k]? = some x) (hy : ys[k]? = some x) (h : xs.drop (k + 1) = ys.drop (k + 1)) : xs.drop k = ys.drop k := by
  obtain ⟨l1, e1⟩ := List.getElem?_eq_some_iff.1 hx
  obtain ⟨l2, e2⟩ := List.getElem?_eq_some_iff.1 hy
  rw [List.drop_eq_getElem_cons l1, List.drop_eq_getElem_cons l2, e1, e2, h]

/-! taking -/
theorem take_step {ds us bs : List Nat} {i t br a b d br' : Nat} (hl : ds.length = i) (ha : us.getD i 0 = a) (hb : bs.getD i 0 = b) (hs : d + (t * b + br) = a + 65536 * br')
    (h : hval ds + t * hval (bs.take i) = hval (us.take i) + 65536 ^ i * br) : hval (ds ++ [d]) + t * hval (bs.take (i + 1)) = hval (us.take (i + 1)) + 65536 ^ (i + 1) * br' := by
  have e1 : hval (us.take (i + 1)) = hval (us.take i) + 65536 ^ i * a := by rw [← ha]; exact val_take_getD _ _ _
  have e2 : hval (bs.take (i + 1)) = hval (bs.take i) + 65536 ^ i * b := by rw [← hb]; exact val_take_getD _ _ _
  have e3 : 65536 ^ i * d + (65536 ^ i * (t * b) + 65536 ^ i * br) = 65536 ^ i * a + 65536 ^ i * (65536 * br') := by rw [← Nat.mul_add, ← Nat.mul_add, hs, Nat.mul_add]
  have e4 : t * (65536 ^ i * b) = 65536 ^ i * (t * b) := Nat.mul_left_comm _ _ _
  rw [hval_snoc, hl, e1, e2, Nat.mul_add t, e4, Nat.pow_succ, Nat.mul_assoc]
  omega
theorem take_end {ds us bs : List Nat} {n t br : Nat} (hh : Half ds) (hl : ds.length = n) (ha : us.length = n) (hle : t * hval bs ≤ hval us) (hb : t = 0 ∨ bs.length ≤ n)
    (h : hval ds + t * hval (bs.take n) = hval (us.take n) + 65536 ^ n * br) : hval ds = hval us - t * hval bs := by
  have e1 : us.take n = us := List.take_of_length_le (by omega)
  have e2 : t * hval (bs.take n) = t * hval bs := by
    rcases hb with e | e
    · rw [e, Nat.zero_mul, Nat.zero_mul]
    · rw [List.take_of_length_le e]
  rw [e1, e2] at h
  have hlt := hval_lt hh
  rw [hl] at hlt
  have : br = 0 := by
    rcases Nat.eq_zero_or_pos br with e | e
    · exact e
    · have := Nat.le_mul_of_pos_right (65536 ^ n) e
      omega
  rw [this, Nat.mul_zero] at h
  omega
/-- what a row of ints, nil or own, is in a frame -/
def RowAt (d : Nat) (xs : List Nat) (v : AV) (M : List (Nat × (TypeId × List AV))) : Prop :=
  (xs = [] ∧ v = .val (.slice none 0 0) ∧ M = []) ∨ ∃ cap spare, v = .row d 0 xs.length cap ∧ M = [(d, (3, iv xs ++ spare))] ∧ xs.length ≤ cap ∧ cap ≤ 9223372036854775807 ∧ xs.length + spare.length = cap ∧ spare.all okLeaf = true ∧ lidsOf spare = []

end Go.Proofs.Ytkafabgcdlfhiaa
