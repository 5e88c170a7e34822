/- Rows of half limbs: products, quotients, on paper; rows of ints among a call's own variables. -/
import Derived.Test.YtofdiijioejljaaGreatRef03M
set_option linter.all false
namespace Go.Proofs.YtofdiijioejljaaGreat
open Go.RowKit

theorem val_set {B : Nat} {xs : List Nat} {j o v : Nat} (h : xs[j]? = some o) : val B (xs.set j v) + B ^ j * o = val B xs + B ^ j * v := by
 obtain ⟨hl, he⟩ := List.getElem?_eq_some_iff.1 h
 have h1 : xs = xs.take j ++ o :: xs.drop (j + 1) := by rw [← he, ← List.drop_eq_getElem_cons hl, List.take_append_drop]
 have h2 : xs.set j v = xs.take j ++ v :: xs.drop (j + 1) := by
  conv => lhs; rw [h1]
  rw [List.set_append_right _ _ (by rw [List.length_take]; omega)]
  rw [List.length_take, Nat.min_eq_left (by omega), Nat.sub_self]; rfl
 have e1 : val B xs = val B (xs.take j) + B ^ j * (o + B * val B (xs.drop (j + 1))) := by
  conv => lhs; rw [h1]
  rw [val_append, List.length_take, Nat.min_eq_left (by omega), val_cons]
 have e2 : val B (xs.set j v) = val B (xs.take j) + B ^ j * (v + B * val B (xs.drop (j + 1))) := by
  rw [h2, val_append, List.length_take, Nat.min_eq_left (by omega), val_cons]
 rw [e1, e2, Nat.mul_add, Nat.mul_add]
 omega
theorem Half.set {xs : List Nat} (h : Half xs) {v : Nat} (hv : v < 65536) (j : Nat) : Half (xs.set j v) := fun y hy => by
 rcases List.mem_or_eq_of_mem_set hy with h1 | h1
 ·exact h y h1
 ·rw [h1]; exact hv
theorem mulhalf_step {os : List Nat} {i k x y o c s S Y : Nat} (ho : os[i + k]? = some o) (hs : s = x * y + o + c) (h : hval os + 65536 ^ (i + k) * c = S + 65536 ^ i * (x * Y)) :
  hval (os.set (i + k) (s % 65536)) + 65536 ^ (i + (k + 1)) * (s / 65536) = S + 65536 ^ i * (x * (Y + 65536 ^ k * y)) := by
 have h1 : hval (os.set (i + k) (s % 65536)) + 65536 ^ (i + k) * o = hval os + 65536 ^ (i + k) * (s % 65536) := val_set ho
 have h2 : 65536 ^ (i + (k + 1)) = 65536 ^ (i + k) * 65536 := by rw [← Nat.add_assoc, Nat.pow_succ]
 have h3 : 65536 ^ (i + k) * s = 65536 ^ (i + k) * (s % 65536) + 65536 ^ (i + k) * 65536 * (s / 65536) := by
  rw [Nat.mul_assoc, ← Nat.mul_add, Nat.mod_add_div]
 have h4 : 65536 ^ (i + k) * s = 65536 ^ (i + k) * (x * y) + 65536 ^ (i + k) * o + 65536 ^ (i + k) * c := by rw [hs, Nat.mul_add, Nat.mul_add]
 have h5 : 65536 ^ i * (x * (Y + 65536 ^ k * y)) = 65536 ^ i * (x * Y) + 65536 ^ (i + k) * (x * y) := by
  rw [Nat.mul_add, Nat.mul_add, Nat.pow_add]
  congr 1
  rw [Nat.mul_left_comm x, Nat.mul_assoc]
 rw [h2, h5]
 omega

def iv (xs : List Nat) : List AV := (ints .i64 xs).map .val
theorem iv_length (xs : List Nat) : (iv xs).length = xs.length := by simp [iv]
theorem iv_get {xs : List Nat} {j x : Nat} (h : xs[j]? = some x) : (iv xs)[j]? = some (.val (.int .i64 (x : Int))) := by
 unfold iv
 rw [List.getElem?_map, ints_get h]; rfl
theorem iv_append (xs ys : List Nat) : iv (xs ++ ys) = iv xs ++ iv ys := by simp [iv, ints_append]
theorem iv_ok (xs : List Nat) : (iv xs).all okLeaf = true := vals_ok (List.all_eq_true.2 fun u hu => by obtain ⟨_, _, rfl⟩ := List.mem_map.1 hu; rfl)
theorem ints_ok (xs : List Nat) : (ints .i64 xs).all okCell = true := List.all_eq_true.2 fun u hu => by obtain ⟨_, _, rfl⟩ := List.mem_map.1 hu; rfl
theorem iv_lids (xs : List Nat) : lidsOf (iv xs) = [] := lidsOf_vals _
theorem iv_zeros : ∀ n : Nat, zerosL n [.val (.int .i64 0)] = iv (List.replicate n 0)
 | 0 => rfl
 | n + 1 => by rw [zerosL, iv_zeros n, List.replicate_succ]; rfl
theorem iv_peek {xs : List Nat} {spare : List AV} {j x o : Nat} (h : xs[j]? = some x) (ho : o = j) : ∀ i u, [AV.val (.int .i64 (x : Int))][i]? = some u → (iv xs ++ spare)[o + i]? = some u := by
 subst ho
 intro i u hu
 cases i with
 | zero =>
  cases hu
  have hl := (List.getElem?_eq_some_iff.1 (iv_get h)).1
  rw [Nat.add_zero, List.getElem?_append_left hl, iv_get h]
 | succ i => cases hu
theorem iv_peek0 {xs : List Nat} {j x o : Nat} (h : xs[j]? = some x) (ho : o = j) : ∀ i u, [AV.val (.int .i64 (x : Int))][i]? = some u → (iv xs)[o + i]? = some u := by
 have := iv_peek (spare := []) h ho
 simpa using this
theorem iv_poke {xs : List Nat} {j x o : Nat} (h : j < xs.length) (ho : o = j) : (iv xs).take o ++ ([AV.val (.int .i64 (x : Int))] ++ (iv xs).drop (o + 1)) = iv (xs.set j x) := by
 subst ho
 have : iv (xs.set o x) = (iv xs).set o (.val (.int .i64 (x : Int))) := by simp [iv, ← ints_set, List.map_set]
 rw [this, List.set_eq_take_append_cons_drop, if_pos (by rw [iv_length]; exact h)]
 rfl
theorem ownV_rd {C : Cx} {β : Nat → Nat} {w : World} {i n c : Nat} {t : TypeId} {xs : List Nat} {spare : List AV} (h : OwnV C β w i t (iv xs ++ spare)) (hn : xs.length = n) (hnc : n ≤ c) (hcm : c ≤ maxLen) : Rd w 1 (.slice (some ⟨β i, 0, none⟩) n c) n (ints .i64 xs) := by
 refine ⟨_, c, rfl, hnc, hcm, by simp [hn], fun _ => ⟨_, _, rfl, fun j u hj => ?_⟩⟩
 have hl := (List.getElem?_eq_some_iff.1 hj).1
 refine h.cls.cell ?_
 rw [Nat.zero_add]
 simp only [List.map_append, List.getElem?_toArray]
 rw [List.getElem?_append_left (by simpa [iv] using hl)]
 unfold iv
 rw [leaf_vals]
 exact hj
def IntRow (w : World) (B : Nat) (v : Value) (n : Nat) (xs : List Nat) : Prop :=
 xs.length = n ∧ ((v = .slice none 0 0 ∧ n = 0) ∨ ∃ b c spare, v = .slice (some ⟨b, 0, none⟩) n c ∧ B ≤ b ∧ Cls w b 3 (ints .i64 xs ++ spare).toArray ∧ n ≤ c ∧ c ≤ maxLen ∧ n + spare.length = c ∧ spare.all okCell = true)
theorem IntRow.own {w : World} {B : Nat} {v : Value} {n : Nat} {xs : List Nat} (h : IntRow w B v n xs) : w.ownsRow B 3 1 v n (ints .i64 xs) := by
 obtain ⟨hn, ⟨rfl, rfl⟩ | ⟨b, c, spare, rfl, hB, hc, h1, h2, h3, _⟩⟩ := h
 ·rw [List.eq_nil_of_length_eq_zero hn]; exact World.ownsRow_nil _ _ _ _
 ·refine ⟨by simp [hn], .inr ⟨b, c, _, rfl, hB, hc, h1, h2, by simp [hn, h3], ?_⟩⟩
  rw [List.take_append_of_le_length (by simp [hn]), List.take_of_length_le (by simp [hn])]
theorem IntRow.new {C : Cx} {w : World} {B : Nat} {v : Value} {n : Nat} {xs : List Nat} (h : IntRow w B v n xs) : NewRow C 3 1 B w v n (ints .i64 xs) := by
 obtain ⟨hn, ⟨rfl, rfl⟩ | ⟨b, c, spare, rfl, hB, hc, h1, h2, h3, h4⟩⟩ := h
 ·exact .inl ⟨rfl, rfl, by rw [List.eq_nil_of_length_eq_zero hn]; rfl⟩
 ·exact .inr ⟨b, c, spare, rfl, hB, hc, ints_ok xs, h4, h1, by simpa [maxLen] using h2, by simp; omega⟩
theorem IntRow.nil (w : World) (B : Nat) : IntRow w B (.slice none 0 0) 0 [] := ⟨rfl, .inl ⟨rfl, rfl⟩⟩
theorem IntRow.mono {w : World} {B B' : Nat} {v : Value} {n : Nat} {xs : List Nat} (h : IntRow w B v n xs) (hB : B' ≤ B) : IntRow w B' v n xs := by
 obtain ⟨hn, e | ⟨b, c, spare, e, hb, r⟩⟩ := h
 ·exact ⟨hn, .inl e⟩
 ·exact ⟨hn, .inr ⟨b, c, spare, e, Nat.le_trans hB hb, r⟩⟩
theorem ownV_row {C : Cx} {β : Nat → Nat} {w : World} {i n m c : Nat} {xs : List Nat} {spare : List AV} (h : OwnV C β w i 3 (iv xs ++ spare)) (hn : xs.length = n) (hm : m ≤ n) (hnc : n ≤ c) (hcm : c ≤ maxLen) (hl : xs.length + spare.length = c) (hnw : ∀ i g, C.New i g → C.w0.heap.size ≤ g := by exact fun _ _ h => h) :
  IntRow w C.w0.heap.size (.slice (some ⟨β i, 0, none⟩) m c) m (xs.take m) := by
 refine ⟨by rw [List.length_take]; omega, .inr ⟨β i, c, ints .i64 (xs.drop m) ++ spare.map (AV.leaf β), rfl, hnw _ _ h.new, ?_, by omega, hcm, by simp; omega, ?_⟩⟩
 ·have := h.cls
  rw [List.map_append] at this
  unfold iv at this
  rw [leaf_vals] at this
  rw [← List.append_assoc, ← ints_append, List.take_append_drop]
  exact this
 ·have hk := h.ok
  rw [List.all_append, Bool.and_eq_true] at hk
  rw [List.all_append, ints_ok, okLeafs hk.2]; rfl
theorem own_src {C : Cx} {β : Nat → Nat} {w : World} {i : Nat} {t : TypeId} {cs news rest : List AV} (h : OwnV C β w i t cs) (e : cs = news ++ rest) : ∀ j u, (news.map (AV.leaf β))[j]? = some u → w.cell? ⟨β i, 0 + j, none⟩ = some u := by
 intro j u hj
 have hl := (List.getElem?_eq_some_iff.1 hj).1
 refine h.cls.cell ?_
 rw [e, Nat.zero_add, List.map_append]
 simp only [List.getElem?_toArray]
 rw [List.getElem?_append_left hl]
 exact hj
theorem fgl_none {cs : List AV} (h : lidsOf cs = []) (i : Nat) (ρ : AV → Value) : cs.map (AV.fgl i ρ) = cs := by
 induction cs with
 | nil => rfl
 | cons x r ih =>
  rw [lidsOf, List.append_eq_nil_iff] at h
  rw [List.map_cons, ih h.2]
  have : x.fgl i ρ = x := by unfold AV.fgl; rw [h.1]; rfl
  rw [this]
theorem fgl_iv (i : Nat) (ρ : AV → Value) (xs : List Nat) : (iv xs).map (AV.fgl i ρ) = iv xs := fgl_none (iv_lids xs) i ρ
theorem cut_row {xs : List Nat} {m n : Nat} (h : halves (hval xs) = xs.take m) (hm : m ≤ n) (hn : xs.length = n) : m = (halves (hval xs)).length := by rw [h, List.length_take]; omega
end Go.Proofs.YtofdiijioejljaaGreat
