/- What the reference's number layer computes: often, parts. -/
import Derived.Test.YtkafabgcdlfhiaaRef03F
set_option linter.all false
namespace Go.Proofs.Ytkafabgcdlfhiaa
open Go.RowKit
attribute [local irreducible] vcOps VS

theorem IntRow.kpI {w w' : World} {B : Nat} {v : Value} {n : Nat} {xs : List Nat} (h : IntRow w B v n xs) (k : KpS KI w w') : IntRow w' B v n xs := by
  obtain ⟨hn, e | ⟨b, c, spare, e, hb, hc, r⟩⟩ := h
  · exact ⟨hn, .inl e⟩
  · exact ⟨hn, .inr ⟨b, c, spare, e, hb, k.block _ b _ rfl trivial hc, r⟩⟩
theorem OwnI.kp {w w' : World} {B n : Nat} {v : Value} {cs : List Value} (h : w.ownsRow B 3 1 v n cs) (k : KpS KI w w') : w'.ownsRow B 3 1 v n cs := by
  refine ⟨h.1, ?_⟩
  rcases h.2 with h2 | ⟨g, cap, cur, hv, hb, hg, r⟩
  · exact .inl h2
  · exact .inr ⟨g, cap, cur, hv, hb, k.block _ g cur rfl trivial hg, r⟩
theorem IntRow.form {w : World} {B : Nat} {v : Value} {n : Nat} {xs : List Nat} (h : IntRow w B v n xs) : ∃ p c, v = .slice p n c := by
  obtain ⟨hn, ⟨rfl, rfl⟩ | ⟨b, c, spare, rfl, _⟩⟩ := h
  · exact ⟨none, 0, rfl⟩
  · exact ⟨_, c, rfl⟩
theorem hval_one (x : Nat) : hval [x] = x := by show x + 65536 * 0 = x; omega
theorem halves_len_mul {B t : Nat} (ht : t < 65536) : (halves (B * t)).length ≤ (halves B).length + 1 := by
  refine digs_length_le (by omega) _ _ ?_
  rw [Nat.pow_succ]
  have : B < 65536 ^ (halves B).length := lt_pow_digs (by omega) B
  exact Nat.mul_lt_mul'' this ht

theorem parts_step {A B k x R V : Nat} {qs : List Nat} (hx : (halves A)[k]? = some x) (hR : R < B) (hV : V = x + 65536 * R) (h : hval qs * B + R = hval ((halves A).drop (k + 1))) :
    hval ((V / B) :: qs) * B + (V - V / B * B) = hval ((halves A).drop k) ∧ V < 65536 * B ∧ V - V / B * B < B ∧ V / B < 65536 := by
  have hx4 := (halves_half A).at hx
  have e1 : hval ((halves A).drop k) = x + 65536 * hval ((halves A).drop (k + 1)) := val_drop_cons hx
  have e2 : hval ((V / B) :: qs) = V / B + 65536 * hval qs := rfl
  have e3 := Nat.div_add_mod V B
  have e4 := Nat.mod_lt V (show 0 < B by omega)
  rw [Nat.mul_comm] at e3
  have hlt : V < 65536 * B := by
    have : 65536 * R + 65536 ≤ 65536 * B := by
      have := Nat.mul_le_mul_left 65536 (show R + 1 ≤ B by omega)
      rw [Nat.mul_add] at this; omega
    omega
  refine ⟨?_, hlt, by omega, Nat.div_lt_of_lt_mul (by rw [Nat.mul_comm]; exact hlt)⟩
  rw [e1, ← h, e2, Nat.add_mul, Nat.mul_add, Nat.mul_assoc]
  omega
end Go.Proofs.Ytkafabgcdlfhiaa
