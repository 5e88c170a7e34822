/- Words for fractions: a value of four cells reads as a fraction; what is kept; sizes. No function of the program in sight. -/
import Derived.Test.YtofdiijioejljaaGreatCalmT
import Derived.Test.YtofdiijioejljaaGreatRef03A
set_option linter.all false
namespace Go.Proofs.YtofdiijioejljaaGreat
open Go.RowKit

theorem Rd.kp {U : TypeId} {T : TypeId → Bool} {w w' : World} {v : Value} {n : Nat} {xs : List Nat} (h : Rd w 1 v n (ints .u32 xs)) (k : KpS ⟨U, fun _ => True, T⟩ w w') : Rd w' 1 v n (ints .u32 xs) := by
 obtain ⟨p, c, rfl, h1, h2, h3, h4⟩ := h
 refine ⟨p, c, rfl, h1, h2, h3, fun hn => ?_⟩
 obtain ⟨b, off, hp, hc⟩ := h4 hn
 refine ⟨b, off, hp, fun j u hj => ?_⟩
 obtain ⟨x, hx, rfl⟩ := List.mem_map.1 (List.mem_of_getElem? hj)
 exact k.cell _ _ trivial (hc j _ hj)
theorem Own.kp {T : TypeId → Bool} {w w' : World} {B sz n : Nat} {v : Value} {cs : List Value} (h : w.ownsRow B UU sz v n cs) (k : KpS ⟨UU, fun _ => True, T⟩ w w') : w'.ownsRow B UU sz v n cs := by
 refine ⟨h.1, ?_⟩
 rcases h.2 with h2 | ⟨g, cap, cur, hv, hb, hg, r⟩
 ·exact .inl h2
 ·exact .inr ⟨g, cap, cur, hv, hb, k.block _ g cur rfl trivial hg, r⟩
theorem NumAt.kp {U : TypeId} {T : TypeId → Bool} {w w' : World} {v : Value} {s : Bool} {xs : List Nat} (h : NumAt w v s xs) (k : KpS ⟨U, fun _ => True, T⟩ w w') : NumAt w' v s xs := by
 obtain ⟨p, c, hv, hr, hl⟩ := h
 exact ⟨p, c, hv, hr.kp k, hl⟩
theorem IntIn.kp {U : TypeId} {T : TypeId → Bool} {w w' : World} {v : Value} {X : Int} {j : Nat} (h : IntIn w v X j) (k : KpS ⟨U, fun _ => True, T⟩ w w') : IntIn w' v X j := by
 obtain ⟨s, xs, hn, hx, hj⟩ := h
 exact ⟨s, xs, hn.kp k, hx, hj⟩
theorem IntRd.kp {U : TypeId} {T : TypeId → Bool} {w w' : World} {v : Value} {X : Int} (h : IntRd w v X) (k : KpS ⟨U, fun _ => True, T⟩ w w') : IntRd w' v X := NumAt.kp h k
theorem IntOwn.kp {T : TypeId → Bool} {w w' : World} {B : Nat} {v : Value} {X : Int} (h : IntOwn w B v X) (k : KpS ⟨UU, fun _ => True, T⟩ w w') : IntOwn w' B v X := by
 obtain ⟨p, c, hv, ho⟩ := h
 exact ⟨p, c, hv, Own.kp ho k⟩
theorem IntOwn.in {w : World} {B : Nat} {v : Value} {X : Int} {j : Nat} (h : IntOwn w B v X) (hs : Sz X j) : IntIn w v X j := h.rd.to hs

def ratv (X Y : Int) : Rat := if 0 < Y ∧ Int.gcd X Y = 1 then Rat.divInt X Y else 0
theorem ratv_right {X Y : Int} (h : 0 < Y ∧ Int.gcd X Y = 1) : (ratv X Y).num = X ∧ ((ratv X Y).den : Int) = Y := by
 unfold ratv
 rw [if_pos h, Rat.num_divInt, Rat.den_divInt, if_neg (by omega), Int.gcd_comm, h.2]
 have : Y.sign = 1 := sign_pos h.1
 rw [this]
 simp
 omega
theorem ratv_wrong {X Y : Int} (h : ¬ (0 < Y ∧ Int.gcd X Y = 1)) : ratv X Y = 0 := if_neg h
theorem ratv_self (q : Rat) : ratv q.num q.den = q := by
 have h : (0 : Int) < q.den ∧ Int.gcd q.num q.den = 1 := ⟨by have := q.den_nz; omega, by have := q.reduced; simpa [Int.gcd, Nat.Coprime] using this⟩
 obtain ⟨h1, h2⟩ := ratv_right h
 exact Rat.ext h1 (by omega)

def RatRaw (w : World) (v : Value) (s : Bool) (xs : List Nat) (t : Bool) (ys : List Nat) : Prop :=
 ∃ p c r d, v = .agg #[.bool s, .slice p xs.length c, .bool t, .slice r ys.length d] ∧ NumAt w (.agg #[.bool s, .slice p xs.length c]) s xs ∧ NumAt w (.agg #[.bool t, .slice r ys.length d]) t ys
def rq (s : Bool) (xs : List Nat) (t : Bool) (ys : List Nat) : Rat := ratv (numOf s xs) (numOf t ys)
def RatIn (w : World) (v : Value) (q : Rat) (k : Nat) : Prop := ∃ s xs t ys, RatRaw w v s xs t ys ∧ q = rq s xs t ys ∧ xs.length ≤ k ∧ ys.length ≤ k
def RatRd (w : World) (v : Value) (q : Rat) : Prop := ∃ s p n c t r m d, v = .agg #[.bool s, .slice p n c, .bool t, .slice r m d] ∧ IntRd w (.agg #[.bool s, .slice p n c]) q.num ∧ IntRd w (.agg #[.bool t, .slice r m d]) (q.den : Int)
def RatOwn (w : World) (B : Nat) (v : Value) (q : Rat) : Prop := ∃ s p n c t r m d, v = .agg #[.bool s, .slice p n c, .bool t, .slice r m d] ∧ IntOwn w B (.agg #[.bool s, .slice p n c]) q.num ∧ IntOwn w B (.agg #[.bool t, .slice r m d]) (q.den : Int)
def RSz (q : Rat) (k : Nat) : Prop := Sz q.num k ∧ Sz (q.den : Int) k

theorem RatRaw.kp {U : TypeId} {T : TypeId → Bool} {w w' : World} {v : Value} {s t : Bool} {xs ys : List Nat} (h : RatRaw w v s xs t ys) (k : KpS ⟨U, fun _ => True, T⟩ w w') : RatRaw w' v s xs t ys := by
 obtain ⟨p, c, r, d, hv, h1, h2⟩ := h
 exact ⟨p, c, r, d, hv, h1.kp k, h2.kp k⟩
theorem RatIn.kp {U : TypeId} {T : TypeId → Bool} {w w' : World} {v : Value} {q : Rat} {j : Nat} (h : RatIn w v q j) (k : KpS ⟨U, fun _ => True, T⟩ w w') : RatIn w' v q j := by
 obtain ⟨s, xs, t, ys, h1, h2⟩ := h
 exact ⟨s, xs, t, ys, h1.kp k, h2⟩
theorem RatRd.kp {U : TypeId} {T : TypeId → Bool} {w w' : World} {v : Value} {q : Rat} (h : RatRd w v q) (k : KpS ⟨U, fun _ => True, T⟩ w w') : RatRd w' v q := by
 obtain ⟨s, p, n, c, t, r, m, d, hv, h1, h2⟩ := h
 exact ⟨s, p, n, c, t, r, m, d, hv, h1.kp k, h2.kp k⟩
theorem RatOwn.kp {T : TypeId → Bool} {w w' : World} {B : Nat} {v : Value} {q : Rat} (h : RatOwn w B v q) (k : KpS ⟨UU, fun _ => True, T⟩ w w') : RatOwn w' B v q := by
 obtain ⟨s, p, n, c, t, r, m, d, hv, h1, h2⟩ := h
 exact ⟨s, p, n, c, t, r, m, d, hv, h1.kp k, h2.kp k⟩
theorem RatOwn.mono {w : World} {B B' : Nat} {v : Value} {q : Rat} (h : RatOwn w B v q) (hB : B' ≤ B) : RatOwn w B' v q := by
 obtain ⟨s, p, n, c, t, r, m, d, hv, h1, h2⟩ := h
 exact ⟨s, p, n, c, t, r, m, d, hv, h1.mono hB, h2.mono hB⟩
theorem RatOwn.rd {w : World} {B : Nat} {v : Value} {q : Rat} (h : RatOwn w B v q) : RatRd w v q := by
 obtain ⟨s, p, n, c, t, r, m, d, hv, h1, h2⟩ := h
 exact ⟨s, p, n, c, t, r, m, d, hv, h1.rd, h2.rd⟩
theorem RatOwn.cast {w : World} {B : Nat} {v : Value} {q q' : Rat} (h : RatOwn w B v q) (e : q = q') : RatOwn w B v q' := e ▸ h
theorem IntRd.len4 {w : World} {s : Bool} {p : Option Addr} {n c : Nat} {X : Int} (h : IntRd w (.agg #[.bool s, .slice p n c]) X) : s = decide (X < 0) ∧ n = (limbs X.natAbs).length := ⟨h.sgn, h.parts.1⟩
theorem RatRd.raw {w : World} {v : Value} {q : Rat} (h : RatRd w v q) : RatRaw w v (decide (q.num < 0)) (limbs q.num.natAbs) (decide ((q.den : Int) < 0)) (limbs (q.den : Int).natAbs) := by
 obtain ⟨s, p, n, c, t, r, m, d, rfl, h1, h2⟩ := h
 obtain ⟨rfl, rfl⟩ := h1.len4
 obtain ⟨rfl, rfl⟩ := h2.len4
 exact ⟨p, c, r, d, rfl, h1, h2⟩
theorem RatRd.to {w : World} {v : Value} {q : Rat} {k : Nat} (h : RatRd w v q) (hs : RSz q k) : RatIn w v q k :=
 ⟨_, _, _, _, h.raw, by unfold rq; rw [numOf_canon, numOf_canon, ratv_self], hs.1, hs.2⟩
theorem RatOwn.in {w : World} {B : Nat} {v : Value} {q : Rat} {k : Nat} (h : RatOwn w B v q) (hs : RSz q k) : RatIn w v q k := h.rd.to hs
theorem RSz.mono {q : Rat} {k l : Nat} (h : RSz q k) (hkl : k ≤ l) : RSz q l := ⟨h.1.mono hkl, h.2.mono hkl⟩
theorem RSz.zero : RSz 0 1 := ⟨Sz.zero.mono (by omega), Sz.small (by decide)⟩
theorem RSz.one : RSz 1 1 := ⟨Sz.small (by decide), Sz.small (by decide)⟩
theorem numOf_sz {s : Bool} {xs : List Nat} {k : Nat} (hl : Lim xs) (h : xs.length ≤ k) : Sz (numOf s xs) k := Nat.le_trans (numOf_len hl) h
theorem RatIn.sz {w : World} {v : Value} {q : Rat} {k : Nat} (h : RatIn w v q k) (hk : 1 ≤ k) : RSz q k := by
 obtain ⟨s, xs, t, ys, ⟨p, c, r, d, _, ⟨_, _, _, _, l1⟩, ⟨_, _, _, _, l2⟩⟩, rfl, h1, h2⟩ := h
 unfold rq
 by_cases hr : 0 < numOf t ys ∧ Int.gcd (numOf s xs) (numOf t ys) = 1
 ·obtain ⟨e1, e2⟩ := ratv_right hr
  exact ⟨by rw [e1]; exact numOf_sz l1 h1, by rw [e2]; exact numOf_sz l2 h2⟩
 ·rw [ratv_wrong hr]; exact RSz.zero.mono hk
theorem RatIn.form {w : World} {v : Value} {q : Rat} {k : Nat} (h : RatIn w v q k) : ∃ s p n c t r m d, v = .agg #[.bool s, .slice p n c, .bool t, .slice r m d] := by
 obtain ⟨s, xs, t, ys, ⟨p, c, r, d, hv, _⟩, _⟩ := h
 exact ⟨_, _, _, _, _, _, _, _, hv⟩
theorem RatRd.parts {w : World} {s t : Bool} {p r : Option Addr} {n c m d : Nat} {q : Rat} (h : RatRd w (.agg #[.bool s, .slice p n c, .bool t, .slice r m d]) q) : IntRd w (.agg #[.bool s, .slice p n c]) q.num ∧ IntRd w (.agg #[.bool t, .slice r m d]) (q.den : Int) := by
 obtain ⟨s', p', n', c', t', r', m', d', hv, h1, h2⟩ := h
 simp only [Value.agg.injEq, Array.mk.injEq, List.cons.injEq, and_true] at hv
 obtain ⟨e1, e2, e3, e4⟩ := hv
 rw [e1, e2, e3, e4]
 exact ⟨h1, h2⟩
theorem RatOwn.parts {w : World} {B : Nat} {s t : Bool} {p r : Option Addr} {n c m d : Nat} {q : Rat} (h : RatOwn w B (.agg #[.bool s, .slice p n c, .bool t, .slice r m d]) q) : IntOwn w B (.agg #[.bool s, .slice p n c]) q.num ∧ IntOwn w B (.agg #[.bool t, .slice r m d]) (q.den : Int) := by
 obtain ⟨s', p', n', c', t', r', m', d', hv, h1, h2⟩ := h
 simp only [Value.agg.injEq, Array.mk.injEq, List.cons.injEq, and_true] at hv
 obtain ⟨e1, e2, e3, e4⟩ := hv
 rw [e1, e2, e3, e4]
 exact ⟨h1, h2⟩
theorem RatRd.form {w : World} {v : Value} {q : Rat} (h : RatRd w v q) : ∃ s p n c t r m d, v = .agg #[.bool s, .slice p n c, .bool t, .slice r m d] := by
 obtain ⟨s, p, n, c, t, r, m, d, hv, _⟩ := h
 exact ⟨_, _, _, _, _, _, _, _, hv⟩
theorem RatOwn.form {w : World} {B : Nat} {v : Value} {q : Rat} (h : RatOwn w B v q) : ∃ s p n c t r m d, v = .agg #[.bool s, .slice p n c, .bool t, .slice r m d] := h.rd.form
theorem low_pos {X Y : Int} (hY : 0 < Y) : X.fdiv (Int.gcd X Y : Int) = (Rat.divInt X Y).num ∧ Y.fdiv (Int.gcd X Y : Int) = ((Rat.divInt X Y).den : Int) := by
 have hg : (0 : Int) < (Int.gcd X Y : Int) := by
  have : Int.gcd X Y ≠ 0 := fun e => by have := (Int.gcd_eq_zero_iff.1 e).2; omega
  omega
 rw [Rat.num_divInt, Rat.den_divInt, if_neg (by omega), sign_pos hY, Int.one_mul, Int.gcd_comm Y X]
 refine ⟨Int.fdiv_eq_ediv_of_nonneg _ (by omega), ?_⟩
 rw [Int.fdiv_eq_ediv_of_nonneg _ (by omega), Int.natCast_ediv]
 congr 1
 omega
theorem low_neg {X Y : Int} (hY : Y < 0) : X.fdiv (-(Int.gcd X Y : Int)) = (Rat.divInt X Y).num ∧ Y.fdiv (-(Int.gcd X Y : Int)) = ((Rat.divInt X Y).den : Int) := by
 have e : Rat.divInt X Y = Rat.divInt (-X) (-Y) := (Rat.neg_divInt_neg X Y).symm
 obtain ⟨h1, h2⟩ := low_pos (X := -X) (Y := -Y) (by omega)
 rw [Int.neg_gcd, Int.gcd_neg] at h1 h2
 rw [e, ← h1, ← h2]
 have fd : ∀ a b : Int, (-a).fdiv b = a.fdiv (-b) := fun a b => by rw [← Int.neg_fdiv_neg, Int.neg_neg]
 exact ⟨(fd _ _).symm, (fd _ _).symm⟩
end Go.Proofs.YtofdiijioejljaaGreat
