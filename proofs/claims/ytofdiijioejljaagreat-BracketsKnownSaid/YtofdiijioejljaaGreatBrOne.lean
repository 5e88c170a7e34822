/- Tax by brackets: sums over brackets, how they grow, one bracket parted into two. No function of the program in sight. -/
import Derived.Test.YtofdiijioejljaaGreatRowW
import Derived.Test.YtofdiijioejljaaGreatRef04B
import Derived.Test.YtofdiijioejljaaGreatFil
import Derived.Test.YtofdiijioejljaaGreatKeep
set_option linter.all false
set_option maxRecDepth 4000
namespace Go.Proofs.YtofdiijioejljaaGreat
open Go.RowKit

abbrev Br := Rat × Rat
def btop (a : Rat) : List Br → Rat
 | [] => a
 | y :: _ => if y.1 < a then y.1 else a
def bpart (a : Rat) (x : Br) (r : List Br) : Rat := if 0 < btop a r - x.1 then btop a r - x.1 else 0
def btax (a : Rat) : List Br → Rat
 | [] => 0
 | x :: r => bpart a x r * x.2 + btax a r
def bsum (a : Rat) : List Br → Rat
 | [] => 0
 | x :: r => bpart a x r + bsum a r
def binc : List Br → Prop
 | [] => True
 | [_] => True
 | x :: y :: r => x.1 < y.1 ∧ binc (y :: r)
theorem btop_le (a : Rat) (r : List Br) : btop a r ≤ a := by
 cases r with
 | nil => exact Rat.le_refl
 | cons y r => unfold btop; split <;> grind
theorem bpart_nonneg (a : Rat) (x : Br) (r : List Br) : 0 ≤ bpart a x r := by unfold bpart; split <;> grind
theorem bpart_hi {a : Rat} {x : Br} {r : List Br} (h : a ≤ x.1) : bpart a x r = 0 := by
 have := btop_le a r
 unfold bpart
 rw [if_neg (by grind)]
theorem btax_hi {a : Rat} : ∀ {r : List Br} {x : Br}, binc (x :: r) → a ≤ x.1 → btax a (x :: r) = 0
 | [], x, _, h => by unfold btax btax; rw [bpart_hi h]; grind
 | y :: r, x, hi, h => by
  unfold btax
  rw [bpart_hi h, btax_hi (r := r) (x := y) hi.2 (by have := hi.1; grind)]
  grind
theorem bpart_in {a : Rat} {x : Br} {r : List Br} (h : x.1 < a) (hi : binc (x :: r)) : bpart a x r = btop a r - x.1 := by
 unfold bpart
 rw [if_pos]
 cases r with
 | nil => show 0 < a - x.1; grind
 | cons y r =>
  have := hi.1
  show 0 < (if y.1 < a then y.1 else a) - x.1
  split <;> grind
theorem bsum_eq {a : Rat} : ∀ {r : List Br} {x : Br}, binc (x :: r) → bsum a (x :: r) = if x.1 < a then a - x.1 else 0
 | [], x, _ => by
  show bpart a x [] + 0 = _
  unfold bpart btop
  by_cases h : x.1 < a
  ·rw [if_pos (by grind), if_pos h]; grind
  ·rw [if_neg (by grind), if_neg h]; grind
 | y :: r, x, hi => by
  show bpart a x (y :: r) + bsum a (y :: r) = _
  rw [bsum_eq hi.2]
  have hxy := hi.1
  show (if 0 < (if y.1 < a then y.1 else a) - x.1 then (if y.1 < a then y.1 else a) - x.1 else 0) + (if y.1 < a then a - y.1 else 0) = if x.1 < a then a - x.1 else 0
  by_cases h1 : y.1 < a
  ·rw [if_pos h1, if_pos h1, if_pos (by grind), if_pos (by grind)]; grind
  ·rw [if_neg h1, if_neg h1]
   by_cases h2 : x.1 < a
   ·rw [if_pos (by grind), if_pos h2]; grind
   ·rw [if_neg (by grind), if_neg h2]; grind
theorem btop_mono {a b : Rat} (h : a ≤ b) (r : List Br) : btop a r ≤ btop b r := by
 cases r with
 | nil => exact h
 | cons y r =>
  show (if y.1 < a then y.1 else a) ≤ (if y.1 < b then y.1 else b)
  split <;> split <;> grind
theorem bpart_mono {a b : Rat} (h : a ≤ b) (x : Br) (r : List Br) : bpart a x r ≤ bpart b x r := by
 have := btop_mono h r
 unfold bpart
 split <;> split <;> grind
theorem mul_mono {u v d : Rat} (h : u ≤ v) (hd : 0 ≤ d) : d * u ≤ d * v := Rat.mul_le_mul_of_nonneg_left h hd
theorem btax_grow {a b lo hi : Rat} (h : a ≤ b) : ∀ {l : List Br}, (∀ x ∈ l, lo ≤ x.2 ∧ x.2 ≤ hi) → (bsum b l - bsum a l) * lo ≤ btax b l - btax a l ∧ btax b l - btax a l ≤ (bsum b l - bsum a l) * hi
 | [], _ => by
  show ((0 : Rat) - 0) * lo ≤ 0 - 0 ∧ (0 : Rat) - 0 ≤ (0 - 0) * hi
  constructor <;> grind
 | x :: r, hl => by
  obtain ⟨i1, i2⟩ := btax_grow h (l := r) (fun y hy => hl y (by simp [hy]))
  obtain ⟨x1, x2⟩ := hl x (by simp)
  have hd : 0 ≤ bpart b x r - bpart a x r := by have := bpart_mono h x r; grind
  have m1 := mul_mono x1 hd
  have m2 := mul_mono x2 hd
  show (bpart b x r + bsum b r - (bpart a x r + bsum a r)) * lo ≤ bpart b x r * x.2 + btax b r - (bpart a x r * x.2 + btax a r) ∧ bpart b x r * x.2 + btax b r - (bpart a x r * x.2 + btax a r) ≤ (bpart b x r + bsum b r - (bpart a x r + bsum a r)) * hi
  constructor <;> grind
theorem btax_bounds {a : Rat} : ∀ {l : List Br}, (∀ x ∈ l, 0 ≤ x.2 ∧ x.2 ≤ 1) → 0 ≤ btax a l ∧ btax a l ≤ bsum a l
 | [], _ => ⟨Rat.le_refl, Rat.le_refl⟩
 | x :: r, hl => by
  obtain ⟨i1, i2⟩ := btax_bounds (a := a) (l := r) (fun y hy => hl y (by simp [hy]))
  obtain ⟨x1, x2⟩ := hl x (by simp)
  have hd := bpart_nonneg a x r
  have m1 := mul_mono x1 hd
  have m2 := mul_mono x2 hd
  show 0 ≤ bpart a x r * x.2 + btax a r ∧ bpart a x r * x.2 + btax a r ≤ bpart a x r + bsum a r
  constructor <;> grind
theorem btax_split {a : Rat} : ∀ {pre post : List Br} {x : Br} {g : Rat}, x.1 < g → (∀ y ∈ post.head?, g < y.1) → btax a (pre ++ x :: (g, x.2) :: post) = btax a (pre ++ x :: post)
 | [], post, x, g, h1, h2 => by
  show bpart a x ((g, x.2) :: post) * x.2 + (bpart a (g, x.2) post * x.2 + btax a post) = bpart a x post * x.2 + btax a post
  have key : bpart a x ((g, x.2) :: post) + bpart a (g, x.2) post = bpart a x post := by
   unfold bpart
   cases post with
   | nil =>
    show (if 0 < (if g < a then g else a) - x.1 then (if g < a then g else a) - x.1 else 0) + (if 0 < a - g then a - g else 0) = if 0 < a - x.1 then a - x.1 else 0
    by_cases c1 : g < a
    ·rw [if_pos c1, if_pos (by grind), if_pos (by grind), if_pos (by grind)]; grind
    ·rw [if_neg c1, if_neg (show ¬ 0 < a - g by grind)]; grind
   | cons y r =>
    have hg := h2 y (by simp)
    show (if 0 < (if g < a then g else a) - x.1 then (if g < a then g else a) - x.1 else 0) + (if 0 < (if y.1 < a then y.1 else a) - g then (if y.1 < a then y.1 else a) - g else 0) = if 0 < (if y.1 < a then y.1 else a) - x.1 then (if y.1 < a then y.1 else a) - x.1 else 0
    by_cases c1 : g < a
    ·rw [if_pos c1]
     by_cases c2 : y.1 < a
     ·rw [if_pos c2, if_pos (by grind), if_pos (by grind), if_pos (by grind)]; grind
     ·rw [if_neg c2, if_pos (by grind), if_pos (by grind), if_pos (by grind)]; grind
    ·rw [if_neg c1, if_neg (show ¬ y.1 < a by grind), if_neg (show ¬ 0 < a - g by grind)]; grind
  rw [← key]; grind
 | z :: pre, post, x, g, h1, h2 => by
  show bpart a z (pre ++ x :: (g, x.2) :: post) * z.2 + btax a (pre ++ x :: (g, x.2) :: post) = bpart a z (pre ++ x :: post) * z.2 + btax a (pre ++ x :: post)
  rw [btax_split h1 h2]
  congr 2
  cases pre with
  | nil => rfl
  | cons p pre => rfl
def brate (a : Rat) (r0 : Rat) (l : List Br) : Rat := l.foldl (fun r x => if x.1 ≤ a then x.2 else r) r0
theorem brate_snoc {a r0 : Rat} {l : List Br} {z : Nat} {x : Br} (h : l[z]? = some x) : brate a r0 (l.take (z + 1)) = if x.1 ≤ a then x.2 else brate a r0 (l.take z) := by
 obtain ⟨hz, rfl⟩ := List.getElem?_eq_some_iff.1 h
 unfold brate
 rw [List.take_succ_eq_append_getElem hz, List.foldl_append]
 rfl
theorem brate_none {a r0 : Rat} : ∀ {l : List Br}, (∀ x ∈ l, ¬ x.1 ≤ a) → brate a r0 l = r0
 | [], _ => rfl
 | x :: r, h => by
  show brate a (if x.1 ≤ a then x.2 else r0) r = r0
  rw [if_neg (h x (by simp))]
  exact brate_none fun y hy => h y (by simp [hy])
theorem binc_all : ∀ {l : List Br} {x : Br}, binc (x :: l) → ∀ y ∈ l, x.1 < y.1
 | [], _, _, y, hy => by cases hy
 | z :: r, x, h, y, hy => by
  rcases List.mem_cons.1 hy with rfl | hy
  ·exact h.1
  ·have h1 := binc_all h.2 y hy
   have h2 := h.1
   grind
theorem binc_tail {x : Br} {r : List Br} (h : binc (x :: r)) : binc r := by
 cases r with
 | nil => trivial
 | cons y r => exact h.2
theorem binc_drop : ∀ {l : List Br} (z : Nat), binc l → binc (l.drop z)
 | l, 0, h => h
 | [], z + 1, _ => trivial
 | x :: r, z + 1, h => binc_drop z (binc_tail h)
theorem binc_of {l : List Br} (h : ∀ (i : Nat) (x y : Br), l[i]? = some x → l[i + 1]? = some y → x.1 < y.1) : binc l := by
 induction l with
 | nil => trivial
 | cons x r ih =>
  cases r with
  | nil => trivial
  | cons y r => exact ⟨h 0 x y rfl rfl, ih fun i a b ha hb => h (i + 1) a b ha hb⟩
theorem btax_drop {a : Rat} {l : List Br} {z : Nat} {x : Br} (h : l[z]? = some x) : btax a (l.drop z) = bpart a x (l.drop (z + 1)) * x.2 + btax a (l.drop (z + 1)) := by
 obtain ⟨hz, rfl⟩ := List.getElem?_eq_some_iff.1 h
 rw [List.drop_eq_getElem_cons hz]
 rfl
theorem btop_drop {a : Rat} {l : List Br} {z : Nat} : btop a (l.drop z) = match l[z]? with | some y => if y.1 < a then y.1 else a | none => a := by
 cases h : l[z]? with
 | none => rw [List.drop_of_length_le (List.getElem?_eq_none_iff.1 h)]; rfl
 | some y =>
  obtain ⟨hz, rfl⟩ := List.getElem?_eq_some_iff.1 h
  rw [List.drop_eq_getElem_cons hz]; rfl
end Go.Proofs.YtofdiijioejljaaGreat
/- Tax by brackets: brackets as elements of a row; when they are right. (Printed by gen28a.py.) -/
namespace Go.Proofs.YtofdiijioejljaaGreat
open Go.RowKit
attribute [local irreducible] vcOps VS

abbrev RR := Bool × List Nat × Bool × List Nat
def RR.q (x : RR) : Rat := rq x.1 x.2.1 x.2.2.1 x.2.2.2
def RR.ok (x : RR) : Bool := rtB x.1 x.2.1 x.2.2.1 x.2.2.2
abbrev RBr := RR × RR
def RBr.br (e : RBr) : Br := (e.1.q, e.2.q)
def BrE (kk : Nat) (w : World) (cs : List Value) (e : RBr) : Prop :=
 ∃ p c r d p' c' r' d', cs = [.bool e.1.1, .slice p e.1.2.1.length c, .bool e.1.2.2.1, .slice r e.1.2.2.2.length d, .bool e.2.1, .slice p' e.2.2.1.length c', .bool e.2.2.2.1, .slice r' e.2.2.2.2.length d'] ∧
  RatRaw w (.agg #[.bool e.1.1, .slice p e.1.2.1.length c, .bool e.1.2.2.1, .slice r e.1.2.2.2.length d]) e.1.1 e.1.2.1 e.1.2.2.1 e.1.2.2.2 ∧
  RatRaw w (.agg #[.bool e.2.1, .slice p' e.2.2.1.length c', .bool e.2.2.2.1, .slice r' e.2.2.2.2.length d']) e.2.1 e.2.2.1 e.2.2.2.1 e.2.2.2.2 ∧ e.1.2.1.length ≤ kk ∧ e.1.2.2.2.length ≤ kk ∧ e.2.2.1.length ≤ kk ∧ e.2.2.2.2.length ≤ kk
theorem BrE.kp {kk : Nat} {T : TypeId → Bool} {w w' : World} {cs : List Value} {e : RBr} (h : BrE kk w cs e) (k : KpS ⟨UU, fun _ => True, T⟩ w w') : BrE kk w' cs e := by
 obtain ⟨p, c, r, d, p', c', r', d', h1, h2, h3, h4⟩ := h
 exact ⟨p, c, r, d, p', c', r', d', h1, h2.kp k, h3.kp k, h4⟩
theorem br_ok (kk : Nat) : ElOk (BrE kk) 8 where
 kp := fun h k => h.kp k
 len := fun h => by obtain ⟨p, c, r, d, p', c', r', d', rfl, _⟩ := h; rfl
 ok := fun h => by obtain ⟨p, c, r, d, p', c', r', d', rfl, _⟩ := h; rfl
theorem RatRaw.k {T : TypeId → Bool} {w w' : World} {v : Value} {s t : Bool} {xs ys : List Nat} (h : RatRaw w v s xs t ys) (k : KpS ⟨UU, fun _ => True, T⟩ w w' := by (with_reducible (repeat (first | assumption | exact kU _ | exact kR _ | exact Kp.of (U := UU) (by assumption) | exact KpS.of (by assumption) | refine kT ?_ (by assumption))))) : RatRaw w' v s xs t ys := h.kp k
theorem cells_at {w : World} {b off i sz : Nat} {cs : List Value} (hc : ∀ (j : Nat) (u : Value), cs[j]? = some u → w.cell? ⟨b, off + i * sz + j, none⟩ = some u) (k : Nat) (ds : List Value) (hd : ds <+: cs.drop k) : ∀ (j : Nat) (u : Value), ds[j]? = some u → w.cell? ((⟨b, off + ((i : Nat) : Int).toNat * sz + k, none⟩ : Addr).add j) = some u := by
 intro j u hj
 obtain ⟨t, ht⟩ := hd
 rw [Addr.add_mid, Int.toNat_natCast, Nat.add_assoc]
 refine hc (k + j) u ?_
 rw [← List.getElem?_drop, ← ht, List.getElem?_append_left (List.getElem?_eq_some_iff.1 hj).1]
 exact hj
theorem ratRight_ok (s t : Bool) (xs ys : List Nat) (v : Value) (w : World) (h : RatRaw w v s xs t ys) (hx : xs.length ≤ 536870912) (hy : ys.length ≤ 536870912) (b : Bool) (hb : rtB s xs t ys = b) :
  Calls Tryz.prog 25 #[v] w fun e w' => e = .returned (.bool b) ∧ Beh w w' := hb ▸ ratRight_any s t xs ys v w h hx hy
theorem q04Right_ok (s t : Bool) (xs ys : List Nat) (v : Value) (w : World) (h : RatRaw w v s xs t ys) (hx : xs.length ≤ 134217728) (hy : ys.length ≤ 134217728) (b : Bool) (hb : rtB s xs t ys = b) :
  Calls Tryz.prog 52 #[v] w fun e w' => e = .returned (.bool b) ∧ Beh w w' := hb ▸ q04Right_any s t xs ys v w h hx hy
theorem q04Sign_ok (v : Value) (q : Rat) (k : Nat) (w : World) (hv : RatIn w v q k) (hk : k ≤ 134217728) (c : Int) (hc : rcmp q 0 = c) :
  Calls Tryz.prog 53 #[v] w fun e w' => e = .returned (.int .i64 c) ∧ Beh w w' := hc ▸ q04Sign_any v q k w hv hk
theorem q04Cmp_ok (v u : Value) (q r : Rat) (k l : Nat) (w : World) (hv : RatIn w v q k) (hu : RatIn w u r l) (hk : k ≤ 33554431) (hl : l ≤ 33554431) (c : Int) (hc : rcmp q r = c) :
  Calls Tryz.prog 50 #[v, u] w fun e w' => e = .returned (.int .i64 c) ∧ Beh w w' := hc ▸ q04Cmp_any v u q r k l w hv hu hk hl
def bprev (l : List RBr) : Nat → Option RBr
 | 0 => none
 | i + 1 => l[i]?
def bord (p : Option RBr) (f : Rat) : Bool := match p with
 | none => decide (f = 0)
 | some y => decide (y.1.q < f)
def bok (p : Option RBr) (x : RBr) : Bool := (x.1.ok && x.2.ok) && ((decide (0 ≤ x.2.q) && decide (x.2.q ≤ 1)) && bord p x.1.q)
def BokTo (l : List RBr) (n : Nat) : Prop := ∀ i, i < n → ∀ x, l[i]? = some x → bok (bprev l i) x = true
theorem BokTo.step {l : List RBr} {z : Nat} {e : RBr} (h : BokTo l z) (he : l[z]? = some e) (hb : bok (bprev l z) e = true) : BokTo l (z + 1) := fun i hi x hx => by
 rcases Nat.lt_succ_iff_lt_or_eq.1 hi with h' | rfl
 ·exact h i h' x hx
 ·rw [he] at hx; cases hx; exact hb
def bright (l : List RBr) : Bool := decide (0 < l.length) && (List.range l.length).all fun i => match l[i]? with
 | some x => bok (bprev l i) x
 | none => true
theorem bright_iff {l : List RBr} : bright l = true ↔ 0 < l.length ∧ BokTo l l.length := by
 unfold bright
 rw [Bool.and_eq_true, decide_eq_true_iff, List.all_eq_true]
 refine and_congr_right fun _ => ⟨fun h i hi x hx => ?_, fun h i hi => ?_⟩
 ·have := h i (List.mem_range.2 hi)
  rw [hx] at this
  exact this
 ·have hi' := List.mem_range.1 hi
  rw [List.getElem?_eq_getElem hi']
  exact h i hi' _ (List.getElem?_eq_getElem hi')
theorem bright_not {l : List RBr} {z : Nat} {e : RBr} (he : l[z]? = some e) (h : bok (bprev l z) e = false) : bright l = false := by
 cases hb : bright l with
 | false => rfl
 | true =>
  have := (bright_iff.1 hb).2 z (List.getElem?_eq_some_iff.1 he).1 e he
  rw [h] at this; cases this
theorem bright_end {l : List RBr} {N : Nat} (h : BokTo l N) (hN : N = l.length) : bright l = decide ((N : Int) > 0) := by
 subst hN
 by_cases h0 : 0 < l.length
 ·rw [bright_iff.2 ⟨h0, h⟩, decide_eq_true (by omega)]
 ·have : bright l = false := by
   cases hb : bright l with
   | false => rfl
   | true => exact absurd (bright_iff.1 hb).1 h0
  rw [this, decide_eq_false (by omega)]
set_option maxHeartbeats 4000000 in
theorem bRight_any (v : Value) (l : List RBr) (kk : Nat) (w : World) (hv : SlIn (BrE kk) 8 w v l) (hk : kk ≤ 1000000) :
  Calls Tryz.prog 19 #[v] w fun o w' => o = .returned (.bool (bright l)) ∧ Beh w w' := by
 obtain ⟨p, c, rfl, hnc, hcm⟩ := hv.form
 obtain ⟨N, hN⟩ : ∃ N, N = l.length := ⟨_, rfl⟩
 rw [← hN] at hv hnc
 rw [← hN]
 have h1s : RSz ((1 : Int) : Rat) 1 := RSz.one
 refine calm_enter (C := cxOf Tryz.prog w _) (args := [_]) Tryz.func19 rfl Tryz.ntmps19 (Nat.le_of_ble_eq_true rfl) ?_
 (repeat first|refine wN ?_|refine wP rfl ?_|refine cx_r rfl ?_|refine cx_d rfl ?_|refine wO rfl rfl ?_)
 refine VS.loop (J := fun m L M w' => ∃ z : Nat, z ≤ N ∧ m = N - z ∧ BokTo l z ∧ L = [(0, .val (.slice p N c)), (5, .val (.slice p N c)), (6, .val (.int .i64 (N : Int))), (7, .val (.int .i64 (z : Int)))] ∧ M = []) N ⟨_, _, ?_, ?_, ?_, ?_, ⟨0, by omega, rfl, fun i hi => absurd hi (Nat.not_lt_zero i), rfl, rfl⟩⟩ ?_
 ·(repeat first|exact trivial|refine ⟨rfl, ?_⟩)
 ·(repeat first|exact trivial|refine ⟨rfl, ?_⟩)
 ·rfl
 ·(repeat first|exact trivial|refine ⟨ClosedC.lit rfl, ?_⟩|refine ⟨ClosedC.vals _, ?_⟩)
 rintro m L M wJ ⟨z, hz, rfl, hto, rfl, rfl⟩
 (repeat first|refine wN ?_|refine wP rfl ?_|refine cx_r rfl ?_|refine cx_d rfl ?_|refine wO rfl rfl ?_)
 by_cases hlt : z < N
 ·refine VS.condY rfl (decide_eq_true (Int.ofNat_lt.2 hlt)) ?_
  obtain ⟨e, he⟩ : ∃ e, l[z]? = some e := ⟨_, List.getElem?_eq_getElem (by omega)⟩
  obtain ⟨b, off, cs', hpp, hc, hE⟩ := hv.at he
  obtain ⟨⟨s1, x1, t1, y1⟩, ⟨s2, x2, t2, y2⟩⟩ := e
  obtain ⟨ap, ac, ar, ad, bp, bc, br, bd, rfl, hf, hr, g1, g2, g3, g4⟩ := hE
  replace hf : RatRaw w (.agg #[.bool s1, .slice ap x1.length ac, .bool t1, .slice ar y1.length ad]) s1 x1 t1 y1 := hf
  replace hr : RatRaw w (.agg #[.bool s2, .slice bp x2.length bc, .bool t2, .slice br y2.length bd]) s2 x2 t2 y2 := hr
  replace g1 : x1.length ≤ kk := g1
  replace g2 : y1.length ≤ kk := g2
  replace g3 : x2.length ≤ kk := g3
  replace g4 : y2.length ≤ kk := g4
  have hfi := hf.in g1 g2
  have hri := hr.in g3 g4
  subst hpp
  have hbk : bok (bprev l z) ((s1, x1, t1, y1), (s2, x2, t2, y2)) = ((rtB s1 x1 t1 y1 && rtB s2 x2 t2 y2) && ((decide (0 ≤ rq s2 x2 t2 y2) && decide (rq s2 x2 t2 y2 ≤ 1)) && bord (bprev l z) (rq s1 x1 t1 y1))) := rfl
  obtain ⟨sg, hsg⟩ : ∃ sg, rcmp (rq s2 x2 t2 y2) 0 = sg := ⟨_, rfl⟩
  obtain ⟨cg, hcg⟩ : ∃ cg, rcmp (rq s2 x2 t2 y2) 1 = cg := ⟨_, rfl⟩
  have hsg0 : 0 ≤ rq s2 x2 t2 y2 ↔ sg ≥ 0 := by rw [← hsg]; exact rcmp_ge.symm
  have hcg0 : rq s2 x2 t2 y2 ≤ 1 ↔ cg ≤ 0 := by rw [← hcg]; exact rcmp_le.symm
  (repeat first|refine wN ?_|refine wP rfl ?_|refine cx_r rfl ?_|refine cx_d rfl ?_|refine wO rfl rfl ?_)
  refine VO.cond rfl ⟨by omega, by omega⟩ ?_
  refine wV rfl ?_
  (repeat first|refine wN ?_|refine wP rfl ?_|refine cx_r rfl ?_|refine cx_d rfl ?_|refine wO rfl rfl ?_)
  refine VO.read rfl [.bool s1, .slice ap x1.length ac, .bool t1, .slice ar y1.length ad, .bool s2, .slice bp x2.length bc, .bool t2, .slice br y2.length bd] rfl (cells_at hc 0 _ ⟨[], rfl⟩) (wV rfl ?_)
  (repeat first|refine wN ?_|refine wP rfl ?_|refine cx_r rfl ?_|refine cx_d rfl ?_|refine wO rfl rfl ?_)
  cases hr1 : rtB s1 x1 t1 y1 with
  | false =>
   refine VO.call rfl rfl (fk Tryz.func25) (fun wa1 ka1 ba1 => (ratRight_ok _ _ _ _ _ wa1 hf.k (by omega) (by omega) false hr1).mono ?_)
   rintro e w1 ⟨rfl, hb1⟩
   skip
   refine ⟨_, rfl, hb1, fun kb1 _ bb1 => wV rfl ?_⟩
   (repeat first|refine wN ?_|refine wP rfl ?_|refine cx_r rfl ?_|refine cx_d rfl ?_|refine wO rfl rfl ?_)
   refine VS.ret (cx_ok _ _) rfl rfl (fun wz kz bz => ?_)
   exact ⟨by rw [bright_not he (by rw [hbk, hr1]; simp)]; rfl, bz⟩
  | true =>
  refine VO.call rfl rfl (fk Tryz.func25) (fun wa1 ka1 ba1 => (ratRight_ok _ _ _ _ _ wa1 hf.k (by omega) (by omega) true hr1).mono ?_)
  rintro e w1 ⟨rfl, hb1⟩
  skip
  refine ⟨_, rfl, hb1, fun kb1 _ bb1 => wV rfl ?_⟩
  (repeat first|refine wN ?_|refine wP rfl ?_|refine cx_r rfl ?_|refine cx_d rfl ?_|refine wO rfl rfl ?_)
  cases hr2 : rtB s2 x2 t2 y2 with
  | false =>
   refine VO.call rfl rfl (fk Tryz.func25) (fun wa2 ka2 ba2 => (ratRight_ok _ _ _ _ _ wa2 hr.k (by omega) (by omega) false hr2).mono ?_)
   rintro e w2 ⟨rfl, hb2⟩
   skip
   refine ⟨_, rfl, hb2, fun kb2 _ bb2 => wV rfl ?_⟩
   (repeat first|refine wN ?_|refine wP rfl ?_|refine cx_r rfl ?_|refine cx_d rfl ?_|refine wO rfl rfl ?_)
   refine VS.ret (cx_ok _ _) rfl rfl (fun wz kz bz => ?_)
   exact ⟨by rw [bright_not he (by rw [hbk, hr2]; simp)]; rfl, bz⟩
  | true =>
  refine VO.call rfl rfl (fk Tryz.func25) (fun wa2 ka2 ba2 => (ratRight_ok _ _ _ _ _ wa2 hr.k (by omega) (by omega) true hr2).mono ?_)
  rintro e w2 ⟨rfl, hb2⟩
  skip
  refine ⟨_, rfl, hb2, fun kb2 _ bb2 => wV rfl ?_⟩
  (repeat first|refine wN ?_|refine wP rfl ?_|refine cx_r rfl ?_|refine cx_d rfl ?_|refine wO rfl rfl ?_)
  refine VO.call rfl rfl (fk Tryz.func21) (fun wa3 ka3 ba3 => (ratSign_ok _ (rq s2 x2 t2 y2) kk wa3 (hri.kp (Kp.of (U := UU) ba3)) (by omega) sg hsg).mono ?_)
  rintro e w3 ⟨rfl, hb3⟩
  skip
  refine ⟨_, rfl, hb3, fun kb3 _ bb3 => wV rfl ?_⟩
  (repeat first|refine wN ?_|refine wP rfl ?_|refine cx_r rfl ?_|refine cx_d rfl ?_|refine wO rfl rfl ?_)
  by_cases hs0 : sg < 0
  ·refine VO.fix 28 rfl (congrArg (fun b => AV.val (.bool b)) (decide_eq_true hs0)) ?_
   (repeat first|refine wN ?_|refine wP rfl ?_|refine cx_r rfl ?_|refine cx_d rfl ?_|refine wO rfl rfl ?_)
   refine VS.ret (cx_ok _ _) rfl rfl (fun wz kz bz => ?_)
   exact ⟨by rw [bright_not he (by rw [hbk, decide_eq_false (fun h => absurd (hsg0.1 h) (by omega))]; simp)]; rfl, bz⟩
  refine VO.fix 28 rfl (congrArg (fun b => AV.val (.bool b)) (decide_eq_false hs0)) ?_
  (repeat first|refine wN ?_|refine wP rfl ?_|refine cx_r rfl ?_|refine cx_d rfl ?_|refine wO rfl rfl ?_)
  refine VO.call rfl rfl (fk Tryz.func28) (fun wa4 ka4 ba4 => (ratWhole_any 1 wa4 (by omega) (by omega)).mono ?_)
  rintro e w4 ⟨r4, rfl, q4, hb4⟩
  obtain ⟨s4, p4, n4, c4, t4, y4, m4, d4, rfl⟩ := q4.form
  refine ⟨_, rfl, hb4, fun kb4 _ bb4 => wV rfl ?_⟩
  (repeat first|refine wN ?_|refine wP rfl ?_|refine cx_r rfl ?_|refine cx_d rfl ?_|refine wO rfl rfl ?_)
  refine VO.call rfl rfl (fk Tryz.func27) (fun wa5 ka5 ba5 => (ratCmp_ok _ _ (rq s2 x2 t2 y2) ((1 : Int) : Rat) kk 1 wa5 (hri.kp (Kp.of (U := UU) ba5)) (q4.ki h1s) (by omega) (by omega) cg hcg).mono ?_)
  rintro e w5 ⟨rfl, hb5⟩
  skip
  refine ⟨_, rfl, hb5, fun kb5 _ bb5 => wV rfl ?_⟩
  (repeat first|refine wN ?_|refine wP rfl ?_|refine cx_r rfl ?_|refine cx_d rfl ?_|refine wO rfl rfl ?_)
  by_cases hc0 : cg > 0
  ·refine VS.condY rfl (decide_eq_true hc0) ?_
   (repeat first|refine wN ?_|refine wP rfl ?_|refine cx_r rfl ?_|refine cx_d rfl ?_|refine wO rfl rfl ?_)
   refine VS.ret (cx_ok _ _) rfl rfl (fun wz kz bz => ?_)
   exact ⟨by rw [bright_not he (by rw [hbk, show decide (rq s2 x2 t2 y2 ≤ 1) = false from decide_eq_false (fun h => absurd (hcg0.1 h) (by omega))]; simp)]; rfl, bz⟩
  refine VS.condN rfl (decide_eq_false hc0) ?_
  (repeat first|refine wN ?_|refine wP rfl ?_|refine cx_r rfl ?_|refine cx_d rfl ?_|refine wO rfl rfl ?_)
  have hok2 : decide (0 ≤ rq s2 x2 t2 y2) = true := decide_eq_true (hsg0.2 (by omega))
  have hok3 : decide (rq s2 x2 t2 y2 ≤ 1) = true := decide_eq_true (hcg0.2 (by omega))
  rcases z with _ | z
  ·refine VO.fix 38 rfl (congrArg (fun b => AV.val (.bool b)) ((by rfl : ((((0 : Nat) : Int)) == 0) = true))) ?_
   (repeat first|refine wN ?_|refine wP rfl ?_|refine cx_r rfl ?_|refine cx_d rfl ?_|refine wO rfl rfl ?_)
   obtain ⟨fg, hfg⟩ : ∃ fg, rcmp (rq s1 x1 t1 y1) 0 = fg := ⟨_, rfl⟩
   refine VO.call rfl rfl (fk Tryz.func21) (fun wa6 ka6 ba6 => (ratSign_ok _ (rq s1 x1 t1 y1) kk wa6 (hfi.kp (Kp.of (U := UU) ba6)) (by omega) fg hfg).mono ?_)
   rintro e w6 ⟨rfl, hb6⟩
   skip
   refine ⟨_, rfl, hb6, fun kb6 _ bb6 => wV rfl ?_⟩
   (repeat first|refine wN ?_|refine wP rfl ?_|refine cx_r rfl ?_|refine cx_d rfl ?_|refine wO rfl rfl ?_)
   by_cases hq0 : rq s1 x1 t1 y1 = 0
   ·have hf0 : fg = 0 := by rw [← hfg]; exact rcmp_eq hq0
    subst hf0
    (repeat first|refine wN ?_|refine wP rfl ?_|refine cx_r rfl ?_|refine cx_d rfl ?_|refine wO rfl rfl ?_)
    refine VS.back (N - (0 + 1)) (by omega) ⟨_, _, ?_, ?_, ?_, ?_, ⟨0 + 1, by omega, rfl, hto.step he (by rw [hbk, hr1, hr2, hok2, hok3]; exact decide_eq_true hq0), rfl, rfl⟩⟩
    ·refine ⟨rfl, rfl, rfl, ?_, trivial⟩
     rw [← nat_step (i := 0) (by omega)]; rfl
    ·(repeat first|exact trivial|refine ⟨rfl, ?_⟩)
    ·rfl
    ·(repeat first|exact trivial|refine ⟨ClosedC.lit rfl, ?_⟩|refine ⟨ClosedC.vals _, ?_⟩)
   ·have hf0 : fg ≠ 0 := by rw [← hfg]; exact rcmp_ne hq0
    refine VS.condY rfl (by simp [hf0]) ?_
    (repeat first|refine wN ?_|refine wP rfl ?_|refine cx_r rfl ?_|refine cx_d rfl ?_|refine wO rfl rfl ?_)
    refine VS.ret (cx_ok _ _) rfl rfl (fun wz kz bz => ?_)
    exact ⟨by rw [bright_not he (by rw [hbk, show bord (bprev l 0) (rq s1 x1 t1 y1) = false from decide_eq_false hq0]; simp)]; rfl, bz⟩
  ·refine VO.fix 38 rfl (congrArg (fun b => AV.val (.bool b)) ((by rw [beq_eq_false_iff_ne]; omega : (((z + 1 : Nat) : Int) == 0) = false))) ?_
   (repeat first|refine wN ?_|refine wP rfl ?_|refine cx_r rfl ?_|refine cx_d rfl ?_|refine wO rfl rfl ?_)
   refine VO.fix 47 rfl (congrArg (fun b => AV.val (.bool b)) ((decide_eq_true (by omega) : decide (((z + 1 : Nat) : Int) > 0) = true))) ?_
   (repeat first|refine wN ?_|refine wP rfl ?_|refine cx_r rfl ?_|refine cx_d rfl ?_|refine wO rfl rfl ?_)
   obtain ⟨y, hy⟩ : ∃ y, l[z]? = some y := ⟨_, List.getElem?_eq_getElem (by omega)⟩
   obtain ⟨b', off', cs'', hpp', hc', hE'⟩ := hv.at hy
   cases hpp'
   obtain ⟨⟨u1, v1, a1, b1⟩, ⟨u2, v2, a2, b2⟩⟩ := y
   obtain ⟨cp, cc, cr, cd, dp, dc, dr, dd, rfl, hfy, -, k1, k2, -, -⟩ := hE'
   replace hfy : RatRaw w (.agg #[.bool u1, .slice cp v1.length cc, .bool a1, .slice cr b1.length cd]) u1 v1 a1 b1 := hfy
   replace k1 : v1.length ≤ kk := k1
   replace k2 : b1.length ≤ kk := k2
   have hfyi := hfy.in k1 k2
   have e9 : IntKind.i64.wrap (((z + 1 : Nat) : Int) - 1) = (z : Int) := by rw [IntWalk.i64_in _ (by omega)]; omega
   refine VO.fix 50 rfl (congrArg (fun z => AV.val (.int .i64 z)) (e9)) ?_
   (repeat first|refine wN ?_|refine wP rfl ?_|refine cx_r rfl ?_|refine cx_d rfl ?_|refine wO rfl rfl ?_)
   refine VO.cond rfl ⟨by omega, by omega⟩ ?_
   refine wV rfl ?_
   (repeat first|refine wN ?_|refine wP rfl ?_|refine cx_r rfl ?_|refine cx_d rfl ?_|refine wO rfl rfl ?_)
   refine VO.read rfl [.bool u1, .slice cp v1.length cc, .bool a1, .slice cr b1.length cd] rfl (cells_at hc' 0 _ ⟨_, rfl⟩) (wV rfl ?_)
   (repeat first|refine wN ?_|refine wP rfl ?_|refine cx_r rfl ?_|refine cx_d rfl ?_|refine wO rfl rfl ?_)
   obtain ⟨og, hog⟩ : ∃ og, rcmp (rq u1 v1 a1 b1) (rq s1 x1 t1 y1) = og := ⟨_, rfl⟩
   have hog0 : rq s1 x1 t1 y1 ≤ rq u1 v1 a1 b1 ↔ og ≥ 0 := by rw [← hog]; exact rcmp_ge.symm
   have hbo : bord (bprev l (z + 1)) (rq s1 x1 t1 y1) = decide (rq u1 v1 a1 b1 < rq s1 x1 t1 y1) := by
    show bord l[z]? _ = _
    rw [hy]; rfl
   refine VO.call rfl rfl (fk Tryz.func27) (fun wa7 ka7 ba7 => (ratCmp_ok _ _ (rq u1 v1 a1 b1) (rq s1 x1 t1 y1) kk kk wa7 (hfyi.kp (Kp.of (U := UU) ba7)) (hfi.kp (Kp.of (U := UU) ba7)) (by omega) (by omega) og hog).mono ?_)
   rintro e w7 ⟨rfl, hb7⟩
   skip
   refine ⟨_, rfl, hb7, fun kb7 _ bb7 => wV rfl ?_⟩
   (repeat first|refine wN ?_|refine wP rfl ?_|refine cx_r rfl ?_|refine cx_d rfl ?_|refine wO rfl rfl ?_)
   by_cases hg0 : og ≥ 0
   ·refine VS.condY rfl (decide_eq_true hg0) ?_
    (repeat first|refine wN ?_|refine wP rfl ?_|refine cx_r rfl ?_|refine cx_d rfl ?_|refine wO rfl rfl ?_)
    refine VS.ret (cx_ok _ _) rfl rfl (fun wz kz bz => ?_)
    exact ⟨by rw [bright_not he (by rw [hbk, hbo, decide_eq_false (fun h => Rat.not_lt.2 (hog0.2 hg0) h)]; simp)]; rfl, bz⟩
   ·refine VS.condN rfl (decide_eq_false hg0) ?_
    (repeat first|refine wN ?_|refine wP rfl ?_|refine cx_r rfl ?_|refine cx_d rfl ?_|refine wO rfl rfl ?_)
    refine VS.back (N - (z + 1 + 1)) (by omega) ⟨_, _, ?_, ?_, ?_, ?_, ⟨z + 1 + 1, by omega, rfl, hto.step he (by rw [hbk, hr1, hr2, hok2, hok3, hbo]; exact decide_eq_true (Rat.not_le.1 (fun h => hg0 (hog0.1 h)))), rfl, rfl⟩⟩
    ·refine ⟨rfl, rfl, rfl, ?_, trivial⟩
     rw [← nat_step (i := z + 1) (by omega)]; rfl
    ·(repeat first|exact trivial|refine ⟨rfl, ?_⟩)
    ·rfl
    ·(repeat first|exact trivial|refine ⟨ClosedC.lit rfl, ?_⟩|refine ⟨ClosedC.vals _, ?_⟩)
 ·refine VS.condN rfl (decide_eq_false (fun e => hlt (Int.ofNat_lt.1 e))) ?_
  obtain rfl : z = N := by omega
  (repeat first|refine wN ?_|refine wP rfl ?_|refine cx_r rfl ?_|refine cx_d rfl ?_|refine wO rfl rfl ?_)
  refine VS.ret (cx_ok _ _) rfl rfl (fun wz kz bz => ?_)
  exact ⟨by rw [bright_end hto hN]; rfl, bz⟩
set_option maxHeartbeats 4000000 in
theorem qRight28_any (v : Value) (l : List RBr) (kk : Nat) (w : World) (hv : SlIn (BrE kk) 8 w v l) (hk : kk ≤ 1000000) :
  Calls Tryz.prog 20 #[v] w fun o w' => o = .returned (.bool (bright l)) ∧ Beh w w' := by
 obtain ⟨p, c, rfl, hnc, hcm⟩ := hv.form
 obtain ⟨N, hN⟩ : ∃ N, N = l.length := ⟨_, rfl⟩
 rw [← hN] at hv hnc
 rw [← hN]
 have h1s : RSz ((1 : Int) : Rat) 1 := RSz.one
 refine calm_enter (C := cxOf Tryz.prog w _) (args := [_]) Tryz.func20 rfl Tryz.ntmps20 (Nat.le_of_ble_eq_true rfl) ?_
 (repeat first|refine wN ?_|refine wP rfl ?_|refine cx_r rfl ?_|refine cx_d rfl ?_|refine wO rfl rfl ?_)
 refine VS.loop (J := fun m L M w' => ∃ z : Nat, z ≤ N ∧ m = N - z ∧ BokTo l z ∧ L = [(0, .val (.slice p N c)), (3, .val (.int .i64 (z : Int)))] ∧ M = []) N ⟨_, _, ?_, ?_, ?_, ?_, ⟨0, by omega, rfl, fun i hi => absurd hi (Nat.not_lt_zero i), rfl, rfl⟩⟩ ?_
 ·(repeat first|exact trivial|refine ⟨rfl, ?_⟩)
 ·(repeat first|exact trivial|refine ⟨rfl, ?_⟩)
 ·rfl
 ·(repeat first|exact trivial|refine ⟨ClosedC.lit rfl, ?_⟩|refine ⟨ClosedC.vals _, ?_⟩)
 rintro m L M wJ ⟨z, hz, rfl, hto, rfl, rfl⟩
 (repeat first|refine wN ?_|refine wP rfl ?_|refine cx_r rfl ?_|refine cx_d rfl ?_|refine wO rfl rfl ?_)
 by_cases hlt : z < N
 ·refine VS.condY rfl (decide_eq_true (Int.ofNat_lt.2 hlt)) ?_
  obtain ⟨e, he⟩ : ∃ e, l[z]? = some e := ⟨_, List.getElem?_eq_getElem (by omega)⟩
  obtain ⟨b, off, cs', hpp, hc, hE⟩ := hv.at he
  obtain ⟨⟨s1, x1, t1, y1⟩, ⟨s2, x2, t2, y2⟩⟩ := e
  obtain ⟨ap, ac, ar, ad, bp, bc, br, bd, rfl, hf, hr, g1, g2, g3, g4⟩ := hE
  replace hf : RatRaw w (.agg #[.bool s1, .slice ap x1.length ac, .bool t1, .slice ar y1.length ad]) s1 x1 t1 y1 := hf
  replace hr : RatRaw w (.agg #[.bool s2, .slice bp x2.length bc, .bool t2, .slice br y2.length bd]) s2 x2 t2 y2 := hr
  replace g1 : x1.length ≤ kk := g1
  replace g2 : y1.length ≤ kk := g2
  replace g3 : x2.length ≤ kk := g3
  replace g4 : y2.length ≤ kk := g4
  have hfi := hf.in g1 g2
  have hri := hr.in g3 g4
  subst hpp
  have hbk : bok (bprev l z) ((s1, x1, t1, y1), (s2, x2, t2, y2)) = ((rtB s1 x1 t1 y1 && rtB s2 x2 t2 y2) && ((decide (0 ≤ rq s2 x2 t2 y2) && decide (rq s2 x2 t2 y2 ≤ 1)) && bord (bprev l z) (rq s1 x1 t1 y1))) := rfl
  obtain ⟨sg, hsg⟩ : ∃ sg, rcmp (rq s2 x2 t2 y2) 0 = sg := ⟨_, rfl⟩
  obtain ⟨cg, hcg⟩ : ∃ cg, rcmp (rq s2 x2 t2 y2) 1 = cg := ⟨_, rfl⟩
  have hsg0 : 0 ≤ rq s2 x2 t2 y2 ↔ sg ≥ 0 := by rw [← hsg]; exact rcmp_ge.symm
  have hcg0 : rq s2 x2 t2 y2 ≤ 1 ↔ cg ≤ 0 := by rw [← hcg]; exact rcmp_le.symm
  (repeat first|refine wN ?_|refine wP rfl ?_|refine cx_r rfl ?_|refine cx_d rfl ?_|refine wO rfl rfl ?_)
  refine VO.cond rfl ⟨by omega, by omega⟩ ?_
  refine wV rfl ?_
  (repeat first|refine wN ?_|refine wP rfl ?_|refine cx_r rfl ?_|refine cx_d rfl ?_|refine wO rfl rfl ?_)
  refine VO.read rfl [.bool s1, .slice ap x1.length ac, .bool t1, .slice ar y1.length ad, .bool s2, .slice bp x2.length bc, .bool t2, .slice br y2.length bd] rfl (cells_at hc 0 _ ⟨[], rfl⟩) (wV rfl ?_)
  (repeat first|refine wN ?_|refine wP rfl ?_|refine cx_r rfl ?_|refine cx_d rfl ?_|refine wO rfl rfl ?_)
  (repeat first|refine wN ?_|refine wP rfl ?_|refine cx_r rfl ?_|refine cx_d rfl ?_|refine wO rfl rfl ?_)
  cases hr1 : rtB s1 x1 t1 y1 with
  | false =>
   refine VO.call rfl rfl (fk Tryz.func52) (fun wa1 ka1 ba1 => (q04Right_ok _ _ _ _ _ wa1 (hf.kp (Kp.of (U := UU) ba1)) (by omega) (by omega) false hr1).mono ?_)
   rintro e w1 ⟨rfl, hb1⟩
   skip
   refine ⟨_, rfl, hb1, fun kb1 _ bb1 => wV rfl ?_⟩
   (repeat first|refine wN ?_|refine wP rfl ?_|refine cx_r rfl ?_|refine cx_d rfl ?_|refine wO rfl rfl ?_)
   refine VS.ret (cx_ok _ _) rfl rfl (fun wz kz bz => ?_)
   exact ⟨by rw [bright_not he (by rw [hbk, hr1]; simp)]; rfl, bz⟩
  | true =>
  refine VO.call rfl rfl (fk Tryz.func52) (fun wa1 ka1 ba1 => (q04Right_ok _ _ _ _ _ wa1 (hf.kp (Kp.of (U := UU) ba1)) (by omega) (by omega) true hr1).mono ?_)
  rintro e w1 ⟨rfl, hb1⟩
  skip
  refine ⟨_, rfl, hb1, fun kb1 _ bb1 => wV rfl ?_⟩
  (repeat first|refine wN ?_|refine wP rfl ?_|refine cx_r rfl ?_|refine cx_d rfl ?_|refine wO rfl rfl ?_)
  cases hr2 : rtB s2 x2 t2 y2 with
  | false =>
   refine VO.call rfl rfl (fk Tryz.func52) (fun wa2 ka2 ba2 => (q04Right_ok _ _ _ _ _ wa2 (hr.kp (Kp.of (U := UU) ba2)) (by omega) (by omega) false hr2).mono ?_)
   rintro e w2 ⟨rfl, hb2⟩
   skip
   refine ⟨_, rfl, hb2, fun kb2 _ bb2 => wV rfl ?_⟩
   (repeat first|refine wN ?_|refine wP rfl ?_|refine cx_r rfl ?_|refine cx_d rfl ?_|refine wO rfl rfl ?_)
   refine VS.ret (cx_ok _ _) rfl rfl (fun wz kz bz => ?_)
   exact ⟨by rw [bright_not he (by rw [hbk, hr2]; simp)]; rfl, bz⟩
  | true =>
  refine VO.call rfl rfl (fk Tryz.func52) (fun wa2 ka2 ba2 => (q04Right_ok _ _ _ _ _ wa2 (hr.kp (Kp.of (U := UU) ba2)) (by omega) (by omega) true hr2).mono ?_)
  rintro e w2 ⟨rfl, hb2⟩
  skip
  refine ⟨_, rfl, hb2, fun kb2 _ bb2 => wV rfl ?_⟩
  (repeat first|refine wN ?_|refine wP rfl ?_|refine cx_r rfl ?_|refine cx_d rfl ?_|refine wO rfl rfl ?_)
  refine VO.call rfl rfl (fk Tryz.func53) (fun wa3 ka3 ba3 => (q04Sign_ok _ (rq s2 x2 t2 y2) kk wa3 (hri.kp (Kp.of (U := UU) ba3)) (by omega) sg hsg).mono ?_)
  rintro e w3 ⟨rfl, hb3⟩
  skip
  refine ⟨_, rfl, hb3, fun kb3 _ bb3 => wV rfl ?_⟩
  (repeat first|refine wN ?_|refine wP rfl ?_|refine cx_r rfl ?_|refine cx_d rfl ?_|refine wO rfl rfl ?_)
  by_cases hs0 : sg < 0
  ·refine VO.fix 31 rfl (congrArg (fun b => AV.val (.bool b)) (decide_eq_true hs0)) ?_
   (repeat first|refine wN ?_|refine wP rfl ?_|refine cx_r rfl ?_|refine cx_d rfl ?_|refine wO rfl rfl ?_)
   refine VS.ret (cx_ok _ _) rfl rfl (fun wz kz bz => ?_)
   exact ⟨by rw [bright_not he (by rw [hbk, decide_eq_false (fun h => absurd (hsg0.1 h) (by omega))]; simp)]; rfl, bz⟩
  refine VO.fix 31 rfl (congrArg (fun b => AV.val (.bool b)) (decide_eq_false hs0)) ?_
  (repeat first|refine wN ?_|refine wP rfl ?_|refine cx_r rfl ?_|refine cx_d rfl ?_|refine wO rfl rfl ?_)
  refine VO.call rfl rfl (fk Tryz.func54) (fun wa4 ka4 ba4 => (q04Whole_any 1 wa4 (by omega) (by omega)).mono ?_)
  rintro e w4 ⟨r4, rfl, q4, hb4⟩
  obtain ⟨s4, p4, n4, c4, t4, y4, m4, d4, rfl⟩ := q4.form
  refine ⟨_, rfl, hb4, fun kb4 _ bb4 => wV rfl ?_⟩
  (repeat first|refine wN ?_|refine wP rfl ?_|refine cx_r rfl ?_|refine cx_d rfl ?_|refine wO rfl rfl ?_)
  refine VO.call rfl rfl (fk Tryz.func50) (fun wa5 ka5 ba5 => (q04Cmp_ok _ _ (rq s2 x2 t2 y2) ((1 : Int) : Rat) kk 1 wa5 (hri.kp (Kp.of (U := UU) ba5)) (q4.ki h1s) (by omega) (by omega) cg hcg).mono ?_)
  rintro e w5 ⟨rfl, hb5⟩
  skip
  refine ⟨_, rfl, hb5, fun kb5 _ bb5 => wV rfl ?_⟩
  (repeat first|refine wN ?_|refine wP rfl ?_|refine cx_r rfl ?_|refine cx_d rfl ?_|refine wO rfl rfl ?_)
  by_cases hc0 : cg > 0
  ·refine VS.condY rfl (decide_eq_true hc0) ?_
   (repeat first|refine wN ?_|refine wP rfl ?_|refine cx_r rfl ?_|refine cx_d rfl ?_|refine wO rfl rfl ?_)
   refine VS.ret (cx_ok _ _) rfl rfl (fun wz kz bz => ?_)
   exact ⟨by rw [bright_not he (by rw [hbk, show decide (rq s2 x2 t2 y2 ≤ 1) = false from decide_eq_false (fun h => absurd (hcg0.1 h) (by omega))]; simp)]; rfl, bz⟩
  refine VS.condN rfl (decide_eq_false hc0) ?_
  (repeat first|refine wN ?_|refine wP rfl ?_|refine cx_r rfl ?_|refine cx_d rfl ?_|refine wO rfl rfl ?_)
  have hok2 : decide (0 ≤ rq s2 x2 t2 y2) = true := decide_eq_true (hsg0.2 (by omega))
  have hok3 : decide (rq s2 x2 t2 y2 ≤ 1) = true := decide_eq_true (hcg0.2 (by omega))
  rcases z with _ | z
  ·refine VO.fix 40 rfl (congrArg (fun b => AV.val (.bool b)) ((by rfl : ((((0 : Nat) : Int)) == 0) = true))) ?_
   (repeat first|refine wN ?_|refine wP rfl ?_|refine cx_r rfl ?_|refine cx_d rfl ?_|refine wO rfl rfl ?_)
   obtain ⟨fg, hfg⟩ : ∃ fg, rcmp (rq s1 x1 t1 y1) 0 = fg := ⟨_, rfl⟩
   refine VO.call rfl rfl (fk Tryz.func53) (fun wa6 ka6 ba6 => (q04Sign_ok _ (rq s1 x1 t1 y1) kk wa6 (hfi.kp (Kp.of (U := UU) ba6)) (by omega) fg hfg).mono ?_)
   rintro e w6 ⟨rfl, hb6⟩
   skip
   refine ⟨_, rfl, hb6, fun kb6 _ bb6 => wV rfl ?_⟩
   (repeat first|refine wN ?_|refine wP rfl ?_|refine cx_r rfl ?_|refine cx_d rfl ?_|refine wO rfl rfl ?_)
   by_cases hq0 : rq s1 x1 t1 y1 = 0
   ·have hf0 : fg = 0 := by rw [← hfg]; exact rcmp_eq hq0
    subst hf0
    (repeat first|refine wN ?_|refine wP rfl ?_|refine cx_r rfl ?_|refine cx_d rfl ?_|refine wO rfl rfl ?_)
    refine VS.back (N - (0 + 1)) (by omega) ⟨_, _, ?_, ?_, ?_, ?_, ⟨0 + 1, by omega, rfl, hto.step he (by rw [hbk, hr1, hr2, hok2, hok3]; exact decide_eq_true hq0), rfl, rfl⟩⟩
    ·refine ⟨rfl, ?_, trivial⟩
     rw [← nat_step (i := 0) (by omega)]; rfl
    ·(repeat first|exact trivial|refine ⟨rfl, ?_⟩)
    ·rfl
    ·(repeat first|exact trivial|refine ⟨ClosedC.lit rfl, ?_⟩|refine ⟨ClosedC.vals _, ?_⟩)
   ·have hf0 : fg ≠ 0 := by rw [← hfg]; exact rcmp_ne hq0
    refine VO.fix 46 rfl (congrArg (fun b => AV.val (.bool b)) ((by simp [hf0] : (fg != 0) = true))) ?_
    (repeat first|refine wN ?_|refine wP rfl ?_|refine cx_r rfl ?_|refine cx_d rfl ?_|refine wO rfl rfl ?_)
    refine VS.ret (cx_ok _ _) rfl rfl (fun wz kz bz => ?_)
    exact ⟨by rw [bright_not he (by rw [hbk, show bord (bprev l 0) (rq s1 x1 t1 y1) = false from decide_eq_false hq0]; simp)]; rfl, bz⟩
  ·refine VO.fix 40 rfl (congrArg (fun b => AV.val (.bool b)) ((by rw [beq_eq_false_iff_ne]; omega : (((z + 1 : Nat) : Int) == 0) = false))) ?_
   (repeat first|refine wN ?_|refine wP rfl ?_|refine cx_r rfl ?_|refine cx_d rfl ?_|refine wO rfl rfl ?_)
   refine VO.fix 49 rfl (congrArg (fun b => AV.val (.bool b)) ((decide_eq_true (by omega) : decide (((z + 1 : Nat) : Int) > 0) = true))) ?_
   (repeat first|refine wN ?_|refine wP rfl ?_|refine cx_r rfl ?_|refine cx_d rfl ?_|refine wO rfl rfl ?_)
   obtain ⟨y, hy⟩ : ∃ y, l[z]? = some y := ⟨_, List.getElem?_eq_getElem (by omega)⟩
   obtain ⟨b', off', cs'', hpp', hc', hE'⟩ := hv.at hy
   cases hpp'
   obtain ⟨⟨u1, v1, a1, b1⟩, ⟨u2, v2, a2, b2⟩⟩ := y
   obtain ⟨cp, cc, cr, cd, dp, dc, dr, dd, rfl, hfy, -, k1, k2, -, -⟩ := hE'
   replace hfy : RatRaw w (.agg #[.bool u1, .slice cp v1.length cc, .bool a1, .slice cr b1.length cd]) u1 v1 a1 b1 := hfy
   replace k1 : v1.length ≤ kk := k1
   replace k2 : b1.length ≤ kk := k2
   have hfyi := hfy.in k1 k2
   have e9 : IntKind.i64.wrap (((z + 1 : Nat) : Int) - 1) = (z : Int) := by rw [IntWalk.i64_in _ (by omega)]; omega
   refine VO.fix 52 rfl (congrArg (fun z => AV.val (.int .i64 z)) (e9)) ?_
   (repeat first|refine wN ?_|refine wP rfl ?_|refine cx_r rfl ?_|refine cx_d rfl ?_|refine wO rfl rfl ?_)
   refine VO.cond rfl ⟨by omega, by omega⟩ ?_
   refine wV rfl ?_
   (repeat first|refine wN ?_|refine wP rfl ?_|refine cx_r rfl ?_|refine cx_d rfl ?_|refine wO rfl rfl ?_)
   refine VO.read rfl [.bool u1, .slice cp v1.length cc, .bool a1, .slice cr b1.length cd] rfl (cells_at hc' 0 _ ⟨_, rfl⟩) (wV rfl ?_)
   (repeat first|refine wN ?_|refine wP rfl ?_|refine cx_r rfl ?_|refine cx_d rfl ?_|refine wO rfl rfl ?_)
   obtain ⟨og, hog⟩ : ∃ og, rcmp (rq u1 v1 a1 b1) (rq s1 x1 t1 y1) = og := ⟨_, rfl⟩
   have hog0 : rq s1 x1 t1 y1 ≤ rq u1 v1 a1 b1 ↔ og ≥ 0 := by rw [← hog]; exact rcmp_ge.symm
   have hbo : bord (bprev l (z + 1)) (rq s1 x1 t1 y1) = decide (rq u1 v1 a1 b1 < rq s1 x1 t1 y1) := by
    show bord l[z]? _ = _
    rw [hy]; rfl
   refine VO.call rfl rfl (fk Tryz.func50) (fun wa7 ka7 ba7 => (q04Cmp_ok _ _ (rq u1 v1 a1 b1) (rq s1 x1 t1 y1) kk kk wa7 (hfyi.kp (Kp.of (U := UU) ba7)) (hfi.kp (Kp.of (U := UU) ba7)) (by omega) (by omega) og hog).mono ?_)
   rintro e w7 ⟨rfl, hb7⟩
   skip
   refine ⟨_, rfl, hb7, fun kb7 _ bb7 => wV rfl ?_⟩
   (repeat first|refine wN ?_|refine wP rfl ?_|refine cx_r rfl ?_|refine cx_d rfl ?_|refine wO rfl rfl ?_)
   by_cases hg0 : og ≥ 0
   ·refine VS.condY rfl (decide_eq_true hg0) ?_
    (repeat first|refine wN ?_|refine wP rfl ?_|refine cx_r rfl ?_|refine cx_d rfl ?_|refine wO rfl rfl ?_)
    refine VS.ret (cx_ok _ _) rfl rfl (fun wz kz bz => ?_)
    exact ⟨by rw [bright_not he (by rw [hbk, hbo, decide_eq_false (fun h => Rat.not_lt.2 (hog0.2 hg0) h)]; simp)]; rfl, bz⟩
   ·refine VS.condN rfl (decide_eq_false hg0) ?_
    (repeat first|refine wN ?_|refine wP rfl ?_|refine cx_r rfl ?_|refine cx_d rfl ?_|refine wO rfl rfl ?_)
    refine VS.back (N - (z + 1 + 1)) (by omega) ⟨_, _, ?_, ?_, ?_, ?_, ⟨z + 1 + 1, by omega, rfl, hto.step he (by rw [hbk, hr1, hr2, hok2, hok3, hbo]; exact decide_eq_true (Rat.not_le.1 (fun h => hg0 (hog0.1 h)))), rfl, rfl⟩⟩
    ·refine ⟨rfl, ?_, trivial⟩
     rw [← nat_step (i := z + 1) (by omega)]; rfl
    ·(repeat first|exact trivial|refine ⟨rfl, ?_⟩)
    ·rfl
    ·(repeat first|exact trivial|refine ⟨ClosedC.lit rfl, ?_⟩|refine ⟨ClosedC.vals _, ?_⟩)
 ·refine VS.condN rfl (decide_eq_false (fun e => hlt (Int.ofNat_lt.1 e))) ?_
  obtain rfl : z = N := by omega
  (repeat first|refine wN ?_|refine wP rfl ?_|refine cx_r rfl ?_|refine cx_d rfl ?_|refine wO rfl rfl ?_)
  refine VS.ret (cx_ok _ _) rfl rfl (fun wz kz bz => ?_)
  exact ⟨by rw [bright_end hto hN]; rfl, bz⟩
end Go.Proofs.YtofdiijioejljaaGreat
