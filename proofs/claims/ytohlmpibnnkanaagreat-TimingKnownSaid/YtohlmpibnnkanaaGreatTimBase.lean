/- Expenses that are deducted later: parts, balances, and how they hang together. No function of the program in sight. -/
import Derived.Test.YtohlmpibnnkanaaGreatRowW
import Derived.Test.YtohlmpibnnkanaaGreatFil
import Derived.Test.YtohlmpibnnkanaaGreatKeep
set_option linter.all false
set_option maxRecDepth 4000
namespace Go.Proofs.YtohlmpibnnkanaaGreat
open Go.RowKit

abbrev Exp := Int × Int × Bool × Rat
def ewrong (e : Exp) : Bool := decide (e.1 < 0) || (decide (e.1 > 9999) || (decide (e.2.1 < 1) || (decide (e.2.1 > 40) || !e.2.2.1)))
theorem ewrong_no {e : Exp} (h : ewrong e = false) : 0 ≤ e.1 ∧ e.1 ≤ 9999 ∧ 1 ≤ e.2.1 ∧ e.2.1 ≤ 40 ∧ e.2.2.1 = true := by
 unfold ewrong at h
 simp only [Bool.or_eq_false_iff, decide_eq_false_iff_not, Bool.not_eq_false'] at h
 obtain ⟨a, b, c, d, f⟩ := h
 exact ⟨by omega, by omega, by omega, by omega, f⟩
def epart (e : Exp) (y : Int) : Rat := if ewrong e = true ∨ y ≤ e.1 ∨ y > e.1 + e.2.1 then 0 else e.2.2.2 * Rat.divInt 1 e.2.1
def ecount (e : Exp) (y : Int) : Int := if y ≤ e.1 then 0 else if y ≥ e.1 + e.2.1 then e.2.1 else y - e.1
def ebal (e : Exp) (y : Int) : Rat := if e.1 > y then 0 else e.2.2.2 * Rat.divInt (e.2.1 - ecount e y) e.2.1
def edue (l : List Exp) (y : Int) : Rat := rsum (l.map fun e => epart e y)
def ebalance (l : List Exp) (y : Int) : Rat := rsum (l.map fun e => ebal e y)
theorem div_self' {n : Int} (h : n ≠ 0) : Rat.divInt n n = 1 := by rw [Rat.divInt_self' h]
theorem div_sub {a b n : Int} : Rat.divInt (a - b) n = Rat.divInt a n - Rat.divInt b n := by
 rw [Rat.divInt_eq_div, Rat.divInt_eq_div, Rat.divInt_eq_div, Rat.intCast_sub, Rat.div_def, Rat.div_def, Rat.div_def]; grind
theorem div_one_eq (q : Rat) (n : Int) : q / (n : Rat) = q * Rat.divInt 1 n := by
 rw [Rat.divInt_eq_div, Rat.div_def, Rat.div_def]
 show q * _ = q * (1 * _)
 rw [Rat.one_mul]
theorem ebal_step {e : Exp} (h : ewrong e = false) (y : Int) : ebal e y = ebal e (y - 1) + (if e.1 = y then e.2.2.2 else 0) - epart e y := by
 obtain ⟨h0, h1, h2, h3, _⟩ := ewrong_no h
 have hn : e.2.1 ≠ 0 := by omega
 have hs := div_self' hn
 unfold ebal epart ecount
 rw [h]
 by_cases a : e.1 > y
 ·rw [if_pos a, if_pos (show e.1 > y - 1 by omega), if_neg (show ¬ e.1 = y by omega), if_pos (.inr (.inl (by omega)))]
  grind
 ·rw [if_neg a]
  by_cases b : e.1 = y
  ·rw [if_pos (show e.1 > y - 1 by omega), if_pos b, if_pos (show y ≤ e.1 by omega), if_pos (.inr (.inl (by omega))), Int.sub_zero, hs]
   grind
  ·rw [if_neg (show ¬ e.1 > y - 1 by omega), if_neg b, if_neg (show ¬ y ≤ e.1 by omega)]
   by_cases c : y > e.1 + e.2.1
   ·rw [if_pos (show y ≥ e.1 + e.2.1 by omega), if_neg (show ¬ y - 1 ≤ e.1 by omega), if_pos (show y - 1 ≥ e.1 + e.2.1 by omega), if_pos (.inr (.inr c))]
    grind
   ·rw [if_neg (show ¬ (false = true ∨ y ≤ e.1 ∨ y > e.1 + e.2.1) by simp; omega)]
    have key : ∀ k : Int, e.2.2.2 * Rat.divInt (e.2.1 - (k + 1)) e.2.1 = e.2.2.2 * Rat.divInt (e.2.1 - k) e.2.1 - e.2.2.2 * Rat.divInt 1 e.2.1 := fun k => by
     rw [show e.2.1 - (k + 1) = (e.2.1 - k) - 1 by omega, div_sub]; grind
    have hc1 : (if y ≥ e.1 + e.2.1 then e.2.1 else y - e.1) = y - e.1 := by split <;> omega
    have hc2 : (if y - 1 ≤ e.1 then 0 else if y - 1 ≥ e.1 + e.2.1 then e.2.1 else y - 1 - e.1) = y - 1 - e.1 := by split <;> (try split) <;> omega
    rw [hc1, hc2]
    have := key (y - 1 - e.1)
    rw [show y - 1 - e.1 + 1 = y - e.1 by omega] at this
    rw [this]
    grind
theorem ebal_before {e : Exp} {y : Int} (h : y < e.1) : ebal e y = 0 := if_pos (by omega)
theorem ebal_after {e : Exp} (h : ewrong e = false) {y : Int} (hy : e.1 + e.2.1 ≤ y) : ebal e y = 0 := by
 obtain ⟨h0, h1, h2, h3, _⟩ := ewrong_no h
 unfold ebal ecount
 rw [if_neg (by omega), if_neg (by omega), if_pos (by omega), Int.sub_self, Rat.zero_divInt, Rat.mul_zero]
def eparts (e : Exp) : Nat → Rat
 | 0 => 0
 | k + 1 => eparts e k + epart e (e.1 + (k : Int))
theorem eparts_eq {e : Exp} (h : ewrong e = false) : ∀ k : Nat, (k : Int) ≤ e.2.1 → eparts e (k + 1) = e.2.2.2 * Rat.divInt (k : Int) e.2.1
 | 0, _ => by
  show eparts e 0 + epart e (e.1 + ((0 : Nat) : Int)) = _
  unfold epart
  rw [if_pos (.inr (.inl (by omega)))]
  show (0 : Rat) + 0 = e.2.2.2 * Rat.divInt 0 e.2.1
  rw [Rat.zero_divInt]; grind
 | k + 1, hk => by
  obtain ⟨h0, h1, h2, h3, _⟩ := ewrong_no h
  show eparts e (k + 1) + epart e (e.1 + ((k + 1 : Nat) : Int)) = _
  rw [eparts_eq h k (by omega)]
  unfold epart
  rw [h, if_neg (by simp; omega), ← Rat.mul_add]
  congr 1
  rw [Rat.divInt_eq_div, Rat.divInt_eq_div, Rat.divInt_eq_div, Rat.div_def, Rat.div_def, Rat.div_def, ← Rat.add_mul, show ((k + 1 : Nat) : Int) = (k : Int) + 1 by omega, Rat.intCast_add]
theorem eparts_all {e : Exp} (h : ewrong e = false) : eparts e (e.2.1.toNat + 1) = e.2.2.2 := by
 obtain ⟨h0, h1, h2, h3, _⟩ := ewrong_no h
 rw [eparts_eq h _ (by omega), show ((e.2.1.toNat : Nat) : Int) = e.2.1 by omega, div_self' (by omega), Rat.mul_one]

theorem rsum_cons (x : Rat) (l : List Rat) : rsum (x :: l) = x + rsum l := by
 have key : ∀ (l : List Rat) (a : Rat), l.foldl (· + ·) a = a + l.foldl (· + ·) 0 := by
  intro l
  induction l with
  | nil => intro a; show a = a + 0; grind
  | cons y r ih => intro a; rw [List.foldl_cons, List.foldl_cons, ih (a + y), ih (0 + y)]; grind
 show List.foldl (· + ·) (0 + x) l = _
 rw [key]
 show 0 + x + rsum l = x + rsum l
 grind
theorem rsum_nil : rsum [] = 0 := rfl
theorem rsum_append (l m : List Rat) : rsum (l ++ m) = rsum l + rsum m := by
 induction l with
 | nil => rw [List.nil_append, rsum_nil]; grind
 | cons x r ih => rw [List.cons_append, rsum_cons, rsum_cons, ih]; grind
def eput (l : List Exp) (y : Int) : Rat := rsum (l.map fun e => if e.1 = y then e.2.2.2 else 0)
theorem ebalance_step {l : List Exp} (h : ∀ e ∈ l, ewrong e = false) (y : Int) : ebalance l y = ebalance l (y - 1) + eput l y - edue l y := by
 induction l with
 | nil => show rsum [] = rsum [] + rsum [] - rsum []; rw [rsum_nil]; grind
 | cons e r ih =>
  have h1 := ebal_step (h e (by simp)) y
  have h2 := ih (fun x hx => h x (by simp [hx]))
  unfold ebalance eput edue at *
  simp only [List.map_cons, rsum_cons]
  grind
theorem ebalance_before {l : List Exp} {y : Int} (h : ∀ e ∈ l, y < e.1) : ebalance l y = 0 := by
 induction l with
 | nil => rfl
 | cons e r ih =>
  have := ih (fun x hx => h x (by simp [hx]))
  unfold ebalance at *
  rw [List.map_cons, rsum_cons, ebal_before (h e (by simp)), this]; grind
theorem ebalance_after {l : List Exp} (hw : ∀ e ∈ l, ewrong e = false) {y : Int} (h : ∀ e ∈ l, e.1 + e.2.1 ≤ y) : ebalance l y = 0 := by
 induction l with
 | nil => rfl
 | cons e r ih =>
  have := ih (fun x hx => hw x (by simp [hx])) (fun x hx => h x (by simp [hx]))
  unfold ebalance at *
  rw [List.map_cons, rsum_cons, ebal_after (hw e (by simp)) (h e (by simp)), this]; grind
end Go.Proofs.YtohlmpibnnkanaaGreat
/- Expenses that are deducted later: how they lie in memory; wrong, parts, of, Part. -/
namespace Go.Proofs.YtohlmpibnnkanaaGreat
open Go.RowKit
attribute [local irreducible] vcOps VS

abbrev RExp := Int × Int × Bool × List Nat × Bool × List Nat
def RExp.exp (e : RExp) : Exp := (e.1, e.2.1, rtB e.2.2.1 e.2.2.2.1 e.2.2.2.2.1 e.2.2.2.2.2, rq e.2.2.1 e.2.2.2.1 e.2.2.2.2.1 e.2.2.2.2.2)
def i64b (x : Int) : Prop := -9223372036854775808 ≤ x ∧ x ≤ 9223372036854775807
def ExpE (kk : Nat) (w : World) (cs : List Value) (e : RExp) : Prop :=
 ∃ p c r d, cs = [.int .i64 e.1, .int .i64 e.2.1, .bool e.2.2.1, .slice p e.2.2.2.1.length c, .bool e.2.2.2.2.1, .slice r e.2.2.2.2.2.length d] ∧ i64b e.1 ∧ i64b e.2.1 ∧
  RatRaw w (.agg #[.bool e.2.2.1, .slice p e.2.2.2.1.length c, .bool e.2.2.2.2.1, .slice r e.2.2.2.2.2.length d]) e.2.2.1 e.2.2.2.1 e.2.2.2.2.1 e.2.2.2.2.2 ∧ e.2.2.2.1.length ≤ kk ∧ e.2.2.2.2.2.length ≤ kk
def ExpV (kk : Nat) (w : World) (v : Value) (e : RExp) : Prop := ∃ cs : List Value, v = .agg cs.toArray ∧ ExpE kk w cs e
theorem ExpE.kp {kk : Nat} {T : TypeId → Bool} {w w' : World} {cs : List Value} {e : RExp} (h : ExpE kk w cs e) (k : KpS ⟨UU, fun _ => True, T⟩ w w') : ExpE kk w' cs e := by
 obtain ⟨p, c, r, d, h1, h2, h3, h4, h5⟩ := h
 exact ⟨p, c, r, d, h1, h2, h3, h4.kp k, h5⟩
theorem ExpV.kp {kk : Nat} {T : TypeId → Bool} {w w' : World} {v : Value} {e : RExp} (h : ExpV kk w v e) (k : KpS ⟨UU, fun _ => True, T⟩ w w') : ExpV kk w' v e := by
 obtain ⟨cs, h1, h2⟩ := h
 exact ⟨cs, h1, h2.kp k⟩
theorem ExpV.k {kk : Nat} {T : TypeId → Bool} {w w' : World} {v : Value} {e : RExp} (h : ExpV kk w v e) (k : KpS ⟨UU, fun _ => True, T⟩ w w' := by (with_reducible (repeat (first | assumption | exact kU _ | exact kR _ | exact Kp.of (U := UU) (by assumption) | exact KpS.of (by assumption) | refine kT ?_ (by assumption))))) : ExpV kk w' v e := h.kp k
theorem exp_ok (kk : Nat) : ElOk (ExpE kk) 6 where
 kp := fun h k => h.kp k
 len := fun h => by obtain ⟨p, c, r, d, rfl, _⟩ := h; rfl
 ok := fun h => by obtain ⟨p, c, r, d, rfl, _⟩ := h; rfl
theorem RatRaw.k {T : TypeId → Bool} {w w' : World} {v : Value} {s t : Bool} {xs ys : List Nat} (h : RatRaw w v s xs t ys) (k : KpS ⟨UU, fun _ => True, T⟩ w w' := by (with_reducible (repeat (first | assumption | exact kU _ | exact kR _ | exact Kp.of (U := UU) (by assumption) | exact KpS.of (by assumption) | refine kT ?_ (by assumption))))) : RatRaw w' v s xs t ys := h.kp k
set_option maxHeartbeats 1000000 in
theorem twrong_any (v : Value) (e : RExp) (kk : Nat) (w : World) (hv : ExpV kk w v e) (hk : kk ≤ 134217728) (c : Int) (hc : (if ewrong e.exp = true then 2 else 0) = c) :
  Calls Tryz.prog 62 #[v] w fun o w' => o = .returned (.int .i64 c) ∧ Beh w w' := by
 obtain ⟨cs, rfl, p, cp, r, d, rfl, hy, hn, hq, h1, h2⟩ := hv
 obtain ⟨y, n, s, xs, t, ys⟩ := e
 have hew : ewrong (RExp.exp (y, n, s, xs, t, ys)) = (decide (y < 0) || (decide (y > 9999) || (decide (n < 1) || (decide (n > 40) || !rtB s xs t ys)))) := rfl
 rw [hew] at hc
 replace hq : RatRaw w (.agg #[.bool s, .slice p xs.length cp, .bool t, .slice r ys.length d]) s xs t ys := hq
 replace h1 : xs.length ≤ kk := h1
 replace h2 : ys.length ≤ kk := h2
 refine calm_enter (C := cxOf Tryz.prog w _) (args := [_]) Tryz.func62 rfl Tryz.ntmps62 (Nat.le_of_ble_eq_true rfl) ?_
 (repeat first|refine wN ?_|refine wP rfl ?_|refine cx_r rfl ?_|refine cx_d rfl ?_|refine wO rfl rfl ?_)
 by_cases a1 : y < 0
 ·refine VO.fix 6 rfl (congrArg (fun b => AV.val (.bool b)) (decide_eq_true a1)) ?_
  (repeat first|refine wN ?_|refine wP rfl ?_|refine cx_r rfl ?_|refine cx_d rfl ?_|refine wO rfl rfl ?_)
  refine VS.ret (cx_ok _ _) rfl rfl (fun wz kz bz => ?_)
  exact ⟨by rw [← hc, decide_eq_true a1]; rfl, bz⟩
 refine VO.fix 6 rfl (congrArg (fun b => AV.val (.bool b)) (decide_eq_false a1)) ?_
 (repeat first|refine wN ?_|refine wP rfl ?_|refine cx_r rfl ?_|refine cx_d rfl ?_|refine wO rfl rfl ?_)
 by_cases a2 : y > 9999
 ·refine VO.fix 11 rfl (congrArg (fun b => AV.val (.bool b)) (decide_eq_true a2)) ?_
  (repeat first|refine wN ?_|refine wP rfl ?_|refine cx_r rfl ?_|refine cx_d rfl ?_|refine wO rfl rfl ?_)
  refine VS.ret (cx_ok _ _) rfl rfl (fun wz kz bz => ?_)
  exact ⟨by rw [← hc, decide_eq_true a2, Bool.true_or, Bool.or_true]; rfl, bz⟩
 refine VO.fix 11 rfl (congrArg (fun b => AV.val (.bool b)) (decide_eq_false a2)) ?_
 (repeat first|refine wN ?_|refine wP rfl ?_|refine cx_r rfl ?_|refine cx_d rfl ?_|refine wO rfl rfl ?_)
 by_cases a3 : n < 1
 ·refine VO.fix 16 rfl (congrArg (fun b => AV.val (.bool b)) (decide_eq_true a3)) ?_
  (repeat first|refine wN ?_|refine wP rfl ?_|refine cx_r rfl ?_|refine cx_d rfl ?_|refine wO rfl rfl ?_)
  refine VS.ret (cx_ok _ _) rfl rfl (fun wz kz bz => ?_)
  exact ⟨by rw [← hc, decide_eq_true a3]; simp [tup], bz⟩
 refine VO.fix 16 rfl (congrArg (fun b => AV.val (.bool b)) (decide_eq_false a3)) ?_
 (repeat first|refine wN ?_|refine wP rfl ?_|refine cx_r rfl ?_|refine cx_d rfl ?_|refine wO rfl rfl ?_)
 by_cases a4 : n > 40
 ·refine VO.fix 21 rfl (congrArg (fun b => AV.val (.bool b)) (decide_eq_true a4)) ?_
  (repeat first|refine wN ?_|refine wP rfl ?_|refine cx_r rfl ?_|refine cx_d rfl ?_|refine wO rfl rfl ?_)
  refine VS.ret (cx_ok _ _) rfl rfl (fun wz kz bz => ?_)
  exact ⟨by rw [← hc, decide_eq_true a4]; simp [tup], bz⟩
 refine VO.fix 21 rfl (congrArg (fun b => AV.val (.bool b)) (decide_eq_false a4)) ?_
 (repeat first|refine wN ?_|refine wP rfl ?_|refine cx_r rfl ?_|refine cx_d rfl ?_|refine wO rfl rfl ?_)
 refine VO.call rfl rfl (fk Tryz.func25) (fun wa1 ka1 ba1 => (ratRight_any s t xs ys _ wa1 (hq.k) (by omega) (by omega)).mono ?_)
 rintro e w1 ⟨rfl, hb1⟩
 rw [decide_eq_false a1, decide_eq_false a2, decide_eq_false a3, decide_eq_false a4] at hc
 cases hr : rtB s xs t ys with
 | true =>
  rw [hr] at hc
  refine ⟨_, rfl, hb1, fun kb1 _ bb1 => wV rfl ?_⟩
  (repeat first|refine wN ?_|refine wP rfl ?_|refine cx_r rfl ?_|refine cx_d rfl ?_|refine wO rfl rfl ?_)
  refine VS.ret (cx_ok _ _) rfl rfl (fun wz kz bz => ?_)
  exact ⟨by rw [← hc]; rfl, bz⟩
 | false =>
  rw [hr] at hc
  refine ⟨_, rfl, hb1, fun kb1 _ bb1 => wV rfl ?_⟩
  (repeat first|refine wN ?_|refine wP rfl ?_|refine cx_r rfl ?_|refine cx_d rfl ?_|refine wO rfl rfl ?_)
  refine VS.ret (cx_ok _ _) rfl rfl (fun wz kz bz => ?_)
  exact ⟨by rw [← hc]; rfl, bz⟩
theorem exp_right {e : RExp} (h : ewrong e.exp = false) : 0 ≤ e.1 ∧ e.1 ≤ 9999 ∧ 1 ≤ e.2.1 ∧ e.2.1 ≤ 40 := by
 obtain ⟨a, b, c, d, _⟩ := ewrong_no h
 exact ⟨a, b, c, d⟩
theorem tparts_any (v : Value) (e : RExp) (kk : Nat) (z : Int) (w : World) (hv : ExpV kk w v e) (hw : ewrong e.exp = false) (hz : i64b z) :
  Calls Tryz.prog 71 #[v, .int .i64 z] w fun o w' => o = .returned (.int .i64 (ecount e.exp z)) ∧ Beh w w' := by
 obtain ⟨g1, g2, g3, g4⟩ := exp_right hw
 obtain ⟨cs, rfl, p, cp, r, d, rfl, hy, hn, hq, h1, h2⟩ := hv
 obtain ⟨y, n, s, xs, t, ys⟩ := e
 replace g1 : 0 ≤ y := g1
 replace g2 : y ≤ 9999 := g2
 replace g3 : 1 ≤ n := g3
 replace g4 : n ≤ 40 := g4
 obtain ⟨z1, z2⟩ := hz
 have hec : ecount (RExp.exp (y, n, s, xs, t, ys)) z = if z ≤ y then 0 else if z ≥ y + n then n else z - y := rfl
 rw [hec]
 refine calm_enter (C := cxOf Tryz.prog w _) (args := [_, _]) Tryz.func71 rfl Tryz.ntmps71 (Nat.le_of_ble_eq_true rfl) ?_
 (repeat first|refine wN ?_|refine wP rfl ?_|refine cx_r rfl ?_|refine cx_d rfl ?_|refine wO rfl rfl ?_)
 by_cases a1 : z ≤ y
 ·refine VS.condY rfl (decide_eq_true a1) ?_
  (repeat first|refine wN ?_|refine wP rfl ?_|refine cx_r rfl ?_|refine cx_d rfl ?_|refine wO rfl rfl ?_)
  refine VS.ret (cx_ok _ _) rfl rfl (fun wz kz bz => ?_)
  exact ⟨by rw [if_pos a1]; rfl, bz⟩
 refine VS.condN rfl (decide_eq_false a1) ?_
 (repeat first|refine wN ?_|refine wP rfl ?_|refine cx_r rfl ?_|refine cx_d rfl ?_|refine wO rfl rfl ?_)
 have e1 : IntKind.i64.wrap (y + n) = y + n := IntWalk.i64_in _ (by omega)
 by_cases a2 : z ≥ y + n
 ·refine VS.condY rfl (decide_eq_true (by rw [e1]; exact a2)) ?_
  (repeat first|refine wN ?_|refine wP rfl ?_|refine cx_r rfl ?_|refine cx_d rfl ?_|refine wO rfl rfl ?_)
  refine VS.ret (cx_ok _ _) rfl rfl (fun wz kz bz => ?_)
  exact ⟨by rw [if_neg a1, if_pos a2]; rfl, bz⟩
 ·refine VS.condN rfl (decide_eq_false (by rw [e1]; exact a2)) ?_
  (repeat first|refine wN ?_|refine wP rfl ?_|refine cx_r rfl ?_|refine cx_d rfl ?_|refine wO rfl rfl ?_)
  refine VS.ret (cx_ok _ _) rfl rfl (fun wz kz bz => ?_)
  exact ⟨by rw [if_neg a1, if_neg a2, IntWalk.i64_in (z - y) (by omega)]; rfl, bz⟩
theorem exp_sz (e : RExp) : (RExp.exp e).2.2.2 = rq e.2.2.1 e.2.2.2.1 e.2.2.2.2.1 e.2.2.2.2.2 := rfl
theorem tof_any (v : Value) (e : RExp) (kk : Nat) (k : Int) (w : World) (hv : ExpV kk w v e) (hw : ewrong e.exp = false) (hk : kk ≤ 1048576) (k0 : 0 ≤ k) (k1 : k ≤ 40) :
  Calls Tryz.prog 63 #[v, .int .i64 k] w fun o w' => ∃ x, o = .returned x ∧ RatOwn w' w.heap.size x (e.exp.2.2.2 * Rat.divInt k e.2.1) ∧ Beh w w' := by
 obtain ⟨g1, g2, g3, g4⟩ := exp_right hw
 obtain ⟨cs, rfl, p, cp, r, d, rfl, hy, hn, hq, h1, h2⟩ := hv
 obtain ⟨y, n, s, xs, t, ys⟩ := e
 replace g3 : 1 ≤ n := g3
 replace g4 : n ≤ 40 := g4
 replace hq : RatRaw w (.agg #[.bool s, .slice p xs.length cp, .bool t, .slice r ys.length d]) s xs t ys := hq
 replace h1 : xs.length ≤ kk := h1
 replace h2 : ys.length ≤ kk := h2
 have hin := hq.in h1 h2
 refine calm_enter (C := cxOf Tryz.prog w _) (args := [_, _]) Tryz.func63 rfl Tryz.ntmps63 (Nat.le_of_ble_eq_true rfl) ?_
 (repeat first|refine wN ?_|refine wP rfl ?_|refine cx_r rfl ?_|refine cx_d rfl ?_|refine wO rfl rfl ?_)
 refine VO.call rfl rfl (fk Tryz.func109) (fun wa1 ka1 ba1 => (ratOf_ok k n wa1 (by omega) (by omega) (by omega) (by omega) 0 (dcode_ne (by omega))).mono ?_)
 rintro e w1 ⟨r1, rfl, q1, hb1⟩
 obtain ⟨s1, p1, n1, c1, t1, y1, m1, d1, rfl⟩ := q1.form
 refine ⟨_, rfl, hb1, fun kb1 _ bb1 => wV rfl ?_⟩
 (repeat first|refine wN ?_|refine wP rfl ?_|refine cx_r rfl ?_|refine cx_d rfl ?_|refine wO rfl rfl ?_)
 refine VO.call rfl rfl (fk Tryz.func110) (fun wa2 ka2 ba2 => (ratMul_any _ _ (rq s xs t ys) (Rat.divInt k n) kk 1 wa2 (hin.k) (q1.ki (RSz.of (by omega) (by omega))) (by omega) (by omega)).mono ?_)
 rintro e w2 ⟨r2, rfl, q2, hb2⟩
 obtain ⟨s2, p2, n2, c2, t2, y2, m2, d2, rfl⟩ := q2.form
 refine ⟨_, rfl, hb2, fun kb2 _ bb2 => wV rfl ?_⟩
 (repeat first|refine wN ?_|refine wP rfl ?_|refine cx_r rfl ?_|refine cx_d rfl ?_|refine wO rfl rfl ?_)
 refine VS.ret (cx_ok _ _) rfl rfl (fun wz kz bz => ?_)
 exact ⟨_, rfl, (q2.kp kz).mono ba2.size, bz⟩
set_option maxHeartbeats 1000000 in
theorem tPart_any (v : Value) (e : RExp) (kk : Nat) (z : Int) (w : World) (hv : ExpV kk w v e) (hk : kk ≤ 1048576) (hz : i64b z) :
  Calls Tryz.prog 18 #[v, .int .i64 z] w fun o w' => ∃ x, o = .returned x ∧ RatOwn w' w.heap.size x (epart e.exp z) ∧ Beh w w' := by
 have hv0 := hv
 obtain ⟨cs, rfl, p, cp, r, d, rfl, hy, hn, hq, h1, h2⟩ := hv
 obtain ⟨z1, z2⟩ := hz
 obtain ⟨C, hC⟩ : ∃ C, C = epart e.exp z := ⟨_, rfl⟩
 rw [← hC]
 unfold epart at hC
 refine calm_enter (C := cxOf Tryz.prog w _) (args := [_, _]) Tryz.func18 rfl Tryz.ntmps18 (Nat.le_of_ble_eq_true rfl) ?_
 (repeat first|refine wN ?_|refine wP rfl ?_|refine cx_r rfl ?_|refine cx_d rfl ?_|refine wO rfl rfl ?_)
 cases hw : ewrong e.exp with
 | true =>
  rw [hw, if_pos (.inl rfl)] at hC
  subst hC
  refine VO.call rfl rfl (fk Tryz.func62) (fun wa1 ka1 ba1 => (twrong_any _ e kk wa1 (hv0.k) (by omega) 2 (by rw [hw]; rfl)).mono ?_)
  rintro e w1 ⟨rfl, hb1⟩
  skip
  refine ⟨_, rfl, hb1, fun kb1 _ bb1 => wV rfl ?_⟩
  (repeat first|refine wN ?_|refine wP rfl ?_|refine cx_r rfl ?_|refine cx_d rfl ?_|refine wO rfl rfl ?_)
  refine VO.call rfl rfl (fk Tryz.func17) (fun wa2 ka2 ba2 => (ratWhole_any 0 wa2 (by omega) (by omega)).mono ?_)
  rintro e w2 ⟨r2, rfl, q2, hb2⟩
  obtain ⟨s2, p2, n2, c2, t2, y2, m2, d2, rfl⟩ := q2.form
  refine ⟨_, rfl, hb2, fun kb2 _ bb2 => wV rfl ?_⟩
  (repeat first|refine wN ?_|refine wP rfl ?_|refine cx_r rfl ?_|refine cx_d rfl ?_|refine wO rfl rfl ?_)
  refine VS.ret (cx_ok _ _) rfl rfl (fun wz kz bz => ?_)
  exact ⟨_, rfl, (q2.kp kz).mono ba2.size, bz⟩
 | false =>
  obtain ⟨g1, g2, g3, g4⟩ := exp_right hw
  have e1 : IntKind.i64.wrap (e.1 + e.2.1) = e.1 + e.2.1 := IntWalk.i64_in _ (by omega)
  rw [hw] at hC
  refine VO.call rfl rfl (fk Tryz.func62) (fun wa1 ka1 ba1 => (twrong_any _ e kk wa1 (hv0.k) (by omega) 0 (by rw [hw]; rfl)).mono ?_)
  rintro e w1 ⟨rfl, hb1⟩
  skip
  refine ⟨_, rfl, hb1, fun kb1 _ bb1 => wV rfl ?_⟩
  (repeat first|refine wN ?_|refine wP rfl ?_|refine cx_r rfl ?_|refine cx_d rfl ?_|refine wO rfl rfl ?_)
  by_cases a1 : z ≤ e.1
  ·rw [if_pos (.inr (.inl a1))] at hC
   subst hC
   refine VO.fix 14 rfl (congrArg (fun b => AV.val (.bool b)) (decide_eq_true a1)) ?_
   (repeat first|refine wN ?_|refine wP rfl ?_|refine cx_r rfl ?_|refine cx_d rfl ?_|refine wO rfl rfl ?_)
   refine VO.call rfl rfl (fk Tryz.func17) (fun wa2 ka2 ba2 => (ratWhole_any 0 wa2 (by omega) (by omega)).mono ?_)
   rintro e w2 ⟨r2, rfl, q2, hb2⟩
   obtain ⟨s2, p2, n2, c2, t2, y2, m2, d2, rfl⟩ := q2.form
   refine ⟨_, rfl, hb2, fun kb2 _ bb2 => wV rfl ?_⟩
   (repeat first|refine wN ?_|refine wP rfl ?_|refine cx_r rfl ?_|refine cx_d rfl ?_|refine wO rfl rfl ?_)
   refine VS.ret (cx_ok _ _) rfl rfl (fun wz kz bz => ?_)
   exact ⟨_, rfl, (q2.kp kz).mono ba2.size, bz⟩
  refine VO.fix 14 rfl (congrArg (fun b => AV.val (.bool b)) (decide_eq_false a1)) ?_
  (repeat first|refine wN ?_|refine wP rfl ?_|refine cx_r rfl ?_|refine cx_d rfl ?_|refine wO rfl rfl ?_)
  by_cases a2 : z > e.1 + e.2.1
  ·rw [if_pos (.inr (.inr a2))] at hC
   subst hC
   refine VS.condY rfl (decide_eq_true (show z > IntKind.i64.wrap (e.1 + e.2.1) by rw [e1]; exact a2)) ?_
   (repeat first|refine wN ?_|refine wP rfl ?_|refine cx_r rfl ?_|refine cx_d rfl ?_|refine wO rfl rfl ?_)
   refine VO.call rfl rfl (fk Tryz.func17) (fun wa2 ka2 ba2 => (ratWhole_any 0 wa2 (by omega) (by omega)).mono ?_)
   rintro e w2 ⟨r2, rfl, q2, hb2⟩
   obtain ⟨s2, p2, n2, c2, t2, y2, m2, d2, rfl⟩ := q2.form
   refine ⟨_, rfl, hb2, fun kb2 _ bb2 => wV rfl ?_⟩
   (repeat first|refine wN ?_|refine wP rfl ?_|refine cx_r rfl ?_|refine cx_d rfl ?_|refine wO rfl rfl ?_)
   refine VS.ret (cx_ok _ _) rfl rfl (fun wz kz bz => ?_)
   exact ⟨_, rfl, (q2.kp kz).mono ba2.size, bz⟩
  ·rw [if_neg (by rintro (h | h | h); exact Bool.noConfusion h; exact a1 h; exact a2 h)] at hC
   subst hC
   refine VS.condN rfl (decide_eq_false (show ¬ z > IntKind.i64.wrap (e.1 + e.2.1) by rw [e1]; exact a2)) ?_
   (repeat first|refine wN ?_|refine wP rfl ?_|refine cx_r rfl ?_|refine cx_d rfl ?_|refine wO rfl rfl ?_)
   refine VO.call rfl rfl (fk Tryz.func63) (fun wa2 ka2 ba2 => (tof_any _ e kk 1 wa2 (hv0.k) hw hk (by omega) (by omega)).mono ?_)
   rintro e w2 ⟨r2, rfl, q2, hb2⟩
   obtain ⟨s2, p2, n2, c2, t2, y2, m2, d2, rfl⟩ := q2.form
   refine ⟨_, rfl, hb2, fun kb2 _ bb2 => wV rfl ?_⟩
   (repeat first|refine wN ?_|refine wP rfl ?_|refine cx_r rfl ?_|refine cx_d rfl ?_|refine wO rfl rfl ?_)
   refine VS.ret (cx_ok _ _) rfl rfl (fun wz kz bz => ?_)
   exact ⟨_, rfl, (q2.kp kz).mono ba2.size, bz⟩
end Go.Proofs.YtohlmpibnnkanaaGreat
/- More of rows of elements: reading and writing a part of an element; fractions that are right stand as their number does. No function of the program in sight. -/
namespace Go.Proofs.YtohlmpibnnkanaaGreat
open Go.RowKit

theorem rt_canon {s t : Bool} {xs ys : List Nat} (h : rtB s xs t ys = true) (lx : Lim xs) (ly : Lim ys) :
  decide ((rq s xs t ys).num < 0) = s ∧ limbs (rq s xs t ys).num.natAbs = xs ∧ decide (((rq s xs t ys).den : Int) < 0) = t ∧ limbs ((rq s xs t ys).den : Int).natAbs = ys := by
 obtain ⟨h1, h2, h3, h4⟩ := rtB_inv h
 obtain ⟨e1, e2⟩ := ratv_right ⟨h3, h4⟩
 unfold rq
 rw [e1, e2]
 unfold numOf
 rw [if_pos h1, if_pos h2]
 obtain ⟨c1, c2⟩ := canon lx h1
 obtain ⟨c3, c4⟩ := canon ly h2
 exact ⟨c1.symm, c2.symm, c3.symm, c4.symm⟩
theorem split_at {α : Type} {vs : List α} {i : Nat} {x : α} (h : vs[i]? = some x) : vs = vs.take i ++ x :: vs.drop (i + 1) ∧ (vs.take i).length = i := by
 obtain ⟨hi, rfl⟩ := List.getElem?_eq_some_iff.1 h
 refine ⟨?_, by rw [List.length_take]; omega⟩
 rw [← List.drop_eq_getElem_cons hi, List.take_append_drop]
theorem flat_len {α : Type} : ∀ (vs : List (List α)) (sz : Nat), (∀ v ∈ vs, v.length = sz) → vs.flatten.length = vs.length * sz
 | [], _, _ => by simp
 | x :: r, sz, h => by
  rw [List.flatten_cons, List.length_append, flat_len r sz (fun v hv => h v (by simp [hv])), h x (by simp), List.length_cons, Nat.add_mul]; omega
theorem poke_mid {α : Type} (A C B N : List α) (o off : Nat) (ho : o + N.length ≤ C.length) (e : off = A.length + o) :
  (A ++ (C ++ B)).take off ++ (N ++ (A ++ (C ++ B)).drop (off + N.length)) = A ++ ((C.take o ++ (N ++ C.drop (o + N.length))) ++ B) := by
 subst e
 rw [List.take_append, List.drop_append, List.take_of_length_le (by omega), List.drop_of_length_le (by omega), List.nil_append, show A.length + o - A.length = o by omega, show A.length + o + N.length - A.length = o + N.length by omega,
  List.take_append_of_le_length (by omega), List.drop_append_of_le_length (by omega)]
 simp only [List.append_assoc]
theorem flat_poke {vs : List (List Value)} {sz : Nat} (hl : ∀ v ∈ vs, v.length = sz) {i : Nat} {cs : List Value} (hv : vs[i]? = some cs) (o : Nat) (new : List Value) (ho : o + new.length ≤ sz) (spare : List AV) (off : Nat) (e : off = i * sz + o) (m : Nat) (hm : m = new.length) :
  (vs.flatten.map AV.val ++ spare).take off ++ (new.map AV.val ++ (vs.flatten.map AV.val ++ spare).drop (off + m)) = (vs.set i (cs.take o ++ (new ++ cs.drop (o + new.length)))).flatten.map AV.val ++ spare := by
 subst hm
 obtain ⟨h1, h2⟩ := split_at hv
 have hc := hl cs (List.mem_of_getElem? hv)
 have hA : ((vs.take i).flatten.map AV.val).length = i * sz := by
  rw [List.length_map, flat_len _ sz (fun v hv => hl v (List.mem_of_mem_take hv)), h2]
 have hset : vs.set i (cs.take o ++ (new ++ cs.drop (o + new.length))) = vs.take i ++ (cs.take o ++ (new ++ cs.drop (o + new.length))) :: vs.drop (i + 1) := by
  rw [List.set_eq_take_append_cons_drop, if_pos (List.getElem?_eq_some_iff.1 hv).1]
 have key := poke_mid ((vs.take i).flatten.map AV.val) (cs.map AV.val) ((vs.drop (i + 1)).flatten.map AV.val ++ spare) (new.map AV.val) o off (by simpa [hc] using ho) (by rw [hA]; exact e)
 have hfl : vs.flatten.map AV.val ++ spare = (vs.take i).flatten.map AV.val ++ (cs.map AV.val ++ ((vs.drop (i + 1)).flatten.map AV.val ++ spare)) := by
  conv => lhs; rw [h1]
  simp only [List.flatten_append, List.flatten_cons, List.map_append, List.append_assoc]
 rw [hfl, hset]
 rw [List.length_map] at key
 rw [key]
 simp only [List.flatten_append, List.flatten_cons, List.map_append, List.append_assoc, List.map_take, List.map_drop]
section
variable {α : Type} {E : World → List Value → α → Prop} {sz : Nat} {w w' : World} {es : List α} {vs : List (List Value)}
theorem flat_peek' (hl : ∀ v ∈ vs, v.length = sz) (spare : List AV) {i : Nat} {cs : List Value} (hv : vs[i]? = some cs) (o : Nat) (ds : List Value) (hd : ds <+: cs.drop o) (off : Nat) (e : off = i * sz + o) : ∀ (j : Nat) (u : AV), (ds.map AV.val)[j]? = some u → (vs.flatten.map AV.val ++ spare)[off + j]? = some u := by
 intro j u hj
 obtain ⟨h1, h2⟩ := split_at hv
 obtain ⟨t, ht⟩ := hd
 have hA : (vs.take i).flatten.length = i * sz := by rw [flat_len _ sz (fun v hv => hl v (List.mem_of_mem_take hv)), h2]
 rw [List.getElem?_map] at hj
 obtain ⟨x, hx, rfl⟩ := Option.map_eq_some_iff.1 hj
 have hx' : cs[o + j]? = some x := by
  rw [← List.getElem?_drop, ← ht, List.getElem?_append_left (List.getElem?_eq_some_iff.1 hx).1]; exact hx
 have hlt := (List.getElem?_eq_some_iff.1 hx').1
 have hfl : vs.flatten[off + j]? = some x := by
  conv => lhs; rw [h1]
  rw [List.flatten_append, List.flatten_cons, List.getElem?_append_right (by omega), hA, List.getElem?_append_left (by omega), show off + j - i * sz = o + j by omega]
  exact hx'
 rw [List.getElem?_append_left (by rw [List.length_map]; exact (List.getElem?_eq_some_iff.1 hfl).1), List.getElem?_map, hfl]
 rfl
theorem RowE.mono {E' : World → List Value → α → Prop} (h : RowE E w es vs) (hm : ∀ cs a, E w cs a → E' w cs a) : RowE E' w es vs := by
 induction h with
 | nil => exact .nil
 | cons h1 _ ih => exact .cons (hm _ _ h1) ih
theorem RowE.take (h : RowE E w es vs) : ∀ n, RowE E w (es.take n) (vs.take n) := by
 induction h with
 | nil => intro n; rw [List.take_nil, List.take_nil]; exact .nil
 | cons h1 _ ih =>
  intro n
  cases n with
  | zero => exact .nil
  | succ n => exact .cons h1 (ih n)
theorem RowE.set (h : RowE E w es vs) : ∀ {i : Nat} {a : α} {cs : List Value}, es[i]? = some a → E w cs a → RowE E w es (vs.set i cs) := by
 induction h with
 | nil => intro i a cs hi _; simp at hi
 | cons h1 h2 ih =>
  intro i a cs hi he
  cases i with
  | zero => cases hi; exact .cons he h2
  | succ i => exact .cons h1 (ih (by simpa using hi) he)
end
end Go.Proofs.YtohlmpibnnkanaaGreat
/- What is due, and the balance: a sum over all expenses of a ledger. -/
namespace Go.Proofs.YtohlmpibnnkanaaGreat
open Go.RowKit
attribute [local irreducible] vcOps VS

theorem read_at {w : World} {b o : Nat} {u : Value} (h : w.cell? ⟨b, o, none⟩ = some u) : ∀ j x, [u][j]? = some x → w.cell? ((⟨b, o, none⟩ : Addr).add j) = some x := by
 intro j x hj
 cases j with
 | zero => cases hj; rw [Addr.add_mid, Nat.add_zero]; exact h
 | succ j => simp at hj
theorem tdue1_any (v : Value) (b : Nat) (e : RExp) (kk : Nat) (z : Int) (w : World) (hv : ExpV kk w v e) (hc : w.cell? ⟨b, 0, none⟩ = some (.int .i64 z)) (hk : kk ≤ 1048576) (hz : i64b z) :
  Calls Tryz.prog 73 #[v, .pointer (some ⟨b, 0, none⟩)] w fun o w' => ∃ x, o = .returned x ∧ RatOwn w' w.heap.size x (epart e.exp z) ∧ Beh w w' := by
 have hv0 := hv
 obtain ⟨cs, rfl, p, cp, r, d, rfl, hy, hn, hq, h1, h2⟩ := hv
 refine calm_enter (C := cxOf Tryz.prog w _) (args := [_, _]) Tryz.func73 rfl Tryz.ntmps73 (Nat.le_of_ble_eq_true rfl) ?_
 (repeat first|refine wN ?_|refine wP rfl ?_|refine cx_r rfl ?_|refine cx_d rfl ?_|refine wO rfl rfl ?_)
 refine VO.read rfl [.int .i64 z] rfl (read_at hc) (wV rfl ?_)
 refine VO.call rfl rfl (fk Tryz.func18) (fun wa1 ka1 ba1 => (tPart_any _ e kk z wa1 (hv0.k) hk hz).mono ?_)
 rintro e w1 ⟨r1, rfl, q1, hb1⟩
 obtain ⟨s1, p1, n1, c1, t1, y1, m1, d1, rfl⟩ := q1.form
 refine ⟨_, rfl, hb1, fun kb1 _ bb1 => wV rfl ?_⟩
 (repeat first|refine wN ?_|refine wP rfl ?_|refine cx_r rfl ?_|refine cx_d rfl ?_|refine wO rfl rfl ?_)
 refine VS.ret (cx_ok _ _) rfl rfl (fun wz kz bz => ?_)
 exact ⟨_, rfl, (q1.kp kz).mono ba1.size, bz⟩
theorem ecount_le {e : Exp} (h : ewrong e = false) (z : Int) : 0 ≤ ecount e z ∧ ecount e z ≤ e.2.1 := by
 obtain ⟨h0, h1, h2, h3, _⟩ := ewrong_no h
 unfold ecount
 split
 ·omega
 ·split <;> omega
set_option maxHeartbeats 1000000 in
theorem tbal1_any (v : Value) (b : Nat) (e : RExp) (kk : Nat) (z : Int) (w : World) (hv : ExpV kk w v e) (hw : ewrong e.exp = false) (hc : w.cell? ⟨b, 0, none⟩ = some (.int .i64 z)) (hk : kk ≤ 1048576) (hz : i64b z) :
  Calls Tryz.prog 70 #[v, .pointer (some ⟨b, 0, none⟩)] w fun o w' => ∃ x, o = .returned x ∧ RatOwn w' w.heap.size x (ebal e.exp z) ∧ Beh w w' := by
 have hv0 := hv
 obtain ⟨g1, g2, g3, g4⟩ := exp_right hw
 obtain ⟨k1, k2⟩ := ecount_le hw z
 obtain ⟨N, hN⟩ : ∃ N, N = ecount e.exp z := ⟨_, rfl⟩
 have hN2 : N ≤ e.2.1 := by rw [hN]; exact k2
 have e1 : IntKind.i64.wrap (e.2.1 - N) = e.2.1 - N := IntWalk.i64_in _ (by omega)
 have hb : ebal e.exp z = if e.1 > z then 0 else e.exp.2.2.2 * Rat.divInt (e.2.1 - N) e.2.1 := by rw [hN]; rfl
 obtain ⟨Q, hQ⟩ : ∃ Q, Q = ebal e.exp z := ⟨_, rfl⟩
 rw [← hQ] at hb ⊢
 obtain ⟨cs, rfl, p, cp, r, d, rfl, hy, hn, hq, h1, h2⟩ := hv
 refine calm_enter (C := cxOf Tryz.prog w _) (args := [_, _]) Tryz.func70 rfl Tryz.ntmps70 (Nat.le_of_ble_eq_true rfl) ?_
 (repeat first|refine wN ?_|refine wP rfl ?_|refine cx_r rfl ?_|refine cx_d rfl ?_|refine wO rfl rfl ?_)
 refine VO.read rfl [.int .i64 z] rfl (read_at hc) (wV rfl ?_)
 (repeat first|refine wN ?_|refine wP rfl ?_|refine cx_r rfl ?_|refine cx_d rfl ?_|refine wO rfl rfl ?_)
 by_cases a1 : e.1 > z
 ·rw [if_pos a1] at hb
  subst hb
  refine VS.condY rfl (decide_eq_true a1) ?_
  (repeat first|refine wN ?_|refine wP rfl ?_|refine cx_r rfl ?_|refine cx_d rfl ?_|refine wO rfl rfl ?_)
  refine VO.call rfl rfl (fk Tryz.func17) (fun wa1 ka1 ba1 => (ratWhole_any 0 wa1 (by omega) (by omega)).mono ?_)
  rintro e w1 ⟨r1, rfl, q1, hb1⟩
  obtain ⟨s1, p1, n1, c1, t1, y1, m1, d1, rfl⟩ := q1.form
  refine ⟨_, rfl, hb1, fun kb1 _ bb1 => wV rfl ?_⟩
  (repeat first|refine wN ?_|refine wP rfl ?_|refine cx_r rfl ?_|refine cx_d rfl ?_|refine wO rfl rfl ?_)
  refine VS.ret (cx_ok _ _) rfl rfl (fun wz kz bz => ?_)
  exact ⟨_, rfl, (q1.kp kz).mono ba1.size, bz⟩
 ·rw [if_neg a1] at hb
  subst hb
  refine VS.condN rfl (decide_eq_false a1) ?_
  (repeat first|refine wN ?_|refine wP rfl ?_|refine cx_r rfl ?_|refine cx_d rfl ?_|refine wO rfl rfl ?_)
  refine VO.read rfl [.int .i64 z] rfl (read_at hc) (wV rfl ?_)
  refine VO.call rfl rfl (fk Tryz.func71) (fun wa1 ka1 ba1 => (tparts_any _ e kk z wa1 (hv0.k) hw hz).mono ?_)
  rintro e w1 ⟨rfl, hb1⟩
  skip
  refine ⟨_, rfl, hb1, fun kb1 _ bb1 => wV rfl ?_⟩
  (repeat first|refine wN ?_|refine wP rfl ?_|refine cx_r rfl ?_|refine cx_d rfl ?_|refine wO rfl rfl ?_)
  rw [← hN, e1]
  refine VO.call rfl rfl (fk Tryz.func63) (fun wa2 ka2 ba2 => (tof_any _ e kk (e.2.1 - N) wa2 (hv0.k) hw hk (by omega) (by omega)).mono ?_)
  rintro e w2 ⟨r2, rfl, q2, hb2⟩
  obtain ⟨s2, p2, n2, c2, t2, y2, m2, d2, rfl⟩ := q2.form
  refine ⟨_, rfl, hb2, fun kb2 _ bb2 => wV rfl ?_⟩
  (repeat first|refine wN ?_|refine wP rfl ?_|refine cx_r rfl ?_|refine cx_d rfl ?_|refine wO rfl rfl ?_)
  refine VS.ret (cx_ok _ _) rfl rfl (fun wz kz bz => ?_)
  exact ⟨_, rfl, (q2.kp kz).mono ba2.size, bz⟩
def LedIn (kk : Nat) (w : World) (g : Nat) (l : List RExp) : Prop := ∃ u, w.cell? ⟨g, 0, none⟩ = some u ∧ SlIn (ExpE kk) 6 w u l
theorem LedIn.beh {kk : Nat} {w w' : World} {g : Nat} {l : List RExp} (h : LedIn kk w g l) (hb : Beh w w') : LedIn kk w' g l := by
 obtain ⟨u, h1, h2⟩ := h
 exact ⟨u, hb.cell h1, h2.beh (exp_ok kk) hb⟩
def EachOk (kk K : Nat) (w : World) (fid : FuncId) (cap : Value) (f : RExp → Rat) (l : List RExp) : Prop :=
 FnOk Tryz.prog fid ∧ (∀ e ∈ l, RSz (f e) K) ∧ ∀ (w1 : World) (u : Value) (e : RExp), Beh w w1 → e ∈ l → ExpV kk w1 u e → Calls Tryz.prog fid #[u, cap] w1 fun o w2 => ∃ x, o = .returned x ∧ RatOwn w2 w1.heap.size x (f e) ∧ Beh w1 w2
set_option maxHeartbeats 1000000 in
theorem tsum_any (g : Nat) (fid : FuncId) (cap : Value) (f : RExp → Rat) (l : List RExp) (kk K : Nat) (w : World) (hl : LedIn kk w g l) (hf : EachOk kk K w fid cap f l) (hK : stepSz K l.length ≤ 1048576) :
  Calls Tryz.prog 69 #[.pointer (some ⟨g, 0, none⟩), .func (.func fid) #[] #[cap]] w fun o w' => ∃ x, o = .returned x ∧ RatOwn w' w.heap.size x (rsum (l.map f)) ∧ RSz (rsum (l.map f)) (stepSz K l.length) ∧ Beh w w' := by
 obtain ⟨hfn, hfs, hfc⟩ := hf
 obtain ⟨u, hu, hsl⟩ := hl
 obtain ⟨p, c, rfl, hnc, hcm⟩ := hsl.form
 obtain ⟨N, hN⟩ : ∃ N, N = l.length := ⟨_, rfl⟩
 rw [← hN] at hsl hK hnc ⊢
 rw [← hN] at hu
 have hNm : N < 9223372036854775807 := by unfold stepSz at hK; have := Nat.le_mul_of_pos_right N (show 0 < up1 K + 1 by omega); omega
 refine calm_enter (C := cxOf Tryz.prog w _) (args := [_, _]) Tryz.func69 rfl Tryz.ntmps69 (Nat.le_of_ble_eq_true rfl) ?_
 (repeat first|refine wN ?_|refine wP rfl ?_|refine cx_r rfl ?_|refine cx_d rfl ?_|refine wO rfl rfl ?_)
 refine VO.call rfl rfl (fk Tryz.func17) (fun wa1 ka1 ba1 => (ratWhole_any 0 wa1 (by omega) (by omega)).mono ?_)
 rintro e w1 ⟨r1, rfl, q1, hb1⟩
 obtain ⟨s1, p1, n1, c1, t1, y1, m1, d1, rfl⟩ := q1.form
 refine ⟨_, rfl, hb1, fun kb1 _ bb1 => wV rfl ?_⟩
 (repeat first|refine wN ?_|refine wP rfl ?_|refine cx_r rfl ?_|refine cx_d rfl ?_|refine wO rfl rfl ?_)
 refine VO.read rfl [.slice p N c] rfl (read_at hu) (wV rfl ?_)
 (repeat first|refine wN ?_|refine wP rfl ?_|refine cx_r rfl ?_|refine cx_d rfl ?_|refine wO rfl rfl ?_)
 refine VS.loop (J := fun n L M w' => ∃ i s p' n' c' t r m d, i ≤ N ∧ n = N - i ∧ L = [(1, .val (.func (.func fid) #[] #[cap])), (12, .val (.slice p N c)), (13, .val (.int .i64 (N : Int))), (14, .val (.int .i64 (i : Int))), (5, .box 5 0), (4, .box 4 0)] ∧
  M = [(4, (33, ([.bool false, .slice none 0 0, .bool false, .slice none 0 0] : List Value).map .val)), (5, (33, ([.bool s, .slice p' n' c', .bool t, .slice r m d] : List Value).map .val))] ∧ RatOwn w' w.heap.size (.agg #[.bool s, .slice p' n' c', .bool t, .slice r m d]) (rsum ((l.map f).take i)) ∧ RSz (rsum ((l.map f).take i)) (stepSz K i)) N
  ⟨_, _, ?_, ?_, ?_, ?_, ⟨0, _, _, _, _, _, _, _, _, by omega, rfl, rfl, rfl, q1.k.mono ba1.size, RSz.zero.mono (by unfold stepSz; omega)⟩⟩ ?_
 ·(repeat first|exact trivial|refine ⟨rfl, ?_⟩)
 ·(repeat first|exact trivial|refine ⟨rfl, ?_⟩)
 ·rfl
 ·(repeat first|exact trivial|refine ⟨ClosedC.lit rfl, ?_⟩|refine ⟨ClosedC.vals _, ?_⟩)
 rintro n L M w' ⟨i, s, p', n', c', t, r, m, d, hi, rfl, rfl, rfl, ho, hz⟩
 (repeat first|refine wN ?_|refine wP rfl ?_|refine cx_r rfl ?_|refine cx_d rfl ?_|refine wO rfl rfl ?_)
 by_cases hlt : i < N
 ·obtain ⟨e, he⟩ : ∃ e, l[i]? = some e := ⟨_, List.getElem?_eq_getElem (by omega)⟩
  have hfe : (l.map f)[i]? = some (f e) := by rw [List.getElem?_map, he]; rfl
  obtain ⟨b, off, cs, rfl, hc, hE⟩ := hsl.at he
  have hE0 := hE
  obtain ⟨ep, ec, er, ed, rfl, -⟩ := hE
  refine VS.condY rfl (decide_eq_true (Int.ofNat_lt.2 hlt)) ?_
  (repeat first|refine wN ?_|refine wP rfl ?_|refine cx_r rfl ?_|refine cx_d rfl ?_|refine wO rfl rfl ?_)
  refine VO.cond rfl ⟨by omega, by omega⟩ (wV rfl ?_)
  refine VO.read rfl [.int .i64 e.1, .int .i64 e.2.1, .bool e.2.2.1, .slice ep e.2.2.2.1.length ec, .bool e.2.2.2.2.1, .slice er e.2.2.2.2.2.length ed] rfl (fun j u hj => by rw [Addr.add_mid, Int.toNat_natCast]; exact hc j u hj) (wV rfl ?_)
  (repeat first|refine wN ?_|refine wP rfl ?_|refine cx_r rfl ?_|refine cx_d rfl ?_|refine wO rfl rfl ?_)
  refine VO.call rfl rfl hfn (fun wa2 ka2 ba2 => (hfc wa2 _ e ba2 (List.mem_of_getElem? he) ⟨_, rfl, hE0.kp (Kp.of (U := UU) ba2)⟩).mono ?_)
  rintro o w2 ⟨r2, rfl, q2, hb2⟩
  obtain ⟨s2, p2, n2, c2, t2, y2, m2, d2, rfl⟩ := q2.form
  refine ⟨_, rfl, hb2, fun kb2 _ bb2 => wV rfl ?_⟩
  (repeat first|refine wN ?_|refine wP rfl ?_|refine cx_r rfl ?_|refine cx_d rfl ?_|refine wO rfl rfl ?_)
  have hfz := hfs e (List.mem_of_getElem? he)
  refine VO.call rfl rfl (fk Tryz.func19) (fun wa3 ka3 ba3 => (ratAdd_any _ _ (rsum ((l.map f).take i)) (f e) (stepSz K i) (up1 K) wa3 (ho.ki hz) (q2.ki (hfz.mono (by unfold up1; omega))) (by have := stepSz_le (k := K) hi; omega) (by unfold stepSz at hK; have := Nat.le_mul_of_pos_left (up1 K + 1) (show 0 < N by omega); omega)).mono ?_)
  rintro e w3 ⟨r3, rfl, q3, hb3⟩
  obtain ⟨s3, p3, n3, c3, t3, y3, m3, d3, rfl⟩ := q3.form
  refine ⟨_, rfl, hb3, fun kb3 _ bb3 => wV rfl ?_⟩
  (repeat first|refine wN ?_|refine wP rfl ?_|refine cx_r rfl ?_|refine cx_d rfl ?_|refine wO rfl rfl ?_)
  refine VS.back (N - (i + 1)) (by omega) ⟨_, _, ?_, ?_, ?_, ?_, ⟨i + 1, _, _, _, _, _, _, _, _, by omega, rfl, rfl, rfl, ((q3.k).mono ba3.size).cast (rsum_snoc hfe).symm, by rw [rsum_snoc hfe, stepSz_succ]; exact hz.add (hfz.mono (by unfold up1; omega))⟩⟩
  ·refine ⟨rfl, rfl, rfl, ?_, rfl, rfl, trivial⟩
   rw [← nat_step (i := i) (by omega)]; rfl
  ·(repeat first|exact trivial|refine ⟨rfl, ?_⟩)
  ·rfl
  ·(repeat first|exact trivial|refine ⟨ClosedC.lit rfl, ?_⟩|refine ⟨ClosedC.vals _, ?_⟩)
 ·refine VS.condN rfl (decide_eq_false (fun e => hlt (Int.ofNat_lt.1 e))) ?_
  (repeat first|refine wN ?_|refine wP rfl ?_|refine cx_r rfl ?_|refine cx_d rfl ?_|refine wO rfl rfl ?_)
  refine VS.ret (cx_ok _ _) rfl rfl (fun wz kz bz => ?_)
  obtain rfl : i = N := by omega
  rw [List.take_of_length_le (by rw [List.length_map]; omega)] at ho hz
  exact ⟨_, rfl, ho.kp kz, hz, bz⟩
end Go.Proofs.YtohlmpibnnkanaaGreat
/- What is due of a ledger, and its balance. -/
namespace Go.Proofs.YtohlmpibnnkanaaGreat
open Go.RowKit
attribute [local irreducible] vcOps VS

theorem ExpE.sz {kk : Nat} {w : World} {cs : List Value} {e : RExp} (h : ExpE kk w cs e) : RSz e.exp.2.2.2 (up1 kk) := by
 obtain ⟨p, c, r, d, -, -, -, h4, h5, h6⟩ := h
 exact (h4.in h5 h6).sz1
theorem epart_sz {e : Exp} {k : Nat} (h : RSz e.2.2.2 k) (z : Int) : RSz (epart e z) (k + 1) := by
 unfold epart
 split
 ·exact RSz.zero.mono (by omega)
 ·rename_i hn
  cases hw : ewrong e with
  | true => exact absurd (.inl hw) hn
  | false =>
   obtain ⟨a, b, c, d, _⟩ := ewrong_no hw
   exact h.mul (RSz.of (by omega) (by omega))
theorem ebal_sz {e : Exp} {k : Nat} (h : RSz e.2.2.2 k) (hw : ewrong e = false) (z : Int) : RSz (ebal e z) (k + 1) := by
 obtain ⟨a, b, c, d, _⟩ := ewrong_no hw
 obtain ⟨k1, k2⟩ := ecount_le hw z
 unfold ebal
 split
 ·exact RSz.zero.mono (by omega)
 ·exact h.mul (RSz.of (by omega) (by omega))
theorem SlIn.mem {α : Type} {E : World → List Value → α → Prop} {sz : Nat} {w : World} {v : Value} {l : List α} {a : α} (h : SlIn E sz w v l) (ha : a ∈ l) : ∃ cs, E w cs a := by
 obtain ⟨i, hi⟩ := List.getElem?_of_mem ha
 obtain ⟨p, c, rfl, _⟩ := h.form
 obtain ⟨b, off, cs, _, _, he⟩ := h.at hi
 exact ⟨cs, he⟩
theorem cls_cell {w : World} {b : Nat} {t : TypeId} {u : Value} (h : Cls w b t #[u]) : w.cell? ⟨b, 0, none⟩ = some u := h.cell (by rfl)
def edueR (l : List RExp) (z : Int) : Rat := rsum (l.map fun e => epart e.exp z)
def ebalR (l : List RExp) (z : Int) : Rat := rsum (l.map fun e => ebal e.exp z)
theorem tDue_any (g : Nat) (l : List RExp) (kk : Nat) (z : Int) (w : World) (hl : LedIn kk w g l) (hk : kk ≤ 1024) (hz : i64b z) (hn : l.length ≤ 64) :
  Calls Tryz.prog 24 #[.pointer (some ⟨g, 0, none⟩), .int .i64 z] w fun o w' => ∃ x, o = .returned x ∧ RatOwn w' w.heap.size x (edueR l z) ∧ RSz (edueR l z) (stepSz (up1 kk + 1) l.length) ∧ Beh w w' := by
 have hfs : ∀ e ∈ l, RSz (epart e.exp z) (up1 kk + 1) := fun e he => by
  obtain ⟨u, _, h⟩ := hl
  obtain ⟨cs, h⟩ := h.mem he
  exact epart_sz h.sz z
 have hK : stepSz (up1 kk + 1) l.length ≤ 1048576 := by
  have := stepSz_le (k := up1 kk + 1) hn
  have : up1 (up1 kk + 1) ≤ 2000 := by unfold up1; omega
  have h2 : stepSz (up1 kk + 1) 64 ≤ 1048576 := by unfold stepSz; omega
  omega
 refine calm_enter (C := cxOf Tryz.prog w _) (args := [_, _]) Tryz.func24 rfl Tryz.ntmps24 (Nat.le_of_ble_eq_true rfl) ?_
 (repeat first|refine wN ?_|refine wP rfl ?_|refine cx_r rfl ?_|refine cx_d rfl ?_|refine wO rfl rfl ?_)
 refine VO.callF rfl (fk Tryz.func69) (fun wa1 β ka1 ba1 ho => (tsum_any g _ (.pointer (some ⟨β 3, 0, none⟩)) (fun e => epart e.exp z) l kk (up1 kk + 1) wa1 (hl.beh ba1)
  ⟨fk Tryz.func73, hfs, fun w1 u e hb he hv => tdue1_any u (β 3) e kk z w1 hv (hb.cell (cls_cell (ho.own 3 (.base (List.mem_singleton.2 rfl)) _ _ rfl).cls)) (by omega) hz⟩ hK).mono ?_)
 rintro o w1 ⟨r1, rfl, q1, hs1, hb1⟩
 obtain ⟨s1, p1, n1, c1, t1, y1, m1, d1, rfl⟩ := q1.form
 refine ⟨_, rfl, hb1, fun kb1 _ bb1 => wV rfl ?_⟩
 (repeat first|refine wN ?_|refine wP rfl ?_|refine cx_r rfl ?_|refine cx_d rfl ?_|refine wO rfl rfl ?_)
 refine VS.ret (cx_ok _ _) rfl rfl (fun wz kz bz => ?_)
 exact ⟨_, rfl, (q1.kp kz).mono ba1.size, hs1, bz⟩
theorem tDue_nil (z : Int) (w : World) :
  Calls Tryz.prog 24 #[.pointer none, .int .i64 z] w fun o w' => ∃ x, o = .returned x ∧ RatOwn w' w.heap.size x 0 ∧ Beh w w' := by
 refine calm_enter (C := cxOf Tryz.prog w _) (args := [_, _]) Tryz.func24 rfl Tryz.ntmps24 (Nat.le_of_ble_eq_true rfl) ?_
 (repeat first|refine wN ?_|refine wP rfl ?_|refine cx_r rfl ?_|refine cx_d rfl ?_|refine wO rfl rfl ?_)
 refine VO.call rfl rfl (fk Tryz.func17) (fun wa1 ka1 ba1 => (ratWhole_any 0 wa1 (by omega) (by omega)).mono ?_)
 rintro e w1 ⟨r1, rfl, q1, hb1⟩
 obtain ⟨s1, p1, n1, c1, t1, y1, m1, d1, rfl⟩ := q1.form
 refine ⟨_, rfl, hb1, fun kb1 _ bb1 => wV rfl ?_⟩
 (repeat first|refine wN ?_|refine wP rfl ?_|refine cx_r rfl ?_|refine cx_d rfl ?_|refine wO rfl rfl ?_)
 refine VS.ret (cx_ok _ _) rfl rfl (fun wz kz bz => ?_)
 exact ⟨_, rfl, (q1.kp kz).mono ba1.size, bz⟩
theorem tBalance_any (g : Nat) (l : List RExp) (kk : Nat) (z : Int) (w : World) (hl : LedIn kk w g l) (hw : ∀ e ∈ l, ewrong e.exp = false) (hk : kk ≤ 1024) (hz : i64b z) (hn : l.length ≤ 64) :
  Calls Tryz.prog 22 #[.pointer (some ⟨g, 0, none⟩), .int .i64 z] w fun o w' => ∃ x, o = .returned x ∧ RatOwn w' w.heap.size x (ebalR l z) ∧ RSz (ebalR l z) (stepSz (up1 kk + 1) l.length) ∧ Beh w w' := by
 have hfs : ∀ e ∈ l, RSz (ebal e.exp z) (up1 kk + 1) := fun e he => by
  obtain ⟨u, _, h⟩ := hl
  obtain ⟨cs, h⟩ := h.mem he
  exact ebal_sz h.sz (hw e he) z
 have hK : stepSz (up1 kk + 1) l.length ≤ 1048576 := by
  have := stepSz_le (k := up1 kk + 1) hn
  have : up1 (up1 kk + 1) ≤ 2000 := by unfold up1; omega
  have h2 : stepSz (up1 kk + 1) 64 ≤ 1048576 := by unfold stepSz; omega
  omega
 refine calm_enter (C := cxOf Tryz.prog w _) (args := [_, _]) Tryz.func22 rfl Tryz.ntmps22 (Nat.le_of_ble_eq_true rfl) ?_
 (repeat first|refine wN ?_|refine wP rfl ?_|refine cx_r rfl ?_|refine cx_d rfl ?_|refine wO rfl rfl ?_)
 refine VO.callF rfl (fk Tryz.func69) (fun wa1 β ka1 ba1 ho => (tsum_any g _ (.pointer (some ⟨β 3, 0, none⟩)) (fun e => ebal e.exp z) l kk (up1 kk + 1) wa1 (hl.beh ba1)
  ⟨fk Tryz.func70, hfs, fun w1 u e hb he hv => tbal1_any u (β 3) e kk z w1 hv (hw e he) (hb.cell (cls_cell (ho.own 3 (.base (List.mem_singleton.2 rfl)) _ _ rfl).cls)) (by omega) hz⟩ hK).mono ?_)
 rintro o w1 ⟨r1, rfl, q1, hs1, hb1⟩
 obtain ⟨s1, p1, n1, c1, t1, y1, m1, d1, rfl⟩ := q1.form
 refine ⟨_, rfl, hb1, fun kb1 _ bb1 => wV rfl ?_⟩
 (repeat first|refine wN ?_|refine wP rfl ?_|refine cx_r rfl ?_|refine cx_d rfl ?_|refine wO rfl rfl ?_)
 refine VS.ret (cx_ok _ _) rfl rfl (fun wz kz bz => ?_)
 exact ⟨_, rfl, (q1.kp kz).mono ba1.size, hs1, bz⟩
theorem tBalance_nil (z : Int) (w : World) :
  Calls Tryz.prog 22 #[.pointer none, .int .i64 z] w fun o w' => ∃ x, o = .returned x ∧ RatOwn w' w.heap.size x 0 ∧ Beh w w' := by
 refine calm_enter (C := cxOf Tryz.prog w _) (args := [_, _]) Tryz.func22 rfl Tryz.ntmps22 (Nat.le_of_ble_eq_true rfl) ?_
 (repeat first|refine wN ?_|refine wP rfl ?_|refine cx_r rfl ?_|refine cx_d rfl ?_|refine wO rfl rfl ?_)
 refine VO.call rfl rfl (fk Tryz.func17) (fun wa1 ka1 ba1 => (ratWhole_any 0 wa1 (by omega) (by omega)).mono ?_)
 rintro e w1 ⟨r1, rfl, q1, hb1⟩
 obtain ⟨s1, p1, n1, c1, t1, y1, m1, d1, rfl⟩ := q1.form
 refine ⟨_, rfl, hb1, fun kb1 _ bb1 => wV rfl ?_⟩
 (repeat first|refine wN ?_|refine wP rfl ?_|refine cx_r rfl ?_|refine cx_d rfl ?_|refine wO rfl rfl ?_)
 refine VS.ret (cx_ok _ _) rfl rfl (fun wz kz bz => ?_)
 exact ⟨_, rfl, (q1.kp kz).mono ba1.size, bz⟩
end Go.Proofs.YtohlmpibnnkanaaGreat
/- The expenses of a ledger in new memory: Clone, copied, Rows. -/
namespace Go.Proofs.YtohlmpibnnkanaaGreat
open Go.RowKit
attribute [local irreducible] vcOps VS

set_option maxHeartbeats 1000000 in
theorem tclone_any (v : Value) (l : List RExp) (kk : Nat) (w : World) (hv : SlIn (ExpE kk) 6 w v l) (hn : l.length ≤ 1000000) :
  Calls Tryz.prog 120 #[v] w fun o w' => ∃ r, o = .returned r ∧ RowNew (ExpE kk) 6 36 w.heap.size w' r l ∧ Beh w w' := by
 obtain ⟨p, c, rfl, hnc, hcm⟩ := hv.form
 refine calm_enter (C := cxOf Tryz.prog w _) (args := [_]) Tryz.func120 rfl Tryz.ntmps120 (Nat.le_of_ble_eq_true rfl) ?_
 (repeat first|refine wN ?_|refine wP rfl ?_|refine cx_r rfl ?_|refine cx_d rfl ?_|refine wO rfl rfl ?_)
 cases p with
 | none =>
  refine VS.condY rfl rfl ?_
  (repeat first|refine wN ?_|refine wP rfl ?_|refine cx_r rfl ?_|refine cx_d rfl ?_|refine wO rfl rfl ?_)
  refine VS.ret (cx_ok _ _) rfl rfl (fun wz kz bz => ?_)
  refine ⟨_, rfl, .inl ⟨rfl, ?_⟩, bz⟩
  cases l with
  | nil => rfl
  | cons a l =>
   obtain ⟨b, off, cs, h, _⟩ := hv.at (i := 0) (a := a) rfl
   cases h
 | some a =>
  obtain ⟨vs, hr, -, hx⟩ := hv.src (exp_ok kk)
  obtain ⟨hok1, hln1⟩ := hr.ok (exp_ok kk)
  refine VS.condN rfl rfl ?_
  (repeat first|refine wN ?_|refine wP rfl ?_|refine cx_r rfl ?_|refine cx_d rfl ?_|refine wO rfl rfl ?_)
  refine VO.app (cx_ok _ _) (t := 22) (e := 36) (sz := 6) (n := 0) (c := 0) (mm := l.length) (known := []) (spare := []) (del := some 5) (news := vs.flatten.map .val) (dst := 7) rfl rfl rfl rfl rfl rfl rfl rfl (Nat.le_of_ble_eq_true rfl) rfl (.inr ⟨5, rfl, rfl, rfl⟩) (.inl rfl) rfl rfl (Nat.le_refl _) (by omega) ⟨rfl, rfl, lidsOf_vals _⟩ ⟨rfl, rfl, vals_ok hok1⟩ (by rw [List.length_map, hln1]) (by omega)
   (fun w1 β k1 b1 ho => ⟨_, _, rfl, hx.imp id (fun ⟨b, off, h1, h2⟩ => ⟨b, off, h1, fun j u hj => b1.cell (h2 j u (by rw [leaf_vals] at hj; exact hj))⟩)⟩)
   (fun w13 cap' spare' ρ k13 b13 hρ hc1 hc2 hlen2 hok' hlid' => wV rfl ?_)
  (repeat first|refine wN ?_|refine wP rfl ?_|refine cx_r rfl ?_|refine cx_d rfl ?_|refine wO rfl rfl ?_)
  refine VS.retA (cx_ok _ _) rfl (fun wz β kz bz en => ?_)
  exact ⟨_, rfl, rowNew_own (es := l) (en.own 7 _ _ rfl) (hr.kp (exp_ok kk) ((Kp.of b13).thn kz)) (Nat.zero_add _) (by omega) hc2 hlen2, bz⟩
def ExpO (B kk : Nat) (w : World) (cs : List Value) (e : RExp) : Prop := ExpE kk w cs e ∧ RatOwn w B (.agg (cs.drop 2).toArray) e.exp.2.2.2
theorem expO_ok (B kk : Nat) : ElOk (ExpO B kk) 6 where
 kp := fun h k => ⟨h.1.kp k, h.2.kp k⟩
 len := fun h => (exp_ok kk).len h.1
 ok := fun h => (exp_ok kk).ok h.1
theorem RatRaw.lims {w : World} {v : Value} {s t : Bool} {xs ys : List Nat} (h : RatRaw w v s xs t ys) : Lim xs ∧ Lim ys := by
 obtain ⟨_, _, _, _, _, h1, h2⟩ := h
 exact ⟨h1.lim, h2.lim⟩
theorem rsum_one (q : Rat) : rsum [q] = q := by show 0 + q = q; grind
set_option maxRecDepth 4000 in
set_option maxHeartbeats 4000000 in
theorem tcopied_any (g : Nat) (l : List RExp) (kk : Nat) (w : World) (hl : LedIn kk w g l) (hw : ∀ e ∈ l, ewrong e.exp = false) (hk : kk ≤ 1024) (hn : l.length ≤ 1000) :
  Calls Tryz.prog 80 #[.pointer (some ⟨g, 0, none⟩)] w fun o w' => ∃ r, o = .returned r ∧ RowNew (ExpO w.heap.size kk) 6 36 w.heap.size w' r l ∧ Beh w w' := by
 obtain ⟨u, hu, hsl⟩ := hl
 obtain ⟨p, c, rfl, hnc, hcm⟩ := hsl.form
 obtain ⟨N, hN⟩ : ∃ N, N = l.length := ⟨_, rfl⟩
 rw [← hN] at hu hn
 have hsl0 := hsl
 rw [← hN] at hsl
 refine calm_enter (C := cxOf Tryz.prog w _) (args := [_]) Tryz.func80 rfl Tryz.ntmps80 (Nat.le_of_ble_eq_true rfl) ?_
 (repeat first|refine wN ?_|refine wP rfl ?_|refine cx_r rfl ?_|refine cx_d rfl ?_|refine wO rfl rfl ?_)
 refine VO.read rfl [.slice p N c] rfl (read_at hu) (wV rfl ?_)
 (repeat first|refine wN ?_|refine wP rfl ?_|refine cx_r rfl ?_|refine cx_d rfl ?_|refine wO rfl rfl ?_)
 refine VO.callX (exp_ok kk) (dst := 9) (t := 36) (es := l) rfl rfl rfl (Nat.le_of_ble_eq_true rfl) (Nat.le_of_ble_eq_true rfl) rfl (fun w1 β k1 b1 ho => ⟨fk Tryz.func120, (tclone_any _ l kk w1 (hsl.beh (exp_ok kk) b1) (by omega)).mono ?_⟩)
 rintro o w2 ⟨r, rfl, hnew, hb2⟩
 refine ⟨_, rfl, hb2, hnew, fun k2 _ b2 hnil => ?_, fun c' vs spare k2 _ b2 hr hsp hnc' hcm' hlen => ?_⟩
 ·subst hnil
  refine wV rfl ?_
  (repeat first|refine wN ?_|refine wP rfl ?_|refine cx_r rfl ?_|refine cx_d rfl ?_|refine wO rfl rfl ?_)
  refine VS.loop (J := fun m L M w' => m = 0 ∧ L = [(3, .val (.slice none 0 0)), (11, .val (.int .i64 0)), (12, .val (.int .i64 0))] ∧ M = []) 0 ⟨_, _, ?_, ?_, ?_, ?_, ⟨rfl, rfl, rfl⟩⟩ ?_
  ·(repeat first|exact trivial|refine ⟨rfl, ?_⟩)
  ·(repeat first|exact trivial|refine ⟨rfl, ?_⟩)
  ·rfl
  ·(repeat first|exact trivial|refine ⟨ClosedC.lit rfl, ?_⟩|refine ⟨ClosedC.vals _, ?_⟩)
  rintro m L M w' ⟨rfl, rfl, rfl⟩
  (repeat first|refine wN ?_|refine wP rfl ?_|refine cx_r rfl ?_|refine cx_d rfl ?_|refine wO rfl rfl ?_)
  refine VS.ret (cx_ok _ _) rfl rfl (fun wz kz bz => ?_)
  exact ⟨_, rfl, .inl ⟨rfl, rfl⟩, bz⟩
 ·rw [← hN] at hnc' ⊢
  refine wV rfl ?_
  (repeat first|refine wN ?_|refine wP rfl ?_|refine cx_r rfl ?_|refine cx_d rfl ?_|refine wO rfl rfl ?_)
  refine VS.loop (J := fun m L M w' => ∃ (z : Nat) (xs : List (List Value)), z ≤ N ∧ m = N - z ∧ L = [(3, .row 9 0 N c'), (11, .val (.int .i64 (N : Int))), (12, .val (.int .i64 (z : Int)))] ∧ M = [(9, (36, xs.flatten.map .val ++ spare.map .val))] ∧
    RowE (ExpE kk) w' l xs ∧ RowE (ExpO w.heap.size kk) w' (l.take z) (xs.take z)) N ⟨_, _, ?_, ?_, ?_, ?_, ⟨0, vs, by omega, rfl, rfl, rfl, hr, .nil⟩⟩ ?_
  ·(repeat first|exact trivial|refine ⟨rfl, ?_⟩)
  ·(repeat first|exact trivial|refine ⟨rfl, ?_⟩)
  ·rfl
  ·exact ⟨.append (.vals _) (.vals _), trivial⟩
  rintro m L M w' ⟨z, xs, hz, rfl, rfl, rfl, hrow, hown⟩
  have hxl := hrow.len
  have hx6 := hrow.lens (exp_ok kk)
  have hfl : xs.flatten.length = N * 6 := by rw [(hrow.ok (exp_ok kk)).2, ← hN]
  have hvl : vs.flatten.length = N * 6 := by rw [(hr.ok (exp_ok kk)).2, ← hN]
  (repeat first|refine wN ?_|refine wP rfl ?_|refine cx_r rfl ?_|refine cx_d rfl ?_|refine wO rfl rfl ?_)
  by_cases hlt : z < N
  ·obtain ⟨e, he⟩ : ∃ e, l[z]? = some e := ⟨_, List.getElem?_eq_getElem (by omega)⟩
   obtain ⟨cs, hcs, hE⟩ := hrow.at z e he
   have hw1 := hw e (List.mem_of_getElem? he)
   have hE0 := hE
   obtain ⟨ep, ec, er, ed, rfl, hi1, hi2, hraw, hx1, hx2⟩ := hE
   refine VS.condY rfl (decide_eq_true (Int.ofNat_lt.2 hlt)) ?_
   (repeat first|refine wN ?_|refine wP rfl ?_|refine cx_r rfl ?_|refine cx_d rfl ?_|refine wO rfl rfl ?_)
   refine VO.cond rfl ⟨by omega, by omega⟩ (wV rfl ?_)
   refine VO.peek rfl (([.bool e.2.2.1, .slice ep e.2.2.2.1.length ec, .bool e.2.2.2.2.1, .slice er e.2.2.2.2.2.length ed] : List Value).map AV.val) rfl (flat_peek' hx6 _ hcs 2 _ ⟨[], rfl⟩ _ (by rw [Int.toNat_natCast]; show 0 + z * 6 + 2 = z * 6 + 2; omega)) (wV rfl ?_)
   (repeat first|refine wN ?_|refine wP rfl ?_|refine cx_r rfl ?_|refine cx_d rfl ?_|refine wO rfl rfl ?_)
   refine VO.callF rfl (fk Tryz.func42) (fun wa3 β ka3 ba3 ho => (ratSum_any _ [e.exp.2.2.2] kk wa3 (ownV_rats (ho.own 22 (.base (List.mem_singleton.2 rfl)) _ _ rfl) [] (vs := [[.bool e.2.2.1, .slice ep e.2.2.2.1.length ec, .bool e.2.2.2.2.1, .slice er e.2.2.2.2.2.length ed]]) (by rfl) rfl (RatRow.cons ((hraw.in hx1 hx2).kp ka3) RatRow.nil) (Nat.le_of_ble_eq_true rfl) (by decide)) (by unfold stepSz up1; simp; omega)).mono ?_)
   rintro o w3 ⟨r3, rfl, q3, hs3, hb3⟩
   rw [rsum_one] at q3
   have hraw3 := q3.rd.raw
   have hrt := (ewrong_no hw1).2.2.2.2
   obtain ⟨hr1, hr2, hr3, hr4⟩ := rt_canon hrt hraw.lims.1 hraw.lims.2
   rw [exp_sz, hr1, hr2, hr3, hr4] at hraw3
   obtain ⟨p3, c3, y3, d3, rfl, -⟩ := hraw3.form'
   refine ⟨_, rfl, hb3, fun kb3 _ bb3 => wV rfl ?_⟩
   (repeat first|refine wN ?_|refine wP rfl ?_|refine cx_r rfl ?_|refine cx_d rfl ?_|refine wO rfl rfl ?_)
   refine VO.cond rfl ⟨by omega, by omega⟩ (wV rfl ?_)
   refine VO.cond rfl (by rw [List.length_append, List.length_map, List.length_map, hfl, Int.toNat_natCast]; show 0 + z * 6 + 2 + 4 ≤ _; omega) (wV rfl ?_)
   (repeat first|refine wN ?_|refine wP rfl ?_|refine cx_r rfl ?_|refine cx_d rfl ?_|refine wO rfl rfl ?_)
   have hE' : ExpE kk w3 [.int .i64 e.1, .int .i64 e.2.1, .bool e.2.2.1, .slice p3 e.2.2.2.1.length c3, .bool e.2.2.2.2.1, .slice y3 e.2.2.2.2.2.length d3] e := ⟨_, _, _, _, rfl, hi1, hi2, hraw3, hx1, hx2⟩
   have hO' : ExpO w.heap.size kk w3 [.int .i64 e.1, .int .i64 e.2.1, .bool e.2.2.1, .slice p3 e.2.2.2.1.length c3, .bool e.2.2.2.2.1, .slice y3 e.2.2.2.2.2.length d3] e := ⟨hE', q3.mono ba3.size⟩
   refine VS.back (N - (z + 1)) (by omega) ⟨_, _, ?_, ?_, ?_, ?_, ⟨z + 1, xs.set z [.int .i64 e.1, .int .i64 e.2.1, .bool e.2.2.1, .slice p3 e.2.2.2.1.length c3, .bool e.2.2.2.2.1, .slice y3 e.2.2.2.2.2.length d3], by omega, rfl, rfl, rfl, (hrow.kp (exp_ok kk) (by (with_reducible (repeat (first | assumption | exact kU _ | exact kR _ | exact Kp.of (U := UU) (by assumption) | exact KpS.of (by assumption) | refine kT ?_ (by assumption)))))).set he hE', ?_⟩⟩
   ·refine ⟨rfl, rfl, ?_, trivial⟩
    rw [← nat_step (i := z) (by omega)]; rfl
   ·exact ⟨congrArg (fun l => some (_, l)) (flat_poke hx6 hcs 2 [.bool e.2.2.1, .slice p3 e.2.2.2.1.length c3, .bool e.2.2.2.2.1, .slice y3 e.2.2.2.2.2.length d3] (Nat.le_refl _) _ _ (by rw [Int.toNat_natCast]; show 0 + z * 6 + 2 = z * 6 + 2; omega) 4 rfl), trivial⟩
   ·rfl
   ·exact ⟨.append (.vals _) (.vals _), trivial⟩
   ·rw [take_snoc_at he, List.take_set, take_snoc_at hcs]
    rw [List.set_append_right _ _ (by rw [List.length_take]; omega), List.length_take, show z - min z xs.length = 0 by omega]
    exact (hown.kp (expO_ok _ kk) (by (with_reducible (repeat (first | assumption | exact kU _ | exact kR _ | exact Kp.of (U := UU) (by assumption) | exact KpS.of (by assumption) | refine kT ?_ (by assumption)))))).snoc hO'
  ·refine VS.condN rfl (decide_eq_false (fun e => hlt (Int.ofNat_lt.1 e))) ?_
   obtain rfl : z = N := by omega
   (repeat first|refine wN ?_|refine wP rfl ?_|refine cx_r rfl ?_|refine cx_d rfl ?_|refine wO rfl rfl ?_)
   refine VS.retA (cx_ok _ _) rfl (fun wz β kz bz en => ?_)
   rw [List.take_of_length_le (by omega), List.take_of_length_le (by omega)] at hown
   refine ⟨_, rfl, rowNew_own (es := l) (en.own 9 _ _ rfl) (hown.kp (expO_ok _ kk) kz) hN hnc' hcm' ?_, bz⟩
   rw [List.length_append, List.length_map, List.length_map, hfl, ← hlen, List.length_append, hvl]
theorem RowNew.monoE {α : Type} {E E' : World → List Value → α → Prop} {sz : Nat} {t : TypeId} {B : Nat} {w : World} {v : Value} {es : List α} (h : RowNew E sz t B w v es) (hm : ∀ cs a, E w cs a → E' w cs a) : RowNew E' sz t B w v es := by
 rcases h with h | ⟨b, c, vs, spare, hv, h0, h1, h2, h3⟩
 ·exact .inl h
 ·exact .inr ⟨b, c, vs, spare, hv, h0, h1, h2.mono hm, h3⟩
theorem tRows_any (g : Nat) (l : List RExp) (kk : Nat) (w : World) (hl : LedIn kk w g l) (hw : ∀ e ∈ l, ewrong e.exp = false) (hk : kk ≤ 1024) (hn : l.length ≤ 1000) :
  Calls Tryz.prog 31 #[.pointer (some ⟨g, 0, none⟩)] w fun o w' => ∃ r, o = .returned r ∧ RowNew (ExpO w.heap.size kk) 6 36 w.heap.size w' r l ∧ Beh w w' := by
 refine calm_enter (C := cxOf Tryz.prog w _) (args := [_]) Tryz.func31 rfl Tryz.ntmps31 (Nat.le_of_ble_eq_true rfl) ?_
 (repeat first|refine wN ?_|refine wP rfl ?_|refine cx_r rfl ?_|refine cx_d rfl ?_|refine wO rfl rfl ?_)
 refine VO.callX (expO_ok w.heap.size kk) (dst := 8) (t := 36) (es := l) rfl rfl rfl (Nat.le_of_ble_eq_true rfl) (Nat.le_of_ble_eq_true rfl) rfl (fun w1 β k1 b1 ho => ⟨fk Tryz.func80, (tcopied_any g l kk w1 (hl.beh b1) hw hk hn).mono ?_⟩)
 rintro o w2 ⟨r, rfl, hnew, hb2⟩
 refine ⟨_, rfl, hb2, hnew.monoE (fun cs e h => ⟨h.1, h.2.mono b1.size⟩), fun k2 _ b2 hnil => ?_, fun c' vs spare k2 _ b2 hr hsp hnc' hcm' hlen => ?_⟩
 ·subst hnil
  refine wV rfl ?_
  (repeat first|refine wN ?_|refine wP rfl ?_|refine cx_r rfl ?_|refine cx_d rfl ?_|refine wO rfl rfl ?_)
  refine VS.ret (cx_ok _ _) rfl rfl (fun wz kz bz => ?_)
  exact ⟨_, rfl, .inl ⟨rfl, rfl⟩, bz⟩
 ·refine wV rfl ?_
  (repeat first|refine wN ?_|refine wP rfl ?_|refine cx_r rfl ?_|refine cx_d rfl ?_|refine wO rfl rfl ?_)
  refine VS.retA (cx_ok _ _) rfl (fun wz β kz bz en => ?_)
  exact ⟨_, rfl, rowNew_own (es := l) (en.own 8 _ _ rfl) (hr.kp (expO_ok _ kk) kz) rfl hnc' hcm' (by rw [← List.map_append, List.length_map]; exact hlen), bz⟩
theorem tRows_nil (w : World) :
  Calls Tryz.prog 31 #[.pointer none] w fun o w' => o = .returned (.slice none 0 0) ∧ Beh w w' := by
 refine calm_enter (C := cxOf Tryz.prog w _) (args := [_]) Tryz.func31 rfl Tryz.ntmps31 (Nat.le_of_ble_eq_true rfl) ?_
 (repeat first|refine wN ?_|refine wP rfl ?_|refine cx_r rfl ?_|refine cx_d rfl ?_|refine wO rfl rfl ?_)
 refine VS.ret (cx_ok _ _) rfl rfl (fun wz kz bz => ?_)
 exact ⟨rfl, bz⟩
end Go.Proofs.YtohlmpibnnkanaaGreat
