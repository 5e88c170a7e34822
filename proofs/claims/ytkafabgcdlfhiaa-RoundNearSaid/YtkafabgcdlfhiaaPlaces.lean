/- What Places and IsWhole compute, of the program and of the reference. -/
import Derived.Test.YtkafabgcdlfhiaaRep
import Derived.Test.YtkafabgcdlfhiaaRoundA
import Derived.Test.YtkafabgcdlfhiaaRef05
set_option linter.all false
namespace Go.Proofs.Ytkafabgcdlfhiaa
open Go.RowKit
attribute [local irreducible] vcOps VS

/-- a fraction, so many decimal places on -/
def tens (n : Nat) : Rat := rprod (List.replicate n ((10 : Int) : Rat))
theorem tens_succ (n : Nat) : tens (n + 1) = tens n * ((10 : Int) : Rat) := by
  unfold tens
  rw [← List.replicate_append_replicate (n := n) (m := 1)]
  simp [rprod, List.foldl_append]
def plc (q : Rat) (n : Int) : Int := if n < 0 then 0 else if n > 40 then 0 else hf (q * tens n.toNat)
def pcode (n : Int) : Int := if n < 0 then 2 else if n > 40 then 3 else 0
theorem ten_sz : RSz ((10 : Int) : Rat) 1 := ⟨Sz.small (by decide), Sz.small (by decide)⟩
theorem tens_sz : ∀ n, RSz (tens n) (1 + n)
  | 0 => RSz.one
  | n + 1 => by rw [tens_succ]; exact (tens_sz n).mul ten_sz
theorem plc_in {n : Int} {N : Nat} (q : Rat) (h : n = (N : Int)) (hN : N ≤ 40) : plc q n = hf (q * tens N) ∧ pcode n = 0 := by
  subst h
  unfold plc pcode
  rw [if_neg (by omega), if_neg (by omega), if_neg (by omega), if_neg (by omega), Int.toNat_natCast]
  exact ⟨rfl, rfl⟩
set_option maxHeartbeats 2000000 in
theorem rdPlaces_any (v : Value) (q : Rat) (k : Nat) (n : Int) (w : World) (hv : RatIn w v q k) (hk : k ≤ 1000000) :
    Calls Try.prog 29 #[v, .int .i64 n] w fun e w' => ∃ r, e = .returned (.tuple #[r, .int .i64 (pcode n)]) ∧ IntOwn w' w.heap.size r (plc q n) ∧ Beh w w' := by
  have hs := hv.sz1
  have hu : up1 k ≤ 1000000 := by unfold up1; omega
  obtain ⟨s, p, n0, c, t, y, m, d, rfl⟩ := hv.form
  refine calm_enter (C := cxOf Try.prog w _) (args := [_, _]) Try.func29 rfl Try.ntmps29 (Nat.le_of_ble_eq_true rfl) ?_
  (repeat (first | refine wN ?_ | refine wP rfl ?_ | refine cx_r rfl ?_ | refine cx_d (by kernel_rfl) rfl ?_ | refine wO rfl rfl ?_))
  by_cases h1 : n < 0
  · refine VS.condY rfl (decide_eq_true h1) ?_
    (repeat (first | refine wN ?_ | refine wP rfl ?_ | refine cx_r rfl ?_ | refine cx_d (by kernel_rfl) rfl ?_ | refine wO rfl rfl ?_))
    refine VS.ret (cx_ok _ _) rfl rfl (fun wz kz bz => ?_)
    exact ⟨_, by rw [pcode, if_pos h1]; rfl, by rw [plc, if_pos h1]; exact IntOwn.zero _ _, bz⟩
  refine VS.condN rfl (decide_eq_false h1) ?_
  (repeat (first | refine wN ?_ | refine wP rfl ?_ | refine cx_r rfl ?_ | refine cx_d (by kernel_rfl) rfl ?_ | refine wO rfl rfl ?_))
  by_cases h2 : n > 40
  · refine VS.condY rfl (decide_eq_true h2) ?_
    (repeat (first | refine wN ?_ | refine wP rfl ?_ | refine cx_r rfl ?_ | refine cx_d (by kernel_rfl) rfl ?_ | refine wO rfl rfl ?_))
    refine VS.ret (cx_ok _ _) rfl rfl (fun wz kz bz => ?_)
    exact ⟨_, by rw [pcode, if_neg h1, if_pos h2]; rfl, by rw [plc, if_neg h1, if_pos h2]; exact IntOwn.zero _ _, bz⟩
  refine VS.condN rfl (decide_eq_false h2) ?_
  (repeat (first | refine wN ?_ | refine wP rfl ?_ | refine cx_r rfl ?_ | refine cx_d (by kernel_rfl) rfl ?_ | refine wO rfl rfl ?_))
  obtain ⟨N, rfl⟩ : ∃ N : Nat, n = (N : Int) := ⟨n.toNat, by omega⟩
  obtain ⟨e1, e2⟩ := plc_in q rfl (show N ≤ 40 by omega)
  rw [e1, e2]
  refine VO.call rfl rfl (fk Try.func54) (fun wa1 ka1 ba1 => (ratWhole_any 10 wa1 (by omega) (by omega)).mono ?_)
  rintro e w1 ⟨r1, rfl, q1, hb1⟩
  obtain ⟨s1, p1, n1, c1, t1, y1, m1, d1, rfl⟩ := q1.form
  refine ⟨_, rfl, hb1, fun kb1 _ bb1 => wV rfl ?_⟩
  (repeat (first | refine wN ?_ | refine wP rfl ?_ | refine cx_r rfl ?_ | refine cx_d (by kernel_rfl) rfl ?_ | refine wO rfl rfl ?_))
  refine VO.callX (ratE_ok 1) (t := 26) (es := List.replicate N ((10 : Int) : Rat)) rfl rfl rfl (Nat.le_of_ble_eq_true rfl) (Nat.le_of_ble_eq_true rfl) rfl
    (fun wa2 β ka2 ba2 ho => ⟨fk Try.func57, (repeat_any (β 16) 0 1 N s1 p1 n1 c1 t1 y1 m1 d1 _ 1 wa2 (fun j u hj => (ho.own 16 (.base (List.mem_singleton.2 rfl)) _ _ rfl).cls.cell (by rw [Nat.zero_add, List.getElem?_toArray]; exact hj)) (q1.ki ten_sz) (by omega)).mono ?_⟩)
  rintro e w2 ⟨v2, rfl, q2, hb2⟩
  refine ⟨v2, rfl, hb2, q2, fun kb2 _ bb2 h0 => wV rfl ?_, fun c2 vs2 spare2 kb2 _ bb2 hr2 hs2 hc2 hm2 hl2 => wV rfl ?_⟩
  · (repeat (first | refine wN ?_ | refine wP rfl ?_ | refine cx_r rfl ?_ | refine cx_d (by kernel_rfl) rfl ?_ | refine wO rfl rfl ?_))
    have hN : N = 0 := by have := congrArg List.length h0; simpa using this
    subst hN
    refine VO.call rfl rfl (fk Try.func58) (fun wa3 ka3 ba3 => (ratProduct_any _ [] 1 wa3 (RatsIn.nil _ _) (by decide)).mono ?_)
    rintro e w3 ⟨r3, rfl, q3, z3, hb3⟩
    obtain ⟨s3, p3, n3, c3, t3, y3, m3, d3, rfl⟩ := q3.form
    refine ⟨_, rfl, hb3, fun kb3 _ bb3 => wV rfl ?_⟩
    (repeat (first | refine wN ?_ | refine wP rfl ?_ | refine cx_r rfl ?_ | refine cx_d (by kernel_rfl) rfl ?_ | refine wO rfl rfl ?_))
    refine VO.call rfl rfl (fk Try.func53) (fun wa4 ka4 ba4 => (ratMul_any _ _ q (tens 0) k 1 wa4 hv.k (q3.ki (tens_sz 0)) (by omega) (by omega)).mono ?_)
    rintro e w4 ⟨r4, rfl, q4, hb4⟩
    obtain ⟨s4, p4, n4, c4, t4, y4, m4, d4, rfl⟩ := q4.form
    refine ⟨_, rfl, hb4, fun kb4 _ bb4 => wV rfl ?_⟩
    (repeat (first | refine wN ?_ | refine wP rfl ?_ | refine cx_r rfl ?_ | refine cx_d (by kernel_rfl) rfl ?_ | refine wO rfl rfl ?_))
    refine VO.call rfl rfl (fk Try.func15) (fun wa5 ka5 ba5 => (rdHalf_any _ _ (up1 k + 1) wa5 (q4.ki (hs.mul (tens_sz 0))) (by omega)).mono ?_)
    rintro e w5 ⟨r5, rfl, q5, hb5⟩
    obtain ⟨s5, p5, n5, c5, rfl⟩ := q5.form
    refine ⟨_, rfl, hb5, fun kb5 _ bb5 => wV rfl ?_⟩
    (repeat (first | refine wN ?_ | refine wP rfl ?_ | refine cx_r rfl ?_ | refine cx_d (by kernel_rfl) rfl ?_ | refine wO rfl rfl ?_))
    refine VS.ret (cx_ok _ _) rfl rfl (fun wz kz bz => ?_)
    exact ⟨_, rfl, (q5.k).mono ba5.size, bz⟩
  · (repeat (first | refine wN ?_ | refine wP rfl ?_ | refine cx_r rfl ?_ | refine cx_d (by kernel_rfl) rfl ?_ | refine wO rfl rfl ?_))
    refine VO.callF rfl (fk Try.func58) (fun wa3 β ka3 ba3 ho => (ratProduct_any _ (List.replicate N ((10 : Int) : Rat)) 1 wa3 (ownV_sl (ratE_ok 1) (ho.own 18 (.base (List.mem_singleton.2 rfl)) _ _ rfl) (spare2.map .val) rfl (hr2.kp (ratE_ok 1) (by (with_reducible (repeat (first | assumption | exact kU _ | exact kR _ | exact Kp.of (U := UU) (by assumption) | exact KpS.of (by assumption) | refine kT ?_ (by assumption)))))) rfl hc2 hm2).rats (by rw [List.length_replicate]; show 1 + N * (1 + 1) ≤ _; omega)).mono ?_)
    rintro e w3 ⟨r3, rfl, q3, z3, hb3⟩
    obtain ⟨s3, p3, n3, c3, t3, y3, m3, d3, rfl⟩ := q3.form
    refine ⟨_, rfl, hb3, fun kb3 _ bb3 => wV rfl ?_⟩
    (repeat (first | refine wN ?_ | refine wP rfl ?_ | refine cx_r rfl ?_ | refine cx_d (by kernel_rfl) rfl ?_ | refine wO rfl rfl ?_))
    have q3' : RatOwn w3 wa3.heap.size _ (tens N) := q3
    refine VO.call rfl rfl (fk Try.func53) (fun wa4 ka4 ba4 => (ratMul_any _ _ q (tens N) k (1 + N) wa4 hv.k (q3'.ki (tens_sz N)) (by omega) (by omega)).mono ?_)
    rintro e w4 ⟨r4, rfl, q4, hb4⟩
    obtain ⟨s4, p4, n4, c4, t4, y4, m4, d4, rfl⟩ := q4.form
    refine ⟨_, rfl, hb4, fun kb4 _ bb4 => wV rfl ?_⟩
    (repeat (first | refine wN ?_ | refine wP rfl ?_ | refine cx_r rfl ?_ | refine cx_d (by kernel_rfl) rfl ?_ | refine wO rfl rfl ?_))
    refine VO.call rfl rfl (fk Try.func15) (fun wa5 ka5 ba5 => (rdHalf_any _ _ (up1 k + (1 + N)) wa5 (q4.ki (hs.mul (tens_sz N))) (by omega)).mono ?_)
    rintro e w5 ⟨r5, rfl, q5, hb5⟩
    obtain ⟨s5, p5, n5, c5, rfl⟩ := q5.form
    refine ⟨_, rfl, hb5, fun kb5 _ bb5 => wV rfl ?_⟩
    (repeat (first | refine wN ?_ | refine wP rfl ?_ | refine cx_r rfl ?_ | refine cx_d (by kernel_rfl) rfl ?_ | refine wO rfl rfl ?_))
    refine VS.ret (cx_ok _ _) rfl rfl (fun wz kz bz => ?_)
    exact ⟨_, rfl, (q5.k).mono ba5.size, bz⟩
/-! whole numbers -/
/-- four cells read as a fraction: is it right, and which one -/
def RawE (kk : Nat) (w : World) (cs : List Value) (a : Bool × Rat) : Prop := ∃ s p c t r d xs ys, cs = [Value.bool s, .slice p (List.length xs) c, .bool t, .slice r (List.length ys) d] ∧
  RatRaw w (.agg #[.bool s, .slice p xs.length c, .bool t, .slice r ys.length d]) s xs t ys ∧ a = (rtB s xs t ys, rq s xs t ys) ∧ xs.length ≤ kk ∧ ys.length ≤ kk
theorem rawE_ok (kk : Nat) : ElOk (RawE kk) 4 where
  kp := fun ⟨s, p, c, t, r, d, xs, ys, e, h, r'⟩ k => ⟨s, p, c, t, r, d, xs, ys, e, h.kp k, r'⟩
  len := fun ⟨_, _, _, _, _, _, _, _, e, _⟩ => by rw [e]; rfl
  ok := fun ⟨_, _, _, _, _, _, _, _, e, _⟩ => by rw [e]; rfl
def wholeB (a : Bool × Rat) : Bool := a.1 && decide (a.2.den = 1)
theorem den_one {q : Rat} : icmp (q.den : Int) 1 = 0 ↔ q.den = 1 := by
  unfold icmp
  rw [Int.sign_eq_zero_iff_zero]
  omega
theorem sign_ne {z : Int} : (z.sign != 0) = !decide (z = 0) := by
  by_cases h : z = 0
  · rw [h, decide_eq_true rfl]; rfl
  · rw [decide_eq_false h]
    have : z.sign ≠ 0 := fun e => h (Int.sign_eq_zero_iff_zero.1 e)
    simpa using this
theorem any_all_not {α : Type} (l : List α) (f : α → Bool) : (!l.any fun a => !f a) = l.all f := by
  induction l with
  | nil => rfl
  | cons x r ih => rw [List.any_cons, List.all_cons, ← ih]; cases f x <;> simp
theorem rcmp_bne {q : Rat} : (rcmp q 0 != 0) = !decide (q = 0) := by
  by_cases h : q = 0
  · rw [rcmp_zero' h, decide_eq_true h]; rfl
  · rw [decide_eq_false h]; simpa using rcmp_ne h
end Go.Proofs.Ytkafabgcdlfhiaa
