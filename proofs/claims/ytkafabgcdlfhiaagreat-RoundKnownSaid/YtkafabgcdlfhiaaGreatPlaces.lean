/- What Places and IsWhole compute, of the program and of the reference. -/
import Derived.Test.YtkafabgcdlfhiaaGreatRep
import Derived.Test.YtkafabgcdlfhiaaGreatRoundA
import Derived.Test.YtkafabgcdlfhiaaGreatRef05
set_option linter.all false
namespace Go.Proofs.YtkafabgcdlfhiaaGreat
open Go.RowKit
attribute [local irreducible] vcOps VS

/-- a fraction, so many decimal places on -/
def tens (n : Nat) : Rat := rprod (List.replicate n ((10 : Int) : Rat))
theorem tens_succ (n : Nat) : tens (n + 1) = tens n * ((10 : Int) : Rat) := by
  unfold tens
  rw [← List.replicate_append_replicate (n := n) (m := 1)]
  simp [rprod, List.foldl_append]
def plc (q : Rat) (n : Int) : Int := if n < 0 then 0 else if n > 40 then 0 else hf (q * tens n.toNat)
def pcode (n : Int) : Int := if n < 0 then 2 else if n > 40 then 3 else 0
theorem ten_sz : RSz ((10 : Int) : Rat) 1 := ⟨Sz.small (by decide), Sz.small (by decide)⟩
theorem tens_sz : ∀ n, RSz (tens n) (1 + n)
  | 0 => RSz.one
  | n + 1 => by rw [tens_succ]; exact (tens_sz n).mul ten_sz
theorem plc_in {n : Int} {N : Nat} (q : Rat) (h : n = (N : Int)) (hN : N ≤ 40) : plc q n = hf (q * tens N) ∧ pcode n = 0 := by
  subst h
  unfold plc pcode
  rw [if_neg (by omega), if_neg (by omega), if_neg (by omega), if_neg (by omega), Int.toNat_natCast]
  exact ⟨rfl, rfl⟩
set_option maxHeartbeats 2000000 in
theorem rdPlaces_any (v : Value) (q : Rat) (k : Nat) (n : Int) (w : World) (hv : RatIn w v q k) (hk : k ≤ 1000000) :
    Calls Tryz.prog 49 #[v, .int .i64 n] w fun e w' => ∃ r, e = .returned (.tuple #[r, .int .i64 (pcode n)]) ∧ IntOwn w' w.heap.size r (plc q n) ∧ Beh w w' := by
  have hs := hv.sz1
  have hu : up1 k ≤ 1000000 := by unfold up1; omega
  obtain ⟨s, p, n0, c, t, y, m, d, rfl⟩ := hv.form
  refine calm_enter (C := cxOf Tryz.prog w _) (args := [_, _]) Tryz.func49 rfl Tryz.ntmps49 (Nat.le_of_ble_eq_true rfl) ?_
  (repeat (first | refine wN ?_ | refine wP rfl ?_ | refine cx_r rfl ?_ | refine cx_d (by kernel_rfl) rfl ?_ | refine wO rfl rfl ?_))
  by_cases h1 : n < 0
  · refine VS.condY rfl (decide_eq_true h1) ?_
    (repeat (first | refine wN ?_ | refine wP rfl ?_ | refine cx_r rfl ?_ | refine cx_d (by kernel_rfl) rfl ?_ | refine wO rfl rfl ?_))
    refine VS.ret (cx_ok _ _) rfl rfl (fun wz kz bz => ?_)
    exact ⟨_, by rw [pcode, if_pos h1]; rfl, by rw [plc, if_pos h1]; exact IntOwn.zero _ _, bz⟩
  refine VS.condN rfl (decide_eq_false h1) ?_
  (repeat (first | refine wN ?_ | refine wP rfl ?_ | refine cx_r rfl ?_ | refine cx_d (by kernel_rfl) rfl ?_ | refine wO rfl rfl ?_))
  by_cases h2 : n > 40
  · refine VS.condY rfl (decide_eq_true h2) ?_
    (repeat (first | refine wN ?_ | refine wP rfl ?_ | refine cx_r rfl ?_ | refine cx_d (by kernel_rfl) rfl ?_ | refine wO rfl rfl ?_))
    refine VS.ret (cx_ok _ _) rfl rfl (fun wz kz bz => ?_)
    exact ⟨_, by rw [pcode, if_neg h1, if_pos h2]; rfl, by rw [plc, if_neg h1, if_pos h2]; exact IntOwn.zero _ _, bz⟩
  refine VS.condN rfl (decide_eq_false h2) ?_
  (repeat (first | refine wN ?_ | refine wP rfl ?_ | refine cx_r rfl ?_ | refine cx_d (by kernel_rfl) rfl ?_ | refine wO rfl rfl ?_))
  obtain ⟨N, rfl⟩ : ∃ N : Nat, n = (N : Int) := ⟨n.toNat, by omega⟩
  obtain ⟨e1, e2⟩ := plc_in q rfl (show N ≤ 40 by omega)
  rw [e1, e2]
  refine VO.call rfl rfl (fk Tryz.func35) (fun wa1 ka1 ba1 => (ratWhole_any 10 wa1 (by omega) (by omega)).mono ?_)
  rintro e w1 ⟨r1, rfl, q1, hb1⟩
  obtain ⟨s1, p1, n1, c1, t1, y1, m1, d1, rfl⟩ := q1.form
  refine ⟨_, rfl, hb1, fun kb1 _ bb1 => wV rfl ?_⟩
  (repeat (first | refine wN ?_ | refine wP rfl ?_ | refine cx_r rfl ?_ | refine cx_d (by kernel_rfl) rfl ?_ | refine wO rfl rfl ?_))
  refine VO.callX (ratE_ok 1) (t := 27) (es := List.replicate N ((10 : Int) : Rat)) rfl rfl rfl (Nat.le_of_ble_eq_true rfl) (Nat.le_of_ble_eq_true rfl) rfl
    (fun wa2 β ka2 ba2 ho => ⟨fk Tryz.func126, (repeat_any (β 16) 0 1 N s1 p1 n1 c1 t1 y1 m1 d1 _ 1 wa2 (fun j u hj => (ho.own 16 (.base (List.mem_singleton.2 rfl)) _ _ rfl).cls.cell (by rw [Nat.zero_add, List.getElem?_toArray]; exact hj)) (q1.ki ten_sz) (by omega)).mono ?_⟩)
  rintro e w2 ⟨v2, rfl, q2, hb2⟩
  refine ⟨v2, rfl, hb2, q2, fun kb2 _ bb2 h0 => wV rfl ?_, fun c2 vs2 spare2 kb2 _ bb2 hr2 hs2 hc2 hm2 hl2 => wV rfl ?_⟩
  · (repeat (first | refine wN ?_ | refine wP rfl ?_ | refine cx_r rfl ?_ | refine cx_d (by kernel_rfl) rfl ?_ | refine wO rfl rfl ?_))
    have hN : N = 0 := by have := congrArg List.length h0; simpa using this
    subst hN
    refine VO.call rfl rfl (fk Tryz.func127) (fun wa3 ka3 ba3 => (ratProduct_any _ [] 1 wa3 (RatsIn.nil _ _) (by decide)).mono ?_)
    rintro e w3 ⟨r3, rfl, q3, z3, hb3⟩
    obtain ⟨s3, p3, n3, c3, t3, y3, m3, d3, rfl⟩ := q3.form
    refine ⟨_, rfl, hb3, fun kb3 _ bb3 => wV rfl ?_⟩
    (repeat (first | refine wN ?_ | refine wP rfl ?_ | refine cx_r rfl ?_ | refine cx_d (by kernel_rfl) rfl ?_ | refine wO rfl rfl ?_))
    refine VO.call rfl rfl (fk Tryz.func39) (fun wa4 ka4 ba4 => (ratMul_any _ _ q (tens 0) k 1 wa4 hv.k (q3.ki (tens_sz 0)) (by omega) (by omega)).mono ?_)
    rintro e w4 ⟨r4, rfl, q4, hb4⟩
    obtain ⟨s4, p4, n4, c4, t4, y4, m4, d4, rfl⟩ := q4.form
    refine ⟨_, rfl, hb4, fun kb4 _ bb4 => wV rfl ?_⟩
    (repeat (first | refine wN ?_ | refine wP rfl ?_ | refine cx_r rfl ?_ | refine cx_d (by kernel_rfl) rfl ?_ | refine wO rfl rfl ?_))
    refine VO.call rfl rfl (fk Tryz.func62) (fun wa5 ka5 ba5 => (rdHalf_any _ _ (up1 k + 1) wa5 (q4.ki (hs.mul (tens_sz 0))) (by omega)).mono ?_)
    rintro e w5 ⟨r5, rfl, q5, hb5⟩
    obtain ⟨s5, p5, n5, c5, rfl⟩ := q5.form
    refine ⟨_, rfl, hb5, fun kb5 _ bb5 => wV rfl ?_⟩
    (repeat (first | refine wN ?_ | refine wP rfl ?_ | refine cx_r rfl ?_ | refine cx_d (by kernel_rfl) rfl ?_ | refine wO rfl rfl ?_))
    refine VS.ret (cx_ok _ _) rfl rfl (fun wz kz bz => ?_)
    exact ⟨_, rfl, (q5.k).mono ba5.size, bz⟩
  · (repeat (first | refine wN ?_ | refine wP rfl ?_ | refine cx_r rfl ?_ | refine cx_d (by kernel_rfl) rfl ?_ | refine wO rfl rfl ?_))
    refine VO.callF rfl (fk Tryz.func127) (fun wa3 β ka3 ba3 ho => (ratProduct_any _ (List.replicate N ((10 : Int) : Rat)) 1 wa3 (ownV_sl (ratE_ok 1) (ho.own 18 (.base (List.mem_singleton.2 rfl)) _ _ rfl) (spare2.map .val) rfl (hr2.kp (ratE_ok 1) (by (with_reducible (repeat (first | assumption | exact kU _ | exact kR _ | exact Kp.of (U := UU) (by assumption) | exact KpS.of (by assumption) | refine kT ?_ (by assumption)))))) rfl hc2 hm2).rats (by rw [List.length_replicate]; show 1 + N * (1 + 1) ≤ _; omega)).mono ?_)
    rintro e w3 ⟨r3, rfl, q3, z3, hb3⟩
    obtain ⟨s3, p3, n3, c3, t3, y3, m3, d3, rfl⟩ := q3.form
    refine ⟨_, rfl, hb3, fun kb3 _ bb3 => wV rfl ?_⟩
    (repeat (first | refine wN ?_ | refine wP rfl ?_ | refine cx_r rfl ?_ | refine cx_d (by kernel_rfl) rfl ?_ | refine wO rfl rfl ?_))
    have q3' : RatOwn w3 wa3.heap.size _ (tens N) := q3
    refine VO.call rfl rfl (fk Tryz.func39) (fun wa4 ka4 ba4 => (ratMul_any _ _ q (tens N) k (1 + N) wa4 hv.k (q3'.ki (tens_sz N)) (by omega) (by omega)).mono ?_)
    rintro e w4 ⟨r4, rfl, q4, hb4⟩
    obtain ⟨s4, p4, n4, c4, t4, y4, m4, d4, rfl⟩ := q4.form
    refine ⟨_, rfl, hb4, fun kb4 _ bb4 => wV rfl ?_⟩
    (repeat (first | refine wN ?_ | refine wP rfl ?_ | refine cx_r rfl ?_ | refine cx_d (by kernel_rfl) rfl ?_ | refine wO rfl rfl ?_))
    refine VO.call rfl rfl (fk Tryz.func62) (fun wa5 ka5 ba5 => (rdHalf_any _ _ (up1 k + (1 + N)) wa5 (q4.ki (hs.mul (tens_sz N))) (by omega)).mono ?_)
    rintro e w5 ⟨r5, rfl, q5, hb5⟩
    obtain ⟨s5, p5, n5, c5, rfl⟩ := q5.form
    refine ⟨_, rfl, hb5, fun kb5 _ bb5 => wV rfl ?_⟩
    (repeat (first | refine wN ?_ | refine wP rfl ?_ | refine cx_r rfl ?_ | refine cx_d (by kernel_rfl) rfl ?_ | refine wO rfl rfl ?_))
    refine VS.ret (cx_ok _ _) rfl rfl (fun wz kz bz => ?_)
    exact ⟨_, rfl, (q5.k).mono ba5.size, bz⟩
set_option maxHeartbeats 2000000 in
theorem q05Places_any (v : Value) (q : Rat) (k : Nat) (n : Int) (w : World) (hv : RatIn w v q k) (hk : k ≤ 100000) :
    Calls Tryz.prog 50 #[v, .int .i64 n] w fun e w' => ∃ r, e = .returned (.tuple #[r, .int .i64 (pcode n)]) ∧ IntOwn w' w.heap.size r (plc q n) ∧ Beh w w' := by
  have hs := hv.sz1
  have hu : up1 k ≤ 100000 := by unfold up1; omega
  obtain ⟨s, p, n0, c, t, y, m, d, rfl⟩ := hv.form
  refine calm_enter (C := cxOf Tryz.prog w _) (args := [_, _]) Tryz.func50 rfl Tryz.ntmps50 (Nat.le_of_ble_eq_true rfl) ?_
  (repeat (first | refine wN ?_ | refine wP rfl ?_ | refine cx_r rfl ?_ | refine cx_d (by kernel_rfl) rfl ?_ | refine wO rfl rfl ?_))
  by_cases h1 : n < 0
  · refine VS.condY rfl (decide_eq_true h1) ?_
    (repeat (first | refine wN ?_ | refine wP rfl ?_ | refine cx_r rfl ?_ | refine cx_d (by kernel_rfl) rfl ?_ | refine wO rfl rfl ?_))
    refine VS.ret (cx_ok _ _) rfl rfl (fun wz kz bz => ?_)
    exact ⟨_, by rw [pcode, if_pos h1]; rfl, by rw [plc, if_pos h1]; exact IntOwn.zero _ _, bz⟩
  refine VS.condN rfl (decide_eq_false h1) ?_
  (repeat (first | refine wN ?_ | refine wP rfl ?_ | refine cx_r rfl ?_ | refine cx_d (by kernel_rfl) rfl ?_ | refine wO rfl rfl ?_))
  by_cases h2 : n > 40
  · refine VS.condY rfl (decide_eq_true h2) ?_
    (repeat (first | refine wN ?_ | refine wP rfl ?_ | refine cx_r rfl ?_ | refine cx_d (by kernel_rfl) rfl ?_ | refine wO rfl rfl ?_))
    refine VS.ret (cx_ok _ _) rfl rfl (fun wz kz bz => ?_)
    exact ⟨_, by rw [pcode, if_neg h1, if_pos h2]; rfl, by rw [plc, if_neg h1, if_pos h2]; exact IntOwn.zero _ _, bz⟩
  refine VS.condN rfl (decide_eq_false h2) ?_
  (repeat (first | refine wN ?_ | refine wP rfl ?_ | refine cx_r rfl ?_ | refine cx_d (by kernel_rfl) rfl ?_ | refine wO rfl rfl ?_))
  obtain ⟨N, rfl⟩ : ∃ N : Nat, n = (N : Int) := ⟨n.toNat, by omega⟩
  obtain ⟨e1, e2⟩ := plc_in q rfl (show N ≤ 40 by omega)
  rw [e1, e2]
  refine VS.loop (J := fun mm L M w' => ∃ z s p n c t y m d, z ≤ N ∧ mm = N - z ∧ L = [(1, .val (.int .i64 (N : Int))), (2, .box 2 0), (4, .box 4 0), (5, .val (.int .i64 0)), (6, .val (.int .i64 (z : Int)))] ∧
      M = [(2, (35, ([.bool s, .slice p n c, .bool t, .slice y m d] : List Value).map .val)), (4, (33, ([.bool false, .slice none 0 0] : List Value).map .val))] ∧ RatIn w' (.agg #[.bool s, .slice p n c, .bool t, .slice y m d]) (q * tens z) (up1 k + (1 + z))) N
    ⟨_, _, ?_, ?_, ?_, ?_, ⟨0, s, p, n0, c, t, y, m, d, by omega, rfl, rfl, rfl, by rw [show q * tens 0 = q from Rat.mul_one q]; exact hv.mono' (by unfold up1; omega)⟩⟩ ?_
  · (repeat (first | exact trivial | refine ⟨rfl, ?_⟩))
  · (repeat (first | exact trivial | refine ⟨rfl, ?_⟩))
  · rfl
  · (repeat (first | exact trivial | refine ⟨ClosedC.lit rfl, ?_⟩ | refine ⟨ClosedC.vals _, ?_⟩))
  rintro mm L M wJ ⟨z, s, p, n, c, t, y, m, d, hz, rfl, rfl, rfl, hq⟩
  have hsz : RSz (q * tens z) (up1 k + (1 + z)) := hs.mul (tens_sz z)
  (repeat (first | refine wN ?_ | refine wP rfl ?_ | refine cx_r rfl ?_ | refine cx_d (by kernel_rfl) rfl ?_ | refine wO rfl rfl ?_))
  by_cases hlt : z < N
  · refine VS.condY rfl (decide_eq_true (Int.ofNat_lt.2 hlt)) ?_
    (repeat (first | refine wN ?_ | refine wP rfl ?_ | refine cx_r rfl ?_ | refine cx_d (by kernel_rfl) rfl ?_ | refine wO rfl rfl ?_))
    refine VO.call rfl rfl (fk Tryz.func128) (fun wa1 ka1 ba1 => (rOf_any 10 wa1 (by omega) (by omega)).mono ?_)
    rintro e w1 ⟨r1, rfl, q1, hb1⟩
    obtain ⟨s1, p1, n1, c1, rfl⟩ := q1.form
    refine ⟨_, rfl, hb1, fun kb1 _ bb1 => wV rfl ?_⟩
    (repeat (first | refine wN ?_ | refine wP rfl ?_ | refine cx_r rfl ?_ | refine cx_d (by kernel_rfl) rfl ?_ | refine wO rfl rfl ?_))
    refine VO.call rfl rfl (fk Tryz.func69) (fun wa2 ka2 ba2 => (q05Whole_any _ 10 1 wa2 (q1.ki (Sz.small (by decide))) (by omega)).mono ?_)
    rintro e w2 ⟨r2, rfl, q2, hb2⟩
    obtain ⟨s2, p2, n2, c2, t2, y2, m2, d2, rfl⟩ := q2.form
    refine ⟨_, rfl, hb2, fun kb2 _ bb2 => wV rfl ?_⟩
    (repeat (first | refine wN ?_ | refine wP rfl ?_ | refine cx_r rfl ?_ | refine cx_d (by kernel_rfl) rfl ?_ | refine wO rfl rfl ?_))
    refine VO.call rfl rfl (fk Tryz.func95) (fun wa3 ka3 ba3 => (q04Mul_any _ _ (q * tens z) ((10 : Int) : Rat) (up1 k + (1 + z)) 1 wa3 hq.k (q2.ki ten_sz) (by omega) (by omega)).mono ?_)
    rintro e w3 ⟨r3, rfl, q3, hb3⟩
    obtain ⟨s3, p3, n3, c3, t3, y3, m3, d3, rfl⟩ := q3.form
    refine ⟨_, rfl, hb3, fun kb3 _ bb3 => wV rfl ?_⟩
    (repeat (first | refine wN ?_ | refine wP rfl ?_ | refine cx_r rfl ?_ | refine cx_d (by kernel_rfl) rfl ?_ | refine wO rfl rfl ?_))
    have e3 : q * tens z * ((10 : Int) : Rat) = q * tens (z + 1) := by rw [tens_succ, Rat.mul_assoc]
    refine VS.back (N - (z + 1)) (by omega) ⟨_, _, ?_, ?_, ?_, ?_, ⟨z + 1, s3, p3, n3, c3, t3, y3, m3, d3, by omega, rfl, rfl, rfl, (q3.cast e3).in (hs.mul (tens_sz (z + 1)))⟩⟩
    · refine ⟨rfl, rfl, rfl, rfl, ?_, trivial⟩
      rw [← nat_step (by omega)]; rfl
    · (repeat (first | exact trivial | refine ⟨rfl, ?_⟩))
    · rfl
    · (repeat (first | exact trivial | refine ⟨ClosedC.lit rfl, ?_⟩ | refine ⟨ClosedC.vals _, ?_⟩))
  · refine VS.condN rfl (decide_eq_false (fun e => hlt (Int.ofNat_lt.1 e))) ?_
    obtain rfl : z = N := by omega
    (repeat (first | refine wN ?_ | refine wP rfl ?_ | refine cx_r rfl ?_ | refine cx_d (by kernel_rfl) rfl ?_ | refine wO rfl rfl ?_))
    refine VO.call rfl rfl (fk Tryz.func57) (fun wa5 ka5 ba5 => (q05Half_any _ _ (up1 k + (1 + z)) wa5 hq.k (by omega)).mono ?_)
    rintro e w5 ⟨r5, rfl, q5, hb5⟩
    obtain ⟨s5, p5, n5, c5, rfl⟩ := q5.form
    refine ⟨_, rfl, hb5, fun kb5 _ bb5 => wV rfl ?_⟩
    (repeat (first | refine wN ?_ | refine wP rfl ?_ | refine cx_r rfl ?_ | refine cx_d (by kernel_rfl) rfl ?_ | refine wO rfl rfl ?_))
    refine VS.ret (cx_ok _ _) rfl rfl (fun wz kz bz => ?_)
    exact ⟨_, rfl, (q5.k).mono (Nat.le_trans (Nat.le_refl _) ba5.size), bz⟩

/-! whole numbers -/
/-- four cells read as a fraction: is it right, and which one -/
def RawE (kk : Nat) (w : World) (cs : List Value) (a : Bool × Rat) : Prop := ∃ s p c t r d xs ys, cs = [Value.bool s, .slice p (List.length xs) c, .bool t, .slice r (List.length ys) d] ∧
  RatRaw w (.agg #[.bool s, .slice p xs.length c, .bool t, .slice r ys.length d]) s xs t ys ∧ a = (rtB s xs t ys, rq s xs t ys) ∧ xs.length ≤ kk ∧ ys.length ≤ kk
theorem rawE_ok (kk : Nat) : ElOk (RawE kk) 4 where
  kp := fun ⟨s, p, c, t, r, d, xs, ys, e, h, r'⟩ k => ⟨s, p, c, t, r, d, xs, ys, e, h.kp k, r'⟩
  len := fun ⟨_, _, _, _, _, _, _, _, e, _⟩ => by rw [e]; rfl
  ok := fun ⟨_, _, _, _, _, _, _, _, e, _⟩ => by rw [e]; rfl
def wholeB (a : Bool × Rat) : Bool := a.1 && decide (a.2.den = 1)
theorem den_one {q : Rat} : icmp (q.den : Int) 1 = 0 ↔ q.den = 1 := by
  unfold icmp
  rw [Int.sign_eq_zero_iff_zero]
  omega
theorem sign_ne {z : Int} : (z.sign != 0) = !decide (z = 0) := by
  by_cases h : z = 0
  · rw [h, decide_eq_true rfl]; rfl
  · rw [decide_eq_false h]
    have : z.sign ≠ 0 := fun e => h (Int.sign_eq_zero_iff_zero.1 e)
    simpa using this
theorem rdIsF_any (kk : Nat) (hkk : kk ≤ 1000000) (cs : List Value) (a : Bool × Rat) (w : World) (h : RawE kk w cs a) :
    Calls Tryz.prog 131 #[.agg cs.toArray] w fun e w' => e = .returned (.bool (!wholeB a)) ∧ Beh w w' := by
  obtain ⟨s, p, c, t, r, d, xs, ys, rfl, hraw, rfl, hx, hy⟩ := h
  refine calm_enter (C := cxOf Tryz.prog w _) (args := [_]) Tryz.func131 rfl Tryz.ntmps131 (Nat.le_of_ble_eq_true rfl) ?_
  (repeat (first | refine wN ?_ | refine wP rfl ?_ | refine cx_r rfl ?_ | refine cx_d (by kernel_rfl) rfl ?_ | refine wO rfl rfl ?_))
  refine VO.call rfl rfl (fk Tryz.func32) (fun wa1 ka1 ba1 => (ratRight_any s t xs ys _ wa1 (hraw.kp ka1) (by omega) (by omega)).mono ?_)
  rintro e w1 ⟨rfl, hb1⟩
  cases hq : rtB s xs t ys
  · refine ⟨_, rfl, hb1, fun kb1 _ bb1 => wV rfl ?_⟩
    (repeat (first | refine wN ?_ | refine wP rfl ?_ | refine cx_r rfl ?_ | refine cx_d (by kernel_rfl) rfl ?_ | refine wO rfl rfl ?_))
    refine VS.ret (cx_ok _ _) rfl rfl (fun wz kz bz => ?_)
    exact ⟨rfl, bz⟩
  · refine ⟨_, rfl, hb1, fun kb1 _ bb1 => wV rfl ?_⟩
    (repeat (first | refine wN ?_ | refine wP rfl ?_ | refine cx_r rfl ?_ | refine cx_d (by kernel_rfl) rfl ?_ | refine wO rfl rfl ?_))
    have hr := rq_right hraw hq
    have hs : RSz (rq s xs t ys) (up1 kk) := (hraw.in hx hy).sz1
    have hu : up1 kk ≤ 1000000 := by unfold up1; omega
    refine VO.call rfl rfl (fk Tryz.func45) (fun wa2 ka2 ba2 => (bOf_any 1 wa2 (by omega) (by omega)).mono ?_)
    rintro e w2 ⟨r2, rfl, q2, hb2⟩
    obtain ⟨s2, p2, n2, c2, rfl⟩ := q2.form
    refine ⟨_, rfl, hb2, fun kb2 _ bb2 => wV rfl ?_⟩
    (repeat (first | refine wN ?_ | refine wP rfl ?_ | refine cx_r rfl ?_ | refine cx_d (by kernel_rfl) rfl ?_ | refine wO rfl rfl ?_))
    refine VO.call rfl rfl (fk Tryz.func41) (fun wa3 ka3 ba3 => (bcmp_any _ _ ((rq s xs t ys).den : Int) 1 (up1 kk) 1 wa3 (hr.parts.2.ki hs.2) (q2.ki (Sz.small (by decide))) (by omega) (by omega)).mono ?_)
    rintro e w3 ⟨rfl, hb3⟩
    skip
    refine ⟨_, rfl, hb3, fun kb3 _ bb3 => wV rfl ?_⟩
    (repeat (first | refine wN ?_ | refine wP rfl ?_ | refine cx_r rfl ?_ | refine cx_d (by kernel_rfl) rfl ?_ | refine wO rfl rfl ?_))
    refine VS.ret (cx_ok _ _) rfl rfl (fun wz kz bz => ?_)
    refine ⟨congrArg (fun b => Ending.returned (.bool b)) ?_, bz⟩
    show ((((rq s xs t ys).den : Int) - 1).sign != 0) = (!(true && decide ((rq s xs t ys).den = 1)))
    rw [sign_ne, Bool.true_and]
    congr 1
    rw [decide_eq_decide]; omega
set_option maxHeartbeats 1000000 in
theorem indexF_any (g : FuncId) (P : Bool × Rat → Bool) (kk : Nat) (kg : FnOk Tryz.prog g) (hg : ∀ (cs : List Value) (a : Bool × Rat) (w : World), RawE kk w cs a → Calls Tryz.prog g #[.agg cs.toArray] w fun e w' => e = .returned (.bool (P a)) ∧ Beh w w') (v : Value) (es : List (Bool × Rat)) (w : World) (hv : SlIn (RawE kk) 4 w v es) :
    Calls Tryz.prog 184 #[v, .func (.func g) #[] #[]] w fun e w' => ∃ r, e = .returned (.int .i64 r) ∧ decide (r ≥ 0) = es.any P ∧ Beh w w' := by
  obtain ⟨p, c, rfl, hnc, hcm⟩ := hv.form
  obtain ⟨N, hN⟩ : ∃ N, N = es.length := ⟨_, rfl⟩
  rw [← hN] at hv hnc ⊢
  refine calm_enter (C := cxOf Tryz.prog w _) (args := [_, _]) Tryz.func184 rfl Tryz.ntmps184 (Nat.le_of_ble_eq_true rfl) ?_
  (repeat (first | refine wN ?_ | refine wP rfl ?_ | refine cx_r rfl ?_ | refine cx_d (by kernel_rfl) rfl ?_ | refine wO rfl rfl ?_))
  refine VS.loop (J := fun mm L M w' => ∃ z : Nat, z ≤ N ∧ mm = N - z ∧ L = [(0, .val (.slice p N c)), (1, .val (.func (.func g) #[] #[])), (7, .val (.int .i64 (N : Int))), (8, .val (.int .i64 (z : Int)))] ∧ M = [] ∧ (es.take z).any P = false) N ⟨_, _, ?_, ?_, ?_, ?_, ⟨0, by omega, rfl, rfl, rfl, rfl⟩⟩ ?_
  · (repeat (first | exact trivial | refine ⟨rfl, ?_⟩))
  · (repeat (first | exact trivial | refine ⟨rfl, ?_⟩))
  · rfl
  · (repeat (first | exact trivial | refine ⟨ClosedC.lit rfl, ?_⟩ | refine ⟨ClosedC.vals _, ?_⟩))
  rintro mm L M wJ ⟨z, hz, rfl, rfl, rfl, hno⟩
  (repeat (first | refine wN ?_ | refine wP rfl ?_ | refine cx_r rfl ?_ | refine cx_d (by kernel_rfl) rfl ?_ | refine wO rfl rfl ?_))
  by_cases hlt : z < N
  · obtain ⟨a, hx⟩ : ∃ x, es[z]? = some x := ⟨_, List.getElem?_eq_getElem (by omega)⟩
    obtain ⟨b, off, cs, rfl, hc, he⟩ := hv.at hx
    have he' := he
    obtain ⟨s, p1, c1, t, r, d, xs, ys, rfl, -⟩ := he'
    refine VS.condY rfl (decide_eq_true (Int.ofNat_lt.2 hlt)) ?_
    (repeat (first | refine wN ?_ | refine wP rfl ?_ | refine cx_r rfl ?_ | refine cx_d (by kernel_rfl) rfl ?_ | refine wO rfl rfl ?_))
    refine VO.cond rfl ⟨by omega, by omega⟩ ?_
    refine wV rfl ?_
    (repeat (first | refine wN ?_ | refine wP rfl ?_ | refine cx_r rfl ?_ | refine cx_d (by kernel_rfl) rfl ?_ | refine wO rfl rfl ?_))
    refine VO.read rfl [.bool s, .slice p1 xs.length c1, .bool t, .slice r ys.length d] rfl (fun j u hj => by rw [Addr.add_mid, Int.toNat_natCast]; exact hc j u hj) (wV rfl ?_)
    refine VO.call rfl rfl kg (fun wa1 ka1 ba1 => (hg _ a wa1 ((rawE_ok kk).kp he (Kp.of (U := UU) ba1))).mono ?_)
    rintro e w1 ⟨rfl, hb1⟩
    cases hP : P a with
    | true =>
      refine ⟨_, rfl, hb1, fun kb1 _ bb1 => wV rfl ?_⟩
      (repeat (first | refine wN ?_ | refine wP rfl ?_ | refine cx_r rfl ?_ | refine cx_d (by kernel_rfl) rfl ?_ | refine wO rfl rfl ?_))
      refine VS.ret (cx_ok _ _) rfl rfl (fun wz kz bz => ?_)
      refine ⟨_, rfl, ?_, bz⟩
      rw [List.any_eq_true.2 ⟨a, List.mem_of_getElem? hx, hP⟩, decide_eq_true (by omega)]
    | false =>
      refine ⟨_, rfl, hb1, fun kb1 _ bb1 => wV rfl ?_⟩
      (repeat (first | refine wN ?_ | refine wP rfl ?_ | refine cx_r rfl ?_ | refine cx_d (by kernel_rfl) rfl ?_ | refine wO rfl rfl ?_))
      refine VS.back (N - (z + 1)) (by omega) ⟨_, _, ?_, ?_, ?_, ?_, ⟨z + 1, by omega, rfl, rfl, rfl, ?_⟩⟩
      · refine ⟨rfl, rfl, rfl, ?_, trivial⟩
        rw [← nat_step (by omega)]; rfl
      · (repeat (first | exact trivial | refine ⟨rfl, ?_⟩))
      · rfl
      · (repeat (first | exact trivial | refine ⟨ClosedC.lit rfl, ?_⟩ | refine ⟨ClosedC.vals _, ?_⟩))
      · rw [take_snoc_at hx, List.any_append, hno]; simp [hP]
  · refine VS.condN rfl (decide_eq_false (fun e => hlt (Int.ofNat_lt.1 e))) ?_
    obtain rfl : z = N := by omega
    (repeat (first | refine wN ?_ | refine wP rfl ?_ | refine cx_r rfl ?_ | refine cx_d (by kernel_rfl) rfl ?_ | refine wO rfl rfl ?_))
    refine VS.ret (cx_ok _ _) rfl rfl (fun wz kz bz => ?_)
    rw [List.take_of_length_le (by omega)] at hno
    exact ⟨_, rfl, by rw [hno]; rfl, bz⟩
theorem rdContains_any (g : FuncId) (P : Bool × Rat → Bool) (kk : Nat) (kg : FnOk Tryz.prog g) (hg : ∀ (cs : List Value) (a : Bool × Rat) (w : World), RawE kk w cs a → Calls Tryz.prog g #[.agg cs.toArray] w fun e w' => e = .returned (.bool (P a)) ∧ Beh w w') (v : Value) (es : List (Bool × Rat)) (w : World) (hv : SlIn (RawE kk) 4 w v es) :
    Calls Tryz.prog 130 #[v, .func (.func g) #[] #[]] w fun e w' => e = .returned (.bool (es.any P)) ∧ Beh w w' := by
  obtain ⟨p, c, rfl, hnc, hcm⟩ := hv.form
  refine calm_enter (C := cxOf Tryz.prog w _) (args := [_, _]) Tryz.func130 rfl Tryz.ntmps130 (Nat.le_of_ble_eq_true rfl) ?_
  (repeat (first | refine wN ?_ | refine wP rfl ?_ | refine cx_r rfl ?_ | refine cx_d (by kernel_rfl) rfl ?_ | refine wO rfl rfl ?_))
  refine VO.call rfl rfl (fk Tryz.func184) (fun wa1 ka1 ba1 => (indexF_any g P kk kg hg _ es wa1 (hv.beh (rawE_ok kk) ba1)).mono ?_)
  rintro e w1 ⟨r1, rfl, h1, hb1⟩
  refine ⟨_, rfl, hb1, fun kb1 _ bb1 => wV rfl ?_⟩
  (repeat (first | refine wN ?_ | refine wP rfl ?_ | refine cx_r rfl ?_ | refine cx_d (by kernel_rfl) rfl ?_ | refine wO rfl rfl ?_))
  refine VS.ret (cx_ok _ _) rfl rfl (fun wz kz bz => ?_)
  exact ⟨congrArg (fun b => Ending.returned (.bool b)) h1, bz⟩
theorem any_all_not {α : Type} (l : List α) (f : α → Bool) : (!l.any fun a => !f a) = l.all f := by
  induction l with
  | nil => rfl
  | cons x r ih => rw [List.any_cons, List.all_cons, ← ih]; cases f x <;> simp
theorem rdIsWhole_any (v : Value) (es : List (Bool × Rat)) (kk : Nat) (w : World) (hv : SlIn (RawE kk) 4 w v es) (hkk : kk ≤ 1000000) :
    Calls Tryz.prog 52 #[v] w fun e w' => e = .returned (.bool (es.all wholeB)) ∧ Beh w w' := by
  obtain ⟨p, c, rfl, hnc, hcm⟩ := hv.form
  refine calm_enter (C := cxOf Tryz.prog w _) (args := [_]) Tryz.func52 rfl Tryz.ntmps52 (Nat.le_of_ble_eq_true rfl) ?_
  (repeat (first | refine wN ?_ | refine wP rfl ?_ | refine cx_r rfl ?_ | refine cx_d (by kernel_rfl) rfl ?_ | refine wO rfl rfl ?_))
  refine VO.call rfl rfl (fk Tryz.func130) (fun wa1 ka1 ba1 => (rdContains_any 131 (fun a => !wholeB a) kk (fk Tryz.func131) (rdIsF_any kk hkk) _ es wa1 (hv.beh (rawE_ok kk) ba1)).mono ?_)
  rintro e w1 ⟨rfl, hb1⟩
  refine ⟨_, rfl, hb1, fun kb1 _ bb1 => wV rfl ?_⟩
  (repeat (first | refine wN ?_ | refine wP rfl ?_ | refine cx_r rfl ?_ | refine cx_d (by kernel_rfl) rfl ?_ | refine wO rfl rfl ?_))
  refine VS.ret (cx_ok _ _) rfl rfl (fun wz kz bz => ?_)
  exact ⟨congrArg (fun b => Ending.returned (.bool b)) (any_all_not es wholeB), bz⟩
theorem rcmp_bne {q : Rat} : (rcmp q 0 != 0) = !decide (q = 0) := by
  by_cases h : q = 0
  · rw [rcmp_zero' h, decide_eq_true h]; rfl
  · rw [decide_eq_false h]; simpa using rcmp_ne h
set_option maxHeartbeats 1000000 in
theorem q05IsWhole_any (v : Value) (es : List (Bool × Rat)) (kk : Nat) (w : World) (hv : SlIn (RawE kk) 4 w v es) (hkk : kk ≤ 1000000) :
    Calls Tryz.prog 53 #[v] w fun e w' => e = .returned (.bool (es.all wholeB)) ∧ Beh w w' := by
  obtain ⟨p, c, rfl, hnc, hcm⟩ := hv.form
  obtain ⟨N, hN⟩ : ∃ N, N = es.length := ⟨_, rfl⟩
  rw [← hN] at hv hnc ⊢
  refine calm_enter (C := cxOf Tryz.prog w _) (args := [_]) Tryz.func53 rfl Tryz.ntmps53 (Nat.le_of_ble_eq_true rfl) ?_
  (repeat (first | refine wN ?_ | refine wP rfl ?_ | refine cx_r rfl ?_ | refine cx_d (by kernel_rfl) rfl ?_ | refine wO rfl rfl ?_))
  refine VS.loop (J := fun mm L M w' => ∃ z : Nat, z ≤ N ∧ mm = N - z ∧ L = [(0, .val (.slice p N c)), (3, .val (.int .i64 (z : Int)))] ∧ M = [] ∧ (es.take z).all wholeB = true) N ⟨_, _, ?_, ?_, ?_, ?_, ⟨0, by omega, rfl, rfl, rfl, rfl⟩⟩ ?_
  · (repeat (first | exact trivial | refine ⟨rfl, ?_⟩))
  · (repeat (first | exact trivial | refine ⟨rfl, ?_⟩))
  · rfl
  · (repeat (first | exact trivial | refine ⟨ClosedC.lit rfl, ?_⟩ | refine ⟨ClosedC.vals _, ?_⟩))
  rintro mm L M wJ ⟨z, hz, rfl, rfl, rfl, hno⟩
  (repeat (first | refine wN ?_ | refine wP rfl ?_ | refine cx_r rfl ?_ | refine cx_d (by kernel_rfl) rfl ?_ | refine wO rfl rfl ?_))
  by_cases hlt : z < N
  · obtain ⟨a, hx⟩ : ∃ x, es[z]? = some x := ⟨_, List.getElem?_eq_getElem (by omega)⟩
    obtain ⟨b, off, cs, rfl, hc, he⟩ := hv.at hx
    obtain ⟨s, p1, c1, t, r, d, xs, ys, rfl, hraw, rfl, hx1, hy1⟩ := he
    have hs : RSz (rq s xs t ys) (up1 kk) := (hraw.in hx1 hy1).sz1
    have hu : up1 kk ≤ 1000000 := by unfold up1; omega
    have hsnoc := take_snoc_at hx
    have hbad : wholeB (rtB s xs t ys, rq s xs t ys) = false → es.all wholeB = false := fun h => by
      rw [← Bool.not_eq_true, List.all_eq_true]
      intro h2
      have := h2 _ (List.mem_of_getElem? hx)
      rw [h] at this; cases this
    refine VS.condY rfl (decide_eq_true (Int.ofNat_lt.2 hlt)) ?_
    (repeat (first | refine wN ?_ | refine wP rfl ?_ | refine cx_r rfl ?_ | refine cx_d (by kernel_rfl) rfl ?_ | refine wO rfl rfl ?_))
    refine VO.cond rfl ⟨by omega, by omega⟩ ?_
    refine wV rfl ?_
    (repeat (first | refine wN ?_ | refine wP rfl ?_ | refine cx_r rfl ?_ | refine cx_d (by kernel_rfl) rfl ?_ | refine wO rfl rfl ?_))
    refine VO.read rfl [.bool s, .slice p1 xs.length c1, .bool t, .slice r ys.length d] rfl (fun j u hj => by rw [Addr.add_mid, Int.toNat_natCast]; exact hc j u hj) (wV rfl ?_)
    (repeat (first | refine wN ?_ | refine wP rfl ?_ | refine cx_r rfl ?_ | refine cx_d (by kernel_rfl) rfl ?_ | refine wO rfl rfl ?_))
    refine VO.call rfl rfl (fk Tryz.func99) (fun wa1 ka1 ba1 => (q04Right_any s t xs ys _ wa1 (hraw.kp (Kp.of (U := UU) ba1)) (by omega) (by omega)).mono ?_)
    rintro e w1 ⟨rfl, hb1⟩
    cases hq : rtB s xs t ys
    · rw [hq] at hbad
      refine ⟨_, rfl, hb1, fun kb1 _ bb1 => wV rfl ?_⟩
      (repeat (first | refine wN ?_ | refine wP rfl ?_ | refine cx_r rfl ?_ | refine cx_d (by kernel_rfl) rfl ?_ | refine wO rfl rfl ?_))
      refine VS.ret (cx_ok _ _) rfl rfl (fun wz kz bz => ?_)
      exact ⟨by rw [hbad rfl]; rfl, bz⟩
    rw [hq] at hbad
    refine ⟨_, rfl, hb1, fun kb1 _ bb1 => wV rfl ?_⟩
    (repeat (first | refine wN ?_ | refine wP rfl ?_ | refine cx_r rfl ?_ | refine cx_d (by kernel_rfl) rfl ?_ | refine wO rfl rfl ?_))
    refine VO.cond rfl ⟨by omega, by omega⟩ ?_
    refine wV rfl ?_
    (repeat (first | refine wN ?_ | refine wP rfl ?_ | refine cx_r rfl ?_ | refine cx_d (by kernel_rfl) rfl ?_ | refine wO rfl rfl ?_))
    refine VO.read rfl [.bool s, .slice p1 xs.length c1, .bool t, .slice r ys.length d] rfl (fun j u hj => by rw [Addr.add_mid, Int.toNat_natCast]; exact hc j u hj) (wV rfl ?_)
    (repeat (first | refine wN ?_ | refine wP rfl ?_ | refine cx_r rfl ?_ | refine cx_d (by kernel_rfl) rfl ?_ | refine wO rfl rfl ?_))
    refine VO.call rfl rfl (fk Tryz.func66) (fun wa2 ka2 ba2 => (q05Frac_any _ (rq s xs t ys) kk wa2 ((hraw.in hx1 hy1).kp (Kp.of (U := UU) ba2)) (by omega)).mono ?_)
    rintro e w2 ⟨r2, rfl, q2, hb2⟩
    obtain ⟨s2, p2, n2, c2, t2, y2, m2, d2, rfl⟩ := q2.form
    refine ⟨_, rfl, hb2, fun kb2 _ bb2 => wV rfl ?_⟩
    (repeat (first | refine wN ?_ | refine wP rfl ?_ | refine cx_r rfl ?_ | refine cx_d (by kernel_rfl) rfl ?_ | refine wO rfl rfl ?_))
    refine VO.call rfl rfl (fk Tryz.func133) (fun wa3 ka3 ba3 => (q05one_any wa3).mono ?_)
    rintro e w3 ⟨r3, rfl, q3, hb3⟩
    obtain ⟨s3, p3, n3, c3, t3, y3, m3, d3, rfl⟩ := q3.form
    refine ⟨_, rfl, hb3, fun kb3 _ bb3 => wV rfl ?_⟩
    (repeat (first | refine wN ?_ | refine wP rfl ?_ | refine cx_r rfl ?_ | refine cx_d (by kernel_rfl) rfl ?_ | refine wO rfl rfl ?_))
    refine VO.call rfl rfl (fk Tryz.func133) (fun wa4 ka4 ba4 => (q05one_any wa4).mono ?_)
    rintro e w4 ⟨r4, rfl, q4, hb4⟩
    obtain ⟨s4, p4, n4, c4, t4, y4, m4, d4, rfl⟩ := q4.form
    refine ⟨_, rfl, hb4, fun kb4 _ bb4 => wV rfl ?_⟩
    (repeat (first | refine wN ?_ | refine wP rfl ?_ | refine cx_r rfl ?_ | refine cx_d (by kernel_rfl) rfl ?_ | refine wO rfl rfl ?_))
    refine VO.call rfl rfl (fk Tryz.func132) (fun wa5 ka5 ba5 => (q04Sub_any _ _ ((1 : Int) : Rat) ((1 : Int) : Rat) 1 1 wa5 (q3.ki RSz.one) (q4.ki RSz.one) (by omega) (by omega)).mono ?_)
    rintro e w5 ⟨r5, rfl, q5, hb5⟩
    obtain ⟨s5, p5, n5, c5, t5, y5, m5, d5, rfl⟩ := q5.form
    refine ⟨_, rfl, hb5, fun kb5 _ bb5 => wV rfl ?_⟩
    (repeat (first | refine wN ?_ | refine wP rfl ?_ | refine cx_r rfl ?_ | refine cx_d (by kernel_rfl) rfl ?_ | refine wO rfl rfl ?_))
    have h11 : ((1 : Int) : Rat) - ((1 : Int) : Rat) = 0 := by rw [Rat.sub_self]
    have hfr : RSz (frac (rq s xs t ys)) (up1 kk) := by
      rw [← frac_div]
      exact divInt_sz (Sz.left hs) hs.2 (by have := den_pos (rq s xs t ys); omega)
    refine VO.call rfl rfl (fk Tryz.func97) (fun wa6 ka6 ba6 => (q04Cmp_any _ _ (frac (rq s xs t ys)) 0 (up1 kk) 1 wa6 (q2.ki hfr) ((q5.cast h11).ki RSz.zero) (by omega) (by omega)).mono ?_)
    rintro e w6 ⟨rfl, hb6⟩
    by_cases hw : (rq s xs t ys).den = 1
    · rw [rcmp_zero' (frac_whole.2 hw)]
      refine ⟨_, rfl, hb6, fun kb6 _ bb6 => wV rfl ?_⟩
      (repeat (first | refine wN ?_ | refine wP rfl ?_ | refine cx_r rfl ?_ | refine cx_d (by kernel_rfl) rfl ?_ | refine wO rfl rfl ?_))
      refine VS.back (N - (z + 1)) (by omega) ⟨_, _, ?_, ?_, ?_, ?_, ⟨z + 1, by omega, rfl, rfl, rfl, ?_⟩⟩
      · refine ⟨rfl, ?_, trivial⟩
        rw [← nat_step (by omega)]; rfl
      · (repeat (first | exact trivial | refine ⟨rfl, ?_⟩))
      · rfl
      · (repeat (first | exact trivial | refine ⟨ClosedC.lit rfl, ?_⟩ | refine ⟨ClosedC.vals _, ?_⟩))
      · rw [hsnoc, List.all_append, hno, hq]; simp [wholeB, hw]
    · have hne : rcmp (frac (rq s xs t ys)) 0 = 1 := by
        have h1 := frac_nonneg (rq s xs t ys)
        have h2 : frac (rq s xs t ys) ≠ 0 := fun e => hw (frac_whole.1 e)
        unfold rcmp
        rw [if_neg (Rat.not_lt.2 h1), if_neg h2]
      rw [hne]
      refine ⟨_, rfl, hb6, fun kb6 _ bb6 => wV rfl ?_⟩
      (repeat (first | refine wN ?_ | refine wP rfl ?_ | refine cx_r rfl ?_ | refine cx_d (by kernel_rfl) rfl ?_ | refine wO rfl rfl ?_))
      refine VS.ret (cx_ok _ _) rfl rfl (fun wz kz bz => ?_)
      exact ⟨by rw [hbad (by simp [wholeB, hw])]; rfl, bz⟩
  · refine VS.condN rfl (decide_eq_false (fun e => hlt (Int.ofNat_lt.1 e))) ?_
    obtain rfl : z = N := by omega
    (repeat (first | refine wN ?_ | refine wP rfl ?_ | refine cx_r rfl ?_ | refine cx_d (by kernel_rfl) rfl ?_ | refine wO rfl rfl ?_))
    refine VS.ret (cx_ok _ _) rfl rfl (fun wz kz bz => ?_)
    rw [List.take_of_length_le (by omega)] at hno
    exact ⟨by rw [hno]; rfl, bz⟩
end Go.Proofs.YtkafabgcdlfhiaaGreat
