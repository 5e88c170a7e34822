/- What the reference's functions over rows of fractions compute: Sum, Product, Min, Max. -/
import Derived.Test.YtppfcobomaaceaaGreatRef04A
namespace Go.Proofs.YtppfcobomaaceaaGreat
open Go.RowKit
attribute [local irreducible] vcOps VS


set_option maxHeartbeats 400000 in
theorem q04Sum_any (v : Value) (qs : List Rat) (k : Nat) (w : World) (hv : RatsIn w v qs k) (hk : stepSz k qs.length ≤ 33554432) :
    Calls Tryz.prog 31 #[v] w fun e w' => ∃ x, e = .returned x ∧ RatOwn w' w.heap.size x (rsum qs) ∧ RSz (rsum qs) (stepSz k qs.length) ∧ Beh w w' := by
  obtain ⟨p, c, rfl, hnc, hcm⟩ := hv.form
  obtain ⟨N, hN⟩ : ∃ N, N = qs.length := ⟨_, rfl⟩
  rw [← hN] at hv hk hnc ⊢
  have hNm : N < 9223372036854775807 := by unfold stepSz at hk; have := Nat.le_mul_of_pos_right N (show 0 < up1 k + 1 by omega); omega
  have huk : up1 k ≤ 33554432 ∨ N = 0 := by
    rcases Nat.eq_zero_or_pos N with e | e
    · exact .inr e
    · left; unfold stepSz at hk; have := Nat.le_mul_of_pos_left (up1 k + 1) e; omega
  refine calm_enter (C := cxOf Tryz.prog w _) (args := [_]) Tryz.func31 rfl Tryz.ntmps31 (Nat.le_of_ble_eq_true rfl) ?_
  (repeat (first | refine wN ?_ | refine wQ ?_ | refine cx_r rfl ?_ | refine cx_d (by kernel_rfl) rfl ?_ | refine wO rfl rfl ?_ | refine wT rfl ?_ | refine wF rfl ?_ | refine wB ?_ | refine wK ?_ | refine wE rfl ?_ | refine wS ?_))
  refine VO.call rfl rfl ⟨_, Tryz.func44, by kernel_rfl, by kernel_rfl⟩ (fun wa1 ka1 ba1 => (q04Zero_any wa1).mono ?_)
  rintro e w1 ⟨r1, rfl, q1, hb1⟩
  obtain ⟨s1, p1, n1, c1, t1, y1, m1, d1, rfl⟩ := q1.form
  refine ⟨_, rfl, hb1, fun kb1 _ bb1 => wV rfl ?_⟩
  (repeat (first | refine wN ?_ | refine wQ ?_ | refine cx_r rfl ?_ | refine cx_d (by kernel_rfl) rfl ?_ | refine wO rfl rfl ?_ | refine wT rfl ?_ | refine wF rfl ?_ | refine wB ?_ | refine wK ?_ | refine wE rfl ?_ | refine wS ?_))
  refine VS.loop (J := fun n L M w' => ∃ i s p' n' c' t r m d, i ≤ N ∧ n = N - i ∧ L = [(0, .val (.slice p N c)), (4, .val (.int .i64 (i : Int))), (3, .box 3 0), (2, .box 2 0)] ∧
    M = [(2, (31, ([.bool false, .slice none 0 0, .bool false, .slice none 0 0] : List Value).map .val)), (3, (31, ([.bool s, .slice p' n' c', .bool t, .slice r m d] : List Value).map .val))] ∧ RatOwn w' w.heap.size (.agg #[.bool s, .slice p' n' c', .bool t, .slice r m d]) (rsum (qs.take i)) ∧ RSz (rsum (qs.take i)) (stepSz k i)) N ⟨_, _, ?_, ?_, ?_, ?_, ⟨0, s1, p1, n1, c1, t1, y1, m1, d1, by omega, by omega, rfl, rfl, (q1.mono ba1.size).cast (by simp [rsum]), by simp only [List.take_zero, rsum, List.foldl_nil, stepSz, Nat.zero_mul, Nat.add_zero]; exact RSz.zero⟩⟩ ?_
  · (repeat (first | exact trivial | refine ⟨rfl, ?_⟩))
  · (repeat (first | exact trivial | refine ⟨rfl, ?_⟩))
  · rfl
  · (repeat (first | exact trivial | refine ⟨ClosedC.lit rfl, ?_⟩ | refine ⟨ClosedC.vals _, ?_⟩))
  rintro n L M w' ⟨i, s, p', n', c', t, r, m, d, hi, rfl, rfl, rfl, ho, hz⟩
  (repeat (first | refine wN ?_ | refine wQ ?_ | refine cx_r rfl ?_ | refine cx_d (by kernel_rfl) rfl ?_ | refine wO rfl rfl ?_ | refine wT rfl ?_ | refine wF rfl ?_ | refine wB ?_ | refine wK ?_ | refine wE rfl ?_ | refine wS ?_))
  by_cases hlt : i < N
  · obtain ⟨q, hq⟩ : ∃ q, qs[i]? = some q := ⟨_, List.getElem?_eq_getElem (by omega)⟩
    obtain ⟨b, off, s2, p2, n2, c2, t2, r2, m2, d2, rfl, hc, hin⟩ := hv.at hq
    refine VS.condY rfl (decide_eq_true (Int.ofNat_lt.2 hlt)) ?_
    (repeat (first | refine wN ?_ | refine wQ ?_ | refine cx_r rfl ?_ | refine cx_d (by kernel_rfl) rfl ?_ | refine wO rfl rfl ?_ | refine wT rfl ?_ | refine wF rfl ?_ | refine wB ?_ | refine wK ?_ | refine wE rfl ?_ | refine wS ?_))
    refine VO.cond rfl ⟨by omega, by omega⟩ (wV rfl ?_)
    refine VO.read rfl [.bool s2, .slice p2 n2 c2, .bool t2, .slice r2 m2 d2] rfl (fun j u hj => by rw [Addr.add_mid, Int.toNat_natCast]; exact hc j u hj) (wV rfl ?_)
    (repeat (first | refine wN ?_ | refine wQ ?_ | refine cx_r rfl ?_ | refine cx_d (by kernel_rfl) rfl ?_ | refine wO rfl rfl ?_ | refine wT rfl ?_ | refine wF rfl ?_ | refine wB ?_ | refine wK ?_ | refine wE rfl ?_ | refine wS ?_))
    refine VO.call rfl rfl ⟨_, Tryz.func17, by kernel_rfl, by kernel_rfl⟩ (fun wa3 ka3 ba3 => (q04Add_any _ _ (rsum (qs.take i)) q (stepSz k i) k wa3 ((ho.kp ka3).in hz) (hin.kp (Kp.of (U := UU) ba3)) (by have := stepSz_le (k := k) hi; omega) (by unfold up1 at *; omega)).mono ?_)
    rintro e w3 ⟨r3', rfl, q3, hb3⟩
    obtain ⟨s4, p4, n4, c4, t4, y4, m4, d4, rfl⟩ := q3.form
    refine ⟨_, rfl, hb3, fun kb3 _ bb3 => wV rfl ?_⟩
    (repeat (first | refine wN ?_ | refine wQ ?_ | refine cx_r rfl ?_ | refine cx_d (by kernel_rfl) rfl ?_ | refine wO rfl rfl ?_ | refine wT rfl ?_ | refine wF rfl ?_ | refine wB ?_ | refine wK ?_ | refine wE rfl ?_ | refine wS ?_))
    refine VS.back (N - (i + 1)) (by omega) ⟨_, _, ?_, ?_, ?_, ?_, ⟨i + 1, s4, p4, n4, c4, t4, y4, m4, d4, by omega, rfl, rfl, rfl, (q3.mono ba3.size).cast (rsum_snoc hq).symm, by rw [rsum_snoc hq, stepSz_succ]; exact hz.add hin.sz1⟩⟩
    · refine ⟨rfl, ?_, rfl, rfl, trivial⟩
      rw [← nat_step (by omega)]; rfl
    · (repeat (first | exact trivial | refine ⟨rfl, ?_⟩))
    · rfl
    · (repeat (first | exact trivial | refine ⟨ClosedC.lit rfl, ?_⟩ | refine ⟨ClosedC.vals _, ?_⟩))
  · refine VS.condN rfl (decide_eq_false (fun e => hlt (Int.ofNat_lt.1 e))) ?_
    (repeat (first | refine wN ?_ | refine wQ ?_ | refine cx_r rfl ?_ | refine cx_d (by kernel_rfl) rfl ?_ | refine wO rfl rfl ?_ | refine wT rfl ?_ | refine wF rfl ?_ | refine wB ?_ | refine wK ?_ | refine wE rfl ?_ | refine wS ?_))
    refine VS.ret (cx_ok _ _) rfl rfl (fun wz kz bz => ?_)
    obtain rfl : i = N := by omega
    rw [List.take_of_length_le (by omega)] at ho hz
    exact ⟨_, rfl, ho.kp kz, hz, bz⟩

set_option maxHeartbeats 400000 in
theorem q04Product_any (v : Value) (qs : List Rat) (k : Nat) (w : World) (hv : RatsIn w v qs k) (hk : stepSz k qs.length ≤ 33554432) :
    Calls Tryz.prog 33 #[v] w fun e w' => ∃ x, e = .returned x ∧ RatOwn w' w.heap.size x (rprod qs) ∧ RSz (rprod qs) (stepSz k qs.length) ∧ Beh w w' := by
  obtain ⟨p, c, rfl, hnc, hcm⟩ := hv.form
  obtain ⟨N, hN⟩ : ∃ N, N = qs.length := ⟨_, rfl⟩
  rw [← hN] at hv hk hnc ⊢
  have hNm : N < 9223372036854775807 := by unfold stepSz at hk; have := Nat.le_mul_of_pos_right N (show 0 < up1 k + 1 by omega); omega
  have huk : up1 k ≤ 33554432 ∨ N = 0 := by
    rcases Nat.eq_zero_or_pos N with e | e
    · exact .inr e
    · left; unfold stepSz at hk; have := Nat.le_mul_of_pos_left (up1 k + 1) e; omega
  refine calm_enter (C := cxOf Tryz.prog w _) (args := [_]) Tryz.func33 rfl Tryz.ntmps33 (Nat.le_of_ble_eq_true rfl) ?_
  (repeat (first | refine wN ?_ | refine wQ ?_ | refine cx_r rfl ?_ | refine cx_d (by kernel_rfl) rfl ?_ | refine wO rfl rfl ?_ | refine wT rfl ?_ | refine wF rfl ?_ | refine wB ?_ | refine wK ?_ | refine wE rfl ?_ | refine wS ?_))
  refine VO.call rfl rfl ⟨_, Tryz.func69, by kernel_rfl, by kernel_rfl⟩ (fun wa1 ka1 ba1 => (q04Whole_any 1 wa1 (by omega) (by omega)).mono ?_)
  rintro e w1 ⟨r1, rfl, q1, hb1⟩
  obtain ⟨s1, p1, n1, c1, t1, y1, m1, d1, rfl⟩ := q1.form
  refine ⟨_, rfl, hb1, fun kb1 _ bb1 => wV rfl ?_⟩
  (repeat (first | refine wN ?_ | refine wQ ?_ | refine cx_r rfl ?_ | refine cx_d (by kernel_rfl) rfl ?_ | refine wO rfl rfl ?_ | refine wT rfl ?_ | refine wF rfl ?_ | refine wB ?_ | refine wK ?_ | refine wE rfl ?_ | refine wS ?_))
  refine VS.loop (J := fun n L M w' => ∃ i s p' n' c' t r m d, i ≤ N ∧ n = N - i ∧ L = [(0, .val (.slice p N c)), (4, .val (.int .i64 (i : Int))), (3, .box 3 0), (2, .box 2 0)] ∧
    M = [(2, (31, ([.bool false, .slice none 0 0, .bool false, .slice none 0 0] : List Value).map .val)), (3, (31, ([.bool s, .slice p' n' c', .bool t, .slice r m d] : List Value).map .val))] ∧ RatOwn w' w.heap.size (.agg #[.bool s, .slice p' n' c', .bool t, .slice r m d]) (rprod (qs.take i)) ∧ RSz (rprod (qs.take i)) (stepSz k i)) N ⟨_, _, ?_, ?_, ?_, ?_, ⟨0, s1, p1, n1, c1, t1, y1, m1, d1, by omega, by omega, rfl, rfl, (q1.mono ba1.size).cast (by simp [rprod]), by simp only [List.take_zero, rprod, List.foldl_nil, stepSz, Nat.zero_mul, Nat.add_zero]; exact RSz.one⟩⟩ ?_
  · (repeat (first | exact trivial | refine ⟨rfl, ?_⟩))
  · (repeat (first | exact trivial | refine ⟨rfl, ?_⟩))
  · rfl
  · (repeat (first | exact trivial | refine ⟨ClosedC.lit rfl, ?_⟩ | refine ⟨ClosedC.vals _, ?_⟩))
  rintro n L M w' ⟨i, s, p', n', c', t, r, m, d, hi, rfl, rfl, rfl, ho, hz⟩
  (repeat (first | refine wN ?_ | refine wQ ?_ | refine cx_r rfl ?_ | refine cx_d (by kernel_rfl) rfl ?_ | refine wO rfl rfl ?_ | refine wT rfl ?_ | refine wF rfl ?_ | refine wB ?_ | refine wK ?_ | refine wE rfl ?_ | refine wS ?_))
  by_cases hlt : i < N
  · obtain ⟨q, hq⟩ : ∃ q, qs[i]? = some q := ⟨_, List.getElem?_eq_getElem (by omega)⟩
    obtain ⟨b, off, s2, p2, n2, c2, t2, r2, m2, d2, rfl, hc, hin⟩ := hv.at hq
    refine VS.condY rfl (decide_eq_true (Int.ofNat_lt.2 hlt)) ?_
    (repeat (first | refine wN ?_ | refine wQ ?_ | refine cx_r rfl ?_ | refine cx_d (by kernel_rfl) rfl ?_ | refine wO rfl rfl ?_ | refine wT rfl ?_ | refine wF rfl ?_ | refine wB ?_ | refine wK ?_ | refine wE rfl ?_ | refine wS ?_))
    refine VO.cond rfl ⟨by omega, by omega⟩ (wV rfl ?_)
    refine VO.read rfl [.bool s2, .slice p2 n2 c2, .bool t2, .slice r2 m2 d2] rfl (fun j u hj => by rw [Addr.add_mid, Int.toNat_natCast]; exact hc j u hj) (wV rfl ?_)
    (repeat (first | refine wN ?_ | refine wQ ?_ | refine cx_r rfl ?_ | refine cx_d (by kernel_rfl) rfl ?_ | refine wO rfl rfl ?_ | refine wT rfl ?_ | refine wF rfl ?_ | refine wB ?_ | refine wK ?_ | refine wE rfl ?_ | refine wS ?_))
    refine VO.call rfl rfl ⟨_, Tryz.func19, by kernel_rfl, by kernel_rfl⟩ (fun wa3 ka3 ba3 => (q04Mul_any _ _ (rprod (qs.take i)) q (stepSz k i) k wa3 ((ho.kp ka3).in hz) (hin.kp (Kp.of (U := UU) ba3)) (by have := stepSz_le (k := k) hi; omega) (by unfold up1 at *; omega)).mono ?_)
    rintro e w3 ⟨r3', rfl, q3, hb3⟩
    obtain ⟨s4, p4, n4, c4, t4, y4, m4, d4, rfl⟩ := q3.form
    refine ⟨_, rfl, hb3, fun kb3 _ bb3 => wV rfl ?_⟩
    (repeat (first | refine wN ?_ | refine wQ ?_ | refine cx_r rfl ?_ | refine cx_d (by kernel_rfl) rfl ?_ | refine wO rfl rfl ?_ | refine wT rfl ?_ | refine wF rfl ?_ | refine wB ?_ | refine wK ?_ | refine wE rfl ?_ | refine wS ?_))
    refine VS.back (N - (i + 1)) (by omega) ⟨_, _, ?_, ?_, ?_, ?_, ⟨i + 1, s4, p4, n4, c4, t4, y4, m4, d4, by omega, rfl, rfl, rfl, (q3.mono ba3.size).cast (rprod_snoc hq).symm, by rw [rprod_snoc hq, stepSz_succ]; exact (hz.mul hin.sz1).mono (by omega)⟩⟩
    · refine ⟨rfl, ?_, rfl, rfl, trivial⟩
      rw [← nat_step (by omega)]; rfl
    · (repeat (first | exact trivial | refine ⟨rfl, ?_⟩))
    · rfl
    · (repeat (first | exact trivial | refine ⟨ClosedC.lit rfl, ?_⟩ | refine ⟨ClosedC.vals _, ?_⟩))
  · refine VS.condN rfl (decide_eq_false (fun e => hlt (Int.ofNat_lt.1 e))) ?_
    (repeat (first | refine wN ?_ | refine wQ ?_ | refine cx_r rfl ?_ | refine cx_d (by kernel_rfl) rfl ?_ | refine wO rfl rfl ?_ | refine wT rfl ?_ | refine wF rfl ?_ | refine wB ?_ | refine wK ?_ | refine wE rfl ?_ | refine wS ?_))
    refine VS.ret (cx_ok _ _) rfl rfl (fun wz kz bz => ?_)
    obtain rfl : i = N := by omega
    rw [List.take_of_length_le (by omega)] at ho hz
    exact ⟨_, rfl, ho.kp kz, hz, bz⟩

set_option maxHeartbeats 1000000 in
theorem q04Min_any (v : Value) (q0 : Rat) (qs : List Rat) (k : Nat) (w : World) (hv : RatsIn w v (q0 :: qs) k) (hk : k ≤ 33554431) (hlen : qs.length < 9223372036854775806) :
    Calls Tryz.prog 35 #[v] w fun e w' => ∃ x, e = .returned x ∧ RatRd w' x (rbest rless q0 qs) ∧ RSz (rbest rless q0 qs) (up1 k) ∧ Beh w w' := by
  obtain ⟨p, c, rfl, hnc, hcm⟩ := hv.form
  obtain ⟨N, hN⟩ : ∃ N, N = qs.length := ⟨_, rfl⟩
  rw [List.length_cons] at hnc
  rw [← hN] at hlen hnc
  have hv' := hv
  rw [show (q0 :: qs).length = N + 1 by rw [List.length_cons, hN]] at hv ⊢
  obtain ⟨b, off, s0, p0, n0, c0, t0, r0, m0, d0, rfl, hc0, hin0⟩ := hv.at (i := 0) (q := q0) rfl
  have zk : up1 k ≤ 33554431 := by unfold up1; omega
  refine calm_enter (C := cxOf Tryz.prog w _) (args := [_]) Tryz.func35 rfl Tryz.ntmps35 (Nat.le_of_ble_eq_true rfl) ?_
  (repeat (first | refine wN ?_ | refine wQ ?_ | refine cx_r rfl ?_ | refine cx_d (by kernel_rfl) rfl ?_ | refine wO rfl rfl ?_ | refine wT rfl ?_ | refine wF rfl ?_ | refine wB ?_ | refine wK ?_ | refine wE rfl ?_ | refine wS ?_))
  refine VO.cond rfl ⟨by omega, by omega⟩ (wV rfl ?_)
  refine VO.read rfl [.bool s0, .slice p0 n0 c0, .bool t0, .slice r0 m0 d0] rfl (fun j u hj => by rw [Addr.add_mid]; exact hc0 j u hj) (wV rfl ?_)
  (repeat (first | refine wN ?_ | refine wQ ?_ | refine cx_r rfl ?_ | refine cx_d (by kernel_rfl) rfl ?_ | refine wO rfl rfl ?_ | refine wT rfl ?_ | refine wF rfl ?_ | refine wB ?_ | refine wK ?_ | refine wE rfl ?_ | refine wS ?_))
  refine VO.call rfl rfl ⟨_, Tryz.func46, by kernel_rfl, by kernel_rfl⟩ (fun wa1 ka1 ba1 => (q04Plain_any _ q0 k wa1 (hin0.kp (Kp.of (U := UU) ba1)) (by omega)).mono ?_)
  rintro e w1 ⟨r1, rfl, q1, hb1⟩
  obtain ⟨s1, p1, n1, c1, t1, y1, m1, d1, rfl⟩ := q1.form
  refine ⟨_, rfl, hb1, fun kb1 _ bb1 => wV rfl ?_⟩
  (repeat (first | refine wN ?_ | refine wQ ?_ | refine cx_r rfl ?_ | refine cx_d (by kernel_rfl) rfl ?_ | refine wO rfl rfl ?_ | refine wT rfl ?_ | refine wF rfl ?_ | refine wB ?_ | refine wK ?_ | refine wE rfl ?_ | refine wS ?_))
  refine VS.loop (J := fun n' L M w' => ∃ i s p' n c' t r m d, i ≤ N ∧ n' = N - i ∧ L = [(0, .val (.slice (some ⟨b, off, none⟩) (N + 1) c)), (4, .val (.int .i64 ((i + 1 : Nat) : Int))), (3, .box 3 0), (2, .box 2 0)] ∧
    M = [(2, (31, ([.bool false, .slice none 0 0, .bool false, .slice none 0 0] : List Value).map .val)), (3, (31, ([.bool s, .slice p' n c', .bool t, .slice r m d] : List Value).map .val))] ∧ RatRd w' (.agg #[.bool s, .slice p' n c', .bool t, .slice r m d]) (rbest rless q0 (qs.take i)) ∧ RSz (rbest rless q0 (qs.take i)) (up1 k)) N ⟨_, _, ?_, ?_, ?_, ?_, ⟨0, s1, p1, n1, c1, t1, y1, m1, d1, by omega, by omega, rfl, rfl, q1, hin0.sz1⟩⟩ ?_
  · (repeat (first | exact trivial | refine ⟨rfl, ?_⟩))
  · (repeat (first | exact trivial | refine ⟨rfl, ?_⟩))
  · rfl
  · (repeat (first | exact trivial | refine ⟨ClosedC.lit rfl, ?_⟩ | refine ⟨ClosedC.vals _, ?_⟩))
  rintro n' L M w' ⟨i, s, p', n, c', t, r, m, d, hi, rfl, rfl, rfl, ho, hz⟩
  have hwi : IntKind.i64.wrap (((i + 1 : Nat) : Int) + 1) = ((i + 1 + 1 : Nat) : Int) := nat_step (by omega)
  (repeat (first | refine wN ?_ | refine wQ ?_ | refine cx_r rfl ?_ | refine cx_d (by kernel_rfl) rfl ?_ | refine wO rfl rfl ?_ | refine wT rfl ?_ | refine wF rfl ?_ | refine wB ?_ | refine wK ?_ | refine wE rfl ?_ | refine wS ?_))
  by_cases hlt : i < N
  · obtain ⟨q, hq⟩ : ∃ q, qs[i]? = some q := ⟨_, List.getElem?_eq_getElem (by omega)⟩
    obtain ⟨b', off', s2, p2, n2, c2, t2, r2, m2, d2, hbo, hc, hin⟩ := hv.at (i := i + 1) (q := q) (by simpa using hq)
    cases hbo
    refine VS.condY rfl (decide_eq_true (by omega)) ?_
    (repeat (first | refine wN ?_ | refine wQ ?_ | refine cx_r rfl ?_ | refine cx_d (by kernel_rfl) rfl ?_ | refine wO rfl rfl ?_ | refine wT rfl ?_ | refine wF rfl ?_ | refine wB ?_ | refine wK ?_ | refine wE rfl ?_ | refine wS ?_))
    refine VO.cond rfl ⟨by omega, by omega⟩ (wV rfl ?_)
    refine VO.read rfl [.bool s2, .slice p2 n2 c2, .bool t2, .slice r2 m2 d2] rfl (fun j u hj => by rw [Addr.add_mid, Int.toNat_natCast]; exact hc j u hj) (wV rfl ?_)
    (repeat (first | refine wN ?_ | refine wQ ?_ | refine cx_r rfl ?_ | refine cx_d (by kernel_rfl) rfl ?_ | refine wO rfl rfl ?_ | refine wT rfl ?_ | refine wF rfl ?_ | refine wB ?_ | refine wK ?_ | refine wE rfl ?_ | refine wS ?_))
    refine VO.call rfl rfl ⟨_, Tryz.func25, by kernel_rfl, by kernel_rfl⟩ (fun wa5 ka5 ba5 => (q04Cmp_any _ _ q (rbest rless q0 (qs.take i)) k (up1 k) wa5 (hin.kp (Kp.of (U := UU) ba5)) ((ho.kp ka5).to hz) hk zk).mono ?_)
    rintro e w5 ⟨rfl, hb5⟩
    skip
    refine ⟨_, rfl, hb5, fun kb5 _ bb5 => wV rfl ?_⟩
    (repeat (first | refine wN ?_ | refine wQ ?_ | refine cx_r rfl ?_ | refine cx_d (by kernel_rfl) rfl ?_ | refine wO rfl rfl ?_ | refine wT rfl ?_ | refine wF rfl ?_ | refine wB ?_ | refine wK ?_ | refine wE rfl ?_ | refine wS ?_))
    have hsn := rbest_snoc (better := rless) (x := q0) hq
    cases hbt : rless q (rbest rless q0 (qs.take i))
    · rw [hbt] at hsn
      refine VS.condN rfl hbt ?_
      (repeat (first | refine wN ?_ | refine wQ ?_ | refine cx_r rfl ?_ | refine cx_d (by kernel_rfl) rfl ?_ | refine wO rfl rfl ?_ | refine wT rfl ?_ | refine wF rfl ?_ | refine wB ?_ | refine wK ?_ | refine wE rfl ?_ | refine wS ?_))
      refine VS.back (N - (i + 1)) (by omega) ⟨_, _, ?_, ?_, ?_, ?_, ⟨i + 1, s, p', n, c', t, r, m, d, by omega, rfl, rfl, rfl, by rw [hsn]; exact ho.kp kb5, by rw [hsn]; exact hz⟩⟩
      · exact ⟨rfl, congrArg (fun z => some (AV.val (.int .i64 z))) hwi, rfl, rfl, trivial⟩
      · (repeat (first | exact trivial | refine ⟨rfl, ?_⟩))
      · rfl
      · (repeat (first | exact trivial | refine ⟨ClosedC.lit rfl, ?_⟩ | refine ⟨ClosedC.vals _, ?_⟩))
    · rw [hbt] at hsn
      refine VS.condY rfl hbt ?_
      (repeat (first | refine wN ?_ | refine wQ ?_ | refine cx_r rfl ?_ | refine cx_d (by kernel_rfl) rfl ?_ | refine wO rfl rfl ?_ | refine wT rfl ?_ | refine wF rfl ?_ | refine wB ?_ | refine wK ?_ | refine wE rfl ?_ | refine wS ?_))
      refine VO.cond rfl ⟨by omega, by omega⟩ (wV rfl ?_)
      refine VO.read rfl [.bool s2, .slice p2 n2 c2, .bool t2, .slice r2 m2 d2] rfl (fun j u hj => by rw [Addr.add_mid, Int.toNat_natCast]; exact hc j u hj) (wV rfl ?_)
      (repeat (first | refine wN ?_ | refine wQ ?_ | refine cx_r rfl ?_ | refine cx_d (by kernel_rfl) rfl ?_ | refine wO rfl rfl ?_ | refine wT rfl ?_ | refine wF rfl ?_ | refine wB ?_ | refine wK ?_ | refine wE rfl ?_ | refine wS ?_))
      refine VO.call rfl rfl ⟨_, Tryz.func46, by kernel_rfl, by kernel_rfl⟩ (fun wa6 ka6 ba6 => (q04Plain_any _ q k wa6 (hin.kp (Kp.of (U := UU) ba6)) (by omega)).mono ?_)
      rintro e w6 ⟨r6, rfl, q6, hb6⟩
      obtain ⟨s6, p6, n6, c6, t6, y6, m6, d6, rfl⟩ := q6.form
      refine ⟨_, rfl, hb6, fun kb6 _ bb6 => wV rfl ?_⟩
      (repeat (first | refine wN ?_ | refine wQ ?_ | refine cx_r rfl ?_ | refine cx_d (by kernel_rfl) rfl ?_ | refine wO rfl rfl ?_ | refine wT rfl ?_ | refine wF rfl ?_ | refine wB ?_ | refine wK ?_ | refine wE rfl ?_ | refine wS ?_))
      refine VS.back (N - (i + 1)) (by omega) ⟨_, _, ?_, ?_, ?_, ?_, ⟨i + 1, s6, p6, n6, c6, t6, y6, m6, d6, by omega, rfl, rfl, rfl, by rw [hsn]; exact q6, by rw [hsn]; exact hin.sz1⟩⟩
      · exact ⟨rfl, congrArg (fun z => some (AV.val (.int .i64 z))) hwi, rfl, rfl, trivial⟩
      · (repeat (first | exact trivial | refine ⟨rfl, ?_⟩))
      · rfl
      · (repeat (first | exact trivial | refine ⟨ClosedC.lit rfl, ?_⟩ | refine ⟨ClosedC.vals _, ?_⟩))
  · refine VS.condN rfl (decide_eq_false (by omega)) ?_
    (repeat (first | refine wN ?_ | refine wQ ?_ | refine cx_r rfl ?_ | refine cx_d (by kernel_rfl) rfl ?_ | refine wO rfl rfl ?_ | refine wT rfl ?_ | refine wF rfl ?_ | refine wB ?_ | refine wK ?_ | refine wE rfl ?_ | refine wS ?_))
    refine VS.ret (cx_ok _ _) rfl rfl (fun wz kz bz => ?_)
    obtain rfl : i = N := by omega
    rw [List.take_of_length_le (by omega)] at ho hz
    exact ⟨_, rfl, ho.kp kz, hz, bz⟩

set_option maxHeartbeats 1000000 in
theorem q04Max_any (v : Value) (q0 : Rat) (qs : List Rat) (k : Nat) (w : World) (hv : RatsIn w v (q0 :: qs) k) (hk : k ≤ 33554431) (hlen : qs.length < 9223372036854775806) :
    Calls Tryz.prog 37 #[v] w fun e w' => ∃ x, e = .returned x ∧ RatRd w' x (rbest rmore q0 qs) ∧ RSz (rbest rmore q0 qs) (up1 k) ∧ Beh w w' := by
  obtain ⟨p, c, rfl, hnc, hcm⟩ := hv.form
  obtain ⟨N, hN⟩ : ∃ N, N = qs.length := ⟨_, rfl⟩
  rw [List.length_cons] at hnc
  rw [← hN] at hlen hnc
  have hv' := hv
  rw [show (q0 :: qs).length = N + 1 by rw [List.length_cons, hN]] at hv ⊢
  obtain ⟨b, off, s0, p0, n0, c0, t0, r0, m0, d0, rfl, hc0, hin0⟩ := hv.at (i := 0) (q := q0) rfl
  have zk : up1 k ≤ 33554431 := by unfold up1; omega
  refine calm_enter (C := cxOf Tryz.prog w _) (args := [_]) Tryz.func37 rfl Tryz.ntmps37 (Nat.le_of_ble_eq_true rfl) ?_
  (repeat (first | refine wN ?_ | refine wQ ?_ | refine cx_r rfl ?_ | refine cx_d (by kernel_rfl) rfl ?_ | refine wO rfl rfl ?_ | refine wT rfl ?_ | refine wF rfl ?_ | refine wB ?_ | refine wK ?_ | refine wE rfl ?_ | refine wS ?_))
  refine VO.cond rfl ⟨by omega, by omega⟩ (wV rfl ?_)
  refine VO.read rfl [.bool s0, .slice p0 n0 c0, .bool t0, .slice r0 m0 d0] rfl (fun j u hj => by rw [Addr.add_mid]; exact hc0 j u hj) (wV rfl ?_)
  (repeat (first | refine wN ?_ | refine wQ ?_ | refine cx_r rfl ?_ | refine cx_d (by kernel_rfl) rfl ?_ | refine wO rfl rfl ?_ | refine wT rfl ?_ | refine wF rfl ?_ | refine wB ?_ | refine wK ?_ | refine wE rfl ?_ | refine wS ?_))
  refine VO.call rfl rfl ⟨_, Tryz.func46, by kernel_rfl, by kernel_rfl⟩ (fun wa1 ka1 ba1 => (q04Plain_any _ q0 k wa1 (hin0.kp (Kp.of (U := UU) ba1)) (by omega)).mono ?_)
  rintro e w1 ⟨r1, rfl, q1, hb1⟩
  obtain ⟨s1, p1, n1, c1, t1, y1, m1, d1, rfl⟩ := q1.form
  refine ⟨_, rfl, hb1, fun kb1 _ bb1 => wV rfl ?_⟩
  (repeat (first | refine wN ?_ | refine wQ ?_ | refine cx_r rfl ?_ | refine cx_d (by kernel_rfl) rfl ?_ | refine wO rfl rfl ?_ | refine wT rfl ?_ | refine wF rfl ?_ | refine wB ?_ | refine wK ?_ | refine wE rfl ?_ | refine wS ?_))
  refine VS.loop (J := fun n' L M w' => ∃ i s p' n c' t r m d, i ≤ N ∧ n' = N - i ∧ L = [(0, .val (.slice (some ⟨b, off, none⟩) (N + 1) c)), (4, .val (.int .i64 ((i + 1 : Nat) : Int))), (3, .box 3 0), (2, .box 2 0)] ∧
    M = [(2, (31, ([.bool false, .slice none 0 0, .bool false, .slice none 0 0] : List Value).map .val)), (3, (31, ([.bool s, .slice p' n c', .bool t, .slice r m d] : List Value).map .val))] ∧ RatRd w' (.agg #[.bool s, .slice p' n c', .bool t, .slice r m d]) (rbest rmore q0 (qs.take i)) ∧ RSz (rbest rmore q0 (qs.take i)) (up1 k)) N ⟨_, _, ?_, ?_, ?_, ?_, ⟨0, s1, p1, n1, c1, t1, y1, m1, d1, by omega, by omega, rfl, rfl, q1, hin0.sz1⟩⟩ ?_
  · (repeat (first | exact trivial | refine ⟨rfl, ?_⟩))
  · (repeat (first | exact trivial | refine ⟨rfl, ?_⟩))
  · rfl
  · (repeat (first | exact trivial | refine ⟨ClosedC.lit rfl, ?_⟩ | refine ⟨ClosedC.vals _, ?_⟩))
  rintro n' L M w' ⟨i, s, p', n, c', t, r, m, d, hi, rfl, rfl, rfl, ho, hz⟩
  have hwi : IntKind.i64.wrap (((i + 1 : Nat) : Int) + 1) = ((i + 1 + 1 : Nat) : Int) := nat_step (by omega)
  (repeat (first | refine wN ?_ | refine wQ ?_ | refine cx_r rfl ?_ | refine cx_d (by kernel_rfl) rfl ?_ | refine wO rfl rfl ?_ | refine wT rfl ?_ | refine wF rfl ?_ | refine wB ?_ | refine wK ?_ | refine wE rfl ?_ | refine wS ?_))
  by_cases hlt : i < N
  · obtain ⟨q, hq⟩ : ∃ q, qs[i]? = some q := ⟨_, List.getElem?_eq_getElem (by omega)⟩
    obtain ⟨b', off', s2, p2, n2, c2, t2, r2, m2, d2, hbo, hc, hin⟩ := hv.at (i := i + 1) (q := q) (by simpa using hq)
    cases hbo
    refine VS.condY rfl (decide_eq_true (by omega)) ?_
    (repeat (first | refine wN ?_ | refine wQ ?_ | refine cx_r rfl ?_ | refine cx_d (by kernel_rfl) rfl ?_ | refine wO rfl rfl ?_ | refine wT rfl ?_ | refine wF rfl ?_ | refine wB ?_ | refine wK ?_ | refine wE rfl ?_ | refine wS ?_))
    refine VO.cond rfl ⟨by omega, by omega⟩ (wV rfl ?_)
    refine VO.read rfl [.bool s2, .slice p2 n2 c2, .bool t2, .slice r2 m2 d2] rfl (fun j u hj => by rw [Addr.add_mid, Int.toNat_natCast]; exact hc j u hj) (wV rfl ?_)
    (repeat (first | refine wN ?_ | refine wQ ?_ | refine cx_r rfl ?_ | refine cx_d (by kernel_rfl) rfl ?_ | refine wO rfl rfl ?_ | refine wT rfl ?_ | refine wF rfl ?_ | refine wB ?_ | refine wK ?_ | refine wE rfl ?_ | refine wS ?_))
    refine VO.call rfl rfl ⟨_, Tryz.func25, by kernel_rfl, by kernel_rfl⟩ (fun wa5 ka5 ba5 => (q04Cmp_any _ _ q (rbest rmore q0 (qs.take i)) k (up1 k) wa5 (hin.kp (Kp.of (U := UU) ba5)) ((ho.kp ka5).to hz) hk zk).mono ?_)
    rintro e w5 ⟨rfl, hb5⟩
    skip
    refine ⟨_, rfl, hb5, fun kb5 _ bb5 => wV rfl ?_⟩
    (repeat (first | refine wN ?_ | refine wQ ?_ | refine cx_r rfl ?_ | refine cx_d (by kernel_rfl) rfl ?_ | refine wO rfl rfl ?_ | refine wT rfl ?_ | refine wF rfl ?_ | refine wB ?_ | refine wK ?_ | refine wE rfl ?_ | refine wS ?_))
    have hsn := rbest_snoc (better := rmore) (x := q0) hq
    cases hbt : rmore q (rbest rmore q0 (qs.take i))
    · rw [hbt] at hsn
      refine VS.condN rfl hbt ?_
      (repeat (first | refine wN ?_ | refine wQ ?_ | refine cx_r rfl ?_ | refine cx_d (by kernel_rfl) rfl ?_ | refine wO rfl rfl ?_ | refine wT rfl ?_ | refine wF rfl ?_ | refine wB ?_ | refine wK ?_ | refine wE rfl ?_ | refine wS ?_))
      refine VS.back (N - (i + 1)) (by omega) ⟨_, _, ?_, ?_, ?_, ?_, ⟨i + 1, s, p', n, c', t, r, m, d, by omega, rfl, rfl, rfl, by rw [hsn]; exact ho.kp kb5, by rw [hsn]; exact hz⟩⟩
      · exact ⟨rfl, congrArg (fun z => some (AV.val (.int .i64 z))) hwi, rfl, rfl, trivial⟩
      · (repeat (first | exact trivial | refine ⟨rfl, ?_⟩))
      · rfl
      · (repeat (first | exact trivial | refine ⟨ClosedC.lit rfl, ?_⟩ | refine ⟨ClosedC.vals _, ?_⟩))
    · rw [hbt] at hsn
      refine VS.condY rfl hbt ?_
      (repeat (first | refine wN ?_ | refine wQ ?_ | refine cx_r rfl ?_ | refine cx_d (by kernel_rfl) rfl ?_ | refine wO rfl rfl ?_ | refine wT rfl ?_ | refine wF rfl ?_ | refine wB ?_ | refine wK ?_ | refine wE rfl ?_ | refine wS ?_))
      refine VO.cond rfl ⟨by omega, by omega⟩ (wV rfl ?_)
      refine VO.read rfl [.bool s2, .slice p2 n2 c2, .bool t2, .slice r2 m2 d2] rfl (fun j u hj => by rw [Addr.add_mid, Int.toNat_natCast]; exact hc j u hj) (wV rfl ?_)
      (repeat (first | refine wN ?_ | refine wQ ?_ | refine cx_r rfl ?_ | refine cx_d (by kernel_rfl) rfl ?_ | refine wO rfl rfl ?_ | refine wT rfl ?_ | refine wF rfl ?_ | refine wB ?_ | refine wK ?_ | refine wE rfl ?_ | refine wS ?_))
      refine VO.call rfl rfl ⟨_, Tryz.func46, by kernel_rfl, by kernel_rfl⟩ (fun wa6 ka6 ba6 => (q04Plain_any _ q k wa6 (hin.kp (Kp.of (U := UU) ba6)) (by omega)).mono ?_)
      rintro e w6 ⟨r6, rfl, q6, hb6⟩
      obtain ⟨s6, p6, n6, c6, t6, y6, m6, d6, rfl⟩ := q6.form
      refine ⟨_, rfl, hb6, fun kb6 _ bb6 => wV rfl ?_⟩
      (repeat (first | refine wN ?_ | refine wQ ?_ | refine cx_r rfl ?_ | refine cx_d (by kernel_rfl) rfl ?_ | refine wO rfl rfl ?_ | refine wT rfl ?_ | refine wF rfl ?_ | refine wB ?_ | refine wK ?_ | refine wE rfl ?_ | refine wS ?_))
      refine VS.back (N - (i + 1)) (by omega) ⟨_, _, ?_, ?_, ?_, ?_, ⟨i + 1, s6, p6, n6, c6, t6, y6, m6, d6, by omega, rfl, rfl, rfl, by rw [hsn]; exact q6, by rw [hsn]; exact hin.sz1⟩⟩
      · exact ⟨rfl, congrArg (fun z => some (AV.val (.int .i64 z))) hwi, rfl, rfl, trivial⟩
      · (repeat (first | exact trivial | refine ⟨rfl, ?_⟩))
      · rfl
      · (repeat (first | exact trivial | refine ⟨ClosedC.lit rfl, ?_⟩ | refine ⟨ClosedC.vals _, ?_⟩))
  · refine VS.condN rfl (decide_eq_false (by omega)) ?_
    (repeat (first | refine wN ?_ | refine wQ ?_ | refine cx_r rfl ?_ | refine cx_d (by kernel_rfl) rfl ?_ | refine wO rfl rfl ?_ | refine wT rfl ?_ | refine wF rfl ?_ | refine wB ?_ | refine wK ?_ | refine wE rfl ?_ | refine wS ?_))
    refine VS.ret (cx_ok _ _) rfl rfl (fun wz kz bz => ?_)
    obtain rfl : i = N := by omega
    rw [List.take_of_length_le (by omega)] at ho hz
    exact ⟨_, rfl, ho.kp kz, hz, bz⟩
end Go.Proofs.YtppfcobomaaceaaGreat
