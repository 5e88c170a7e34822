/- What the reference's functions over rows of fractions compute: Sum, Product, Min, Max. -/
import Derived.Test.YtofdiijioejljaaGreatRef04A
set_option linter.all false
set_option maxRecDepth 4000
namespace Go.Proofs.YtofdiijioejljaaGreat
open Go.RowKit
attribute [local irreducible] vcOps VS


set_option maxHeartbeats 1000000 in
theorem q04Min_any (v : Value) (q0 : Rat) (qs : List Rat) (k : Nat) (w : World) (hv : RatsIn w v (q0 :: qs) k) (hk : k ≤ 33554431) (hlen : qs.length < 9223372036854775806) :
  Calls Tryz.prog 84 #[v] w fun e w' => ∃ x, e = .returned x ∧ RatRd w' x (rbest rless q0 qs) ∧ RSz (rbest rless q0 qs) (up1 k) ∧ Beh w w' := by
 obtain ⟨p, c, rfl, hnc, hcm⟩ := hv.form
 obtain ⟨N, hN⟩ : ∃ N, N = qs.length := ⟨_, rfl⟩
 rw [List.length_cons] at hnc
 rw [← hN] at hlen hnc
 have hv' := hv
 rw [show (q0 :: qs).length = N + 1 by rw [List.length_cons, hN]] at hv ⊢
 obtain ⟨b, off, s0, p0, n0, c0, t0, r0, m0, d0, rfl, hc0, hin0⟩ := hv.at (i := 0) (q := q0) rfl
 have zk : up1 k ≤ 33554431 := by unfold up1; omega
 refine calm_enter (C := cxOf Tryz.prog w _) (args := [_]) Tryz.func84 rfl Tryz.ntmps84 (Nat.le_of_ble_eq_true rfl) ?_
 (repeat first|refine wN ?_|refine wP rfl ?_|refine cx_r rfl ?_|refine cx_d rfl ?_|refine wO rfl rfl ?_)
 refine VO.cond rfl ⟨by omega, by omega⟩ (wV rfl ?_)
 refine VO.read rfl [.bool s0, .slice p0 n0 c0, .bool t0, .slice r0 m0 d0] rfl (fun j u hj => by rw [Addr.add_mid]; exact hc0 j u hj) (wV rfl ?_)
 (repeat first|refine wN ?_|refine wP rfl ?_|refine cx_r rfl ?_|refine cx_d rfl ?_|refine wO rfl rfl ?_)
 refine VO.call rfl rfl (fk Tryz.func80) (fun wa1 ka1 ba1 => (q04Plain_any _ q0 k wa1 (hin0.kp (Kp.of (U := UU) ba1)) (by omega)).mono ?_)
 rintro e w1 ⟨r1, rfl, q1, hb1⟩
 obtain ⟨s1, p1, n1, c1, t1, y1, m1, d1, rfl⟩ := q1.form
 refine ⟨_, rfl, hb1, fun kb1 _ bb1 => wV rfl ?_⟩
 (repeat first|refine wN ?_|refine wP rfl ?_|refine cx_r rfl ?_|refine cx_d rfl ?_|refine wO rfl rfl ?_)
 refine VS.loop (J := fun n' L M w' => ∃ i s p' n c' t r m d, i ≤ N ∧ n' = N - i ∧ L = [(0, .val (.slice (some ⟨b, off, none⟩) (N + 1) c)), (4, .val (.int .i64 ((i + 1 : Nat) : Int))), (3, .box 3 0), (2, .box 2 0)] ∧
  M = [(2, (35, ([.bool false, .slice none 0 0, .bool false, .slice none 0 0] : List Value).map .val)), (3, (35, ([.bool s, .slice p' n c', .bool t, .slice r m d] : List Value).map .val))] ∧ RatRd w' (.agg #[.bool s, .slice p' n c', .bool t, .slice r m d]) (rbest rless q0 (qs.take i)) ∧ RSz (rbest rless q0 (qs.take i)) (up1 k)) N ⟨_, _, ?_, ?_, ?_, ?_, ⟨0, s1, p1, n1, c1, t1, y1, m1, d1, by omega, by omega, rfl, rfl, q1, hin0.sz1⟩⟩ ?_
 ·(repeat first|exact trivial|refine ⟨rfl, ?_⟩)
 ·(repeat first|exact trivial|refine ⟨rfl, ?_⟩)
 ·rfl
 ·(repeat first|exact trivial|refine ⟨ClosedC.lit rfl, ?_⟩|refine ⟨ClosedC.vals _, ?_⟩)
 rintro n' L M w' ⟨i, s, p', n, c', t, r, m, d, hi, rfl, rfl, rfl, ho, hz⟩
 have hwi : IntKind.i64.wrap (((i + 1 : Nat) : Int) + 1) = ((i + 1 + 1 : Nat) : Int) := nat_step (by omega)
 (repeat first|refine wN ?_|refine wP rfl ?_|refine cx_r rfl ?_|refine cx_d rfl ?_|refine wO rfl rfl ?_)
 by_cases hlt : i < N
 ·obtain ⟨q, hq⟩ : ∃ q, qs[i]? = some q := ⟨_, List.getElem?_eq_getElem (by omega)⟩
  obtain ⟨b', off', s2, p2, n2, c2, t2, r2, m2, d2, hbo, hc, hin⟩ := hv.at (i := i + 1) (q := q) (by simpa using hq)
  cases hbo
  refine VS.condY rfl (decide_eq_true (by omega)) ?_
  (repeat first|refine wN ?_|refine wP rfl ?_|refine cx_r rfl ?_|refine cx_d rfl ?_|refine wO rfl rfl ?_)
  refine VO.cond rfl ⟨by omega, by omega⟩ (wV rfl ?_)
  refine VO.read rfl [.bool s2, .slice p2 n2 c2, .bool t2, .slice r2 m2 d2] rfl (fun j u hj => by rw [Addr.add_mid, Int.toNat_natCast]; exact hc j u hj) (wV rfl ?_)
  (repeat first|refine wN ?_|refine wP rfl ?_|refine cx_r rfl ?_|refine cx_d rfl ?_|refine wO rfl rfl ?_)
  refine VO.call rfl rfl (fk Tryz.func50) (fun wa5 ka5 ba5 => (q04Cmp_any _ _ q (rbest rless q0 (qs.take i)) k (up1 k) wa5 (hin.kp (Kp.of (U := UU) ba5)) ((ho.kp ka5).to hz) hk zk).mono ?_)
  rintro e w5 ⟨rfl, hb5⟩
  skip
  refine ⟨_, rfl, hb5, fun kb5 _ bb5 => wV rfl ?_⟩
  (repeat first|refine wN ?_|refine wP rfl ?_|refine cx_r rfl ?_|refine cx_d rfl ?_|refine wO rfl rfl ?_)
  have hsn := rbest_snoc (better := rless) (x := q0) hq
  cases hbt : rless q (rbest rless q0 (qs.take i))
  ·rw [hbt] at hsn
   refine VS.condN rfl hbt ?_
   (repeat first|refine wN ?_|refine wP rfl ?_|refine cx_r rfl ?_|refine cx_d rfl ?_|refine wO rfl rfl ?_)
   refine VS.back (N - (i + 1)) (by omega) ⟨_, _, ?_, ?_, ?_, ?_, ⟨i + 1, s, p', n, c', t, r, m, d, by omega, rfl, rfl, rfl, by rw [hsn]; exact ho.kp kb5, by rw [hsn]; exact hz⟩⟩
   ·exact ⟨rfl, congrArg (fun z => some (AV.val (.int .i64 z))) hwi, rfl, rfl, trivial⟩
   ·(repeat first|exact trivial|refine ⟨rfl, ?_⟩)
   ·rfl
   ·(repeat first|exact trivial|refine ⟨ClosedC.lit rfl, ?_⟩|refine ⟨ClosedC.vals _, ?_⟩)
  ·rw [hbt] at hsn
   refine VS.condY rfl hbt ?_
   (repeat first|refine wN ?_|refine wP rfl ?_|refine cx_r rfl ?_|refine cx_d rfl ?_|refine wO rfl rfl ?_)
   refine VO.cond rfl ⟨by omega, by omega⟩ (wV rfl ?_)
   refine VO.read rfl [.bool s2, .slice p2 n2 c2, .bool t2, .slice r2 m2 d2] rfl (fun j u hj => by rw [Addr.add_mid, Int.toNat_natCast]; exact hc j u hj) (wV rfl ?_)
   (repeat first|refine wN ?_|refine wP rfl ?_|refine cx_r rfl ?_|refine cx_d rfl ?_|refine wO rfl rfl ?_)
   refine VO.call rfl rfl (fk Tryz.func80) (fun wa6 ka6 ba6 => (q04Plain_any _ q k wa6 (hin.kp (Kp.of (U := UU) ba6)) (by omega)).mono ?_)
   rintro e w6 ⟨r6, rfl, q6, hb6⟩
   obtain ⟨s6, p6, n6, c6, t6, y6, m6, d6, rfl⟩ := q6.form
   refine ⟨_, rfl, hb6, fun kb6 _ bb6 => wV rfl ?_⟩
   (repeat first|refine wN ?_|refine wP rfl ?_|refine cx_r rfl ?_|refine cx_d rfl ?_|refine wO rfl rfl ?_)
   refine VS.back (N - (i + 1)) (by omega) ⟨_, _, ?_, ?_, ?_, ?_, ⟨i + 1, s6, p6, n6, c6, t6, y6, m6, d6, by omega, rfl, rfl, rfl, by rw [hsn]; exact q6, by rw [hsn]; exact hin.sz1⟩⟩
   ·exact ⟨rfl, congrArg (fun z => some (AV.val (.int .i64 z))) hwi, rfl, rfl, trivial⟩
   ·(repeat first|exact trivial|refine ⟨rfl, ?_⟩)
   ·rfl
   ·(repeat first|exact trivial|refine ⟨ClosedC.lit rfl, ?_⟩|refine ⟨ClosedC.vals _, ?_⟩)
 ·refine VS.condN rfl (decide_eq_false (by omega)) ?_
  (repeat first|refine wN ?_|refine wP rfl ?_|refine cx_r rfl ?_|refine cx_d rfl ?_|refine wO rfl rfl ?_)
  refine VS.ret (cx_ok _ _) rfl rfl (fun wz kz bz => ?_)
  obtain rfl : i = N := by omega
  rw [List.take_of_length_le (by omega)] at ho hz
  exact ⟨_, rfl, ho.kp kz, hz, bz⟩

set_option maxHeartbeats 1000000 in
theorem q04Max_any (v : Value) (q0 : Rat) (qs : List Rat) (k : Nat) (w : World) (hv : RatsIn w v (q0 :: qs) k) (hk : k ≤ 33554431) (hlen : qs.length < 9223372036854775806) :
  Calls Tryz.prog 85 #[v] w fun e w' => ∃ x, e = .returned x ∧ RatRd w' x (rbest rmore q0 qs) ∧ RSz (rbest rmore q0 qs) (up1 k) ∧ Beh w w' := by
 obtain ⟨p, c, rfl, hnc, hcm⟩ := hv.form
 obtain ⟨N, hN⟩ : ∃ N, N = qs.length := ⟨_, rfl⟩
 rw [List.length_cons] at hnc
 rw [← hN] at hlen hnc
 have hv' := hv
 rw [show (q0 :: qs).length = N + 1 by rw [List.length_cons, hN]] at hv ⊢
 obtain ⟨b, off, s0, p0, n0, c0, t0, r0, m0, d0, rfl, hc0, hin0⟩ := hv.at (i := 0) (q := q0) rfl
 have zk : up1 k ≤ 33554431 := by unfold up1; omega
 refine calm_enter (C := cxOf Tryz.prog w _) (args := [_]) Tryz.func85 rfl Tryz.ntmps85 (Nat.le_of_ble_eq_true rfl) ?_
 (repeat first|refine wN ?_|refine wP rfl ?_|refine cx_r rfl ?_|refine cx_d rfl ?_|refine wO rfl rfl ?_)
 refine VO.cond rfl ⟨by omega, by omega⟩ (wV rfl ?_)
 refine VO.read rfl [.bool s0, .slice p0 n0 c0, .bool t0, .slice r0 m0 d0] rfl (fun j u hj => by rw [Addr.add_mid]; exact hc0 j u hj) (wV rfl ?_)
 (repeat first|refine wN ?_|refine wP rfl ?_|refine cx_r rfl ?_|refine cx_d rfl ?_|refine wO rfl rfl ?_)
 refine VO.call rfl rfl (fk Tryz.func80) (fun wa1 ka1 ba1 => (q04Plain_any _ q0 k wa1 (hin0.kp (Kp.of (U := UU) ba1)) (by omega)).mono ?_)
 rintro e w1 ⟨r1, rfl, q1, hb1⟩
 obtain ⟨s1, p1, n1, c1, t1, y1, m1, d1, rfl⟩ := q1.form
 refine ⟨_, rfl, hb1, fun kb1 _ bb1 => wV rfl ?_⟩
 (repeat first|refine wN ?_|refine wP rfl ?_|refine cx_r rfl ?_|refine cx_d rfl ?_|refine wO rfl rfl ?_)
 refine VS.loop (J := fun n' L M w' => ∃ i s p' n c' t r m d, i ≤ N ∧ n' = N - i ∧ L = [(0, .val (.slice (some ⟨b, off, none⟩) (N + 1) c)), (4, .val (.int .i64 ((i + 1 : Nat) : Int))), (3, .box 3 0), (2, .box 2 0)] ∧
  M = [(2, (35, ([.bool false, .slice none 0 0, .bool false, .slice none 0 0] : List Value).map .val)), (3, (35, ([.bool s, .slice p' n c', .bool t, .slice r m d] : List Value).map .val))] ∧ RatRd w' (.agg #[.bool s, .slice p' n c', .bool t, .slice r m d]) (rbest rmore q0 (qs.take i)) ∧ RSz (rbest rmore q0 (qs.take i)) (up1 k)) N ⟨_, _, ?_, ?_, ?_, ?_, ⟨0, s1, p1, n1, c1, t1, y1, m1, d1, by omega, by omega, rfl, rfl, q1, hin0.sz1⟩⟩ ?_
 ·(repeat first|exact trivial|refine ⟨rfl, ?_⟩)
 ·(repeat first|exact trivial|refine ⟨rfl, ?_⟩)
 ·rfl
 ·(repeat first|exact trivial|refine ⟨ClosedC.lit rfl, ?_⟩|refine ⟨ClosedC.vals _, ?_⟩)
 rintro n' L M w' ⟨i, s, p', n, c', t, r, m, d, hi, rfl, rfl, rfl, ho, hz⟩
 have hwi : IntKind.i64.wrap (((i + 1 : Nat) : Int) + 1) = ((i + 1 + 1 : Nat) : Int) := nat_step (by omega)
 (repeat first|refine wN ?_|refine wP rfl ?_|refine cx_r rfl ?_|refine cx_d rfl ?_|refine wO rfl rfl ?_)
 by_cases hlt : i < N
 ·obtain ⟨q, hq⟩ : ∃ q, qs[i]? = some q := ⟨_, List.getElem?_eq_getElem (by omega)⟩
  obtain ⟨b', off', s2, p2, n2, c2, t2, r2, m2, d2, hbo, hc, hin⟩ := hv.at (i := i + 1) (q := q) (by simpa using hq)
  cases hbo
  refine VS.condY rfl (decide_eq_true (by omega)) ?_
  (repeat first|refine wN ?_|refine wP rfl ?_|refine cx_r rfl ?_|refine cx_d rfl ?_|refine wO rfl rfl ?_)
  refine VO.cond rfl ⟨by omega, by omega⟩ (wV rfl ?_)
  refine VO.read rfl [.bool s2, .slice p2 n2 c2, .bool t2, .slice r2 m2 d2] rfl (fun j u hj => by rw [Addr.add_mid, Int.toNat_natCast]; exact hc j u hj) (wV rfl ?_)
  (repeat first|refine wN ?_|refine wP rfl ?_|refine cx_r rfl ?_|refine cx_d rfl ?_|refine wO rfl rfl ?_)
  refine VO.call rfl rfl (fk Tryz.func50) (fun wa5 ka5 ba5 => (q04Cmp_any _ _ q (rbest rmore q0 (qs.take i)) k (up1 k) wa5 (hin.kp (Kp.of (U := UU) ba5)) ((ho.kp ka5).to hz) hk zk).mono ?_)
  rintro e w5 ⟨rfl, hb5⟩
  skip
  refine ⟨_, rfl, hb5, fun kb5 _ bb5 => wV rfl ?_⟩
  (repeat first|refine wN ?_|refine wP rfl ?_|refine cx_r rfl ?_|refine cx_d rfl ?_|refine wO rfl rfl ?_)
  have hsn := rbest_snoc (better := rmore) (x := q0) hq
  cases hbt : rmore q (rbest rmore q0 (qs.take i))
  ·rw [hbt] at hsn
   refine VS.condN rfl hbt ?_
   (repeat first|refine wN ?_|refine wP rfl ?_|refine cx_r rfl ?_|refine cx_d rfl ?_|refine wO rfl rfl ?_)
   refine VS.back (N - (i + 1)) (by omega) ⟨_, _, ?_, ?_, ?_, ?_, ⟨i + 1, s, p', n, c', t, r, m, d, by omega, rfl, rfl, rfl, by rw [hsn]; exact ho.kp kb5, by rw [hsn]; exact hz⟩⟩
   ·exact ⟨rfl, congrArg (fun z => some (AV.val (.int .i64 z))) hwi, rfl, rfl, trivial⟩
   ·(repeat first|exact trivial|refine ⟨rfl, ?_⟩)
   ·rfl
   ·(repeat first|exact trivial|refine ⟨ClosedC.lit rfl, ?_⟩|refine ⟨ClosedC.vals _, ?_⟩)
  ·rw [hbt] at hsn
   refine VS.condY rfl hbt ?_
   (repeat first|refine wN ?_|refine wP rfl ?_|refine cx_r rfl ?_|refine cx_d rfl ?_|refine wO rfl rfl ?_)
   refine VO.cond rfl ⟨by omega, by omega⟩ (wV rfl ?_)
   refine VO.read rfl [.bool s2, .slice p2 n2 c2, .bool t2, .slice r2 m2 d2] rfl (fun j u hj => by rw [Addr.add_mid, Int.toNat_natCast]; exact hc j u hj) (wV rfl ?_)
   (repeat first|refine wN ?_|refine wP rfl ?_|refine cx_r rfl ?_|refine cx_d rfl ?_|refine wO rfl rfl ?_)
   refine VO.call rfl rfl (fk Tryz.func80) (fun wa6 ka6 ba6 => (q04Plain_any _ q k wa6 (hin.kp (Kp.of (U := UU) ba6)) (by omega)).mono ?_)
   rintro e w6 ⟨r6, rfl, q6, hb6⟩
   obtain ⟨s6, p6, n6, c6, t6, y6, m6, d6, rfl⟩ := q6.form
   refine ⟨_, rfl, hb6, fun kb6 _ bb6 => wV rfl ?_⟩
   (repeat first|refine wN ?_|refine wP rfl ?_|refine cx_r rfl ?_|refine cx_d rfl ?_|refine wO rfl rfl ?_)
   refine VS.back (N - (i + 1)) (by omega) ⟨_, _, ?_, ?_, ?_, ?_, ⟨i + 1, s6, p6, n6, c6, t6, y6, m6, d6, by omega, rfl, rfl, rfl, by rw [hsn]; exact q6, by rw [hsn]; exact hin.sz1⟩⟩
   ·exact ⟨rfl, congrArg (fun z => some (AV.val (.int .i64 z))) hwi, rfl, rfl, trivial⟩
   ·(repeat first|exact trivial|refine ⟨rfl, ?_⟩)
   ·rfl
   ·(repeat first|exact trivial|refine ⟨ClosedC.lit rfl, ?_⟩|refine ⟨ClosedC.vals _, ?_⟩)
 ·refine VS.condN rfl (decide_eq_false (by omega)) ?_
  (repeat first|refine wN ?_|refine wP rfl ?_|refine cx_r rfl ?_|refine cx_d rfl ?_|refine wO rfl rfl ?_)
  refine VS.ret (cx_ok _ _) rfl rfl (fun wz kz bz => ?_)
  obtain rfl : i = N := by omega
  rw [List.take_of_length_le (by omega)] at ho hz
  exact ⟨_, rfl, ho.kp kz, hz, bz⟩
end Go.Proofs.YtofdiijioejljaaGreat
