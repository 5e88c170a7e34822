/- What the small functions of the statements about rounding compute: of, few, num, ref, same, is. -/
import Derived.Test.YtkafabgcdlfhiaaGreatRoundA
import Derived.Test.YtkafabgcdlfhiaaGreatRef05
set_option linter.all false
namespace Go.Proofs.YtkafabgcdlfhiaaGreat
open Go.RowKit
attribute [local irreducible] vcOps VS

theorem of05_any (n d : Int) (w : World) (h0 : -9223372036854775808 ≤ n) (h1 : n ≤ 9223372036854775807) (h2 : -9223372036854775808 ≤ d) (h3 : d ≤ 9223372036854775807) :
    Calls Tryz.prog 86 #[.int .i64 n, .int .i64 d] w fun e w' => ∃ r, e = .returned r ∧ RatOwn w' w.heap.size r (Rat.divInt n d) ∧ Beh w w' := by
  refine calm_enter (C := cxOf Tryz.prog w _) (args := [_, _]) Tryz.func86 rfl Tryz.ntmps86 (Nat.le_of_ble_eq_true rfl) ?_
  (repeat (first | refine wN ?_ | refine wP rfl ?_ | refine cx_r rfl ?_ | refine cx_d (by kernel_rfl) rfl ?_ | refine wO rfl rfl ?_))
  refine VO.call rfl rfl (fk Tryz.func158) (fun wa1 ka1 ba1 => (ratOf_any n d wa1 h0 h1 h2 h3).mono ?_)
  rintro e w1 ⟨r1, rfl, q1, hb1⟩
  obtain ⟨s1, p1, n1, c1, t1, y1, m1, d1, rfl⟩ := q1.form
  refine ⟨_, rfl, hb1, fun kb1 _ bb1 => wV rfl ?_⟩
  (repeat (first | refine wN ?_ | refine wP rfl ?_ | refine cx_r rfl ?_ | refine cx_d (by kernel_rfl) rfl ?_ | refine wO rfl rfl ?_))
  refine VS.ret (cx_ok _ _) rfl rfl (fun wz kz bz => ?_)
  exact ⟨_, rfl, (q1.kp kz).mono ba1.size, bz⟩
theorem few05_any (s t : Bool) (xs ys : List Nat) (v : Value) (n : Nat) (w : World) (h : RatRaw w v s xs t ys) :
    Calls Tryz.prog 46 #[v, .int .i64 (n : Int)] w fun e w' => e = .returned (.bool (decide (xs.length ≤ n ∧ ys.length ≤ n))) ∧ Beh w w' := by
  obtain ⟨p, c, r, d, rfl, _, _⟩ := h
  refine calm_enter (C := cxOf Tryz.prog w _) (args := [_, _]) Tryz.func46 rfl Tryz.ntmps46 (Nat.le_of_ble_eq_true rfl) ?_
  (repeat (first | refine wN ?_ | refine wP rfl ?_ | refine cx_r rfl ?_ | refine cx_d (by kernel_rfl) rfl ?_ | refine wO rfl rfl ?_))
  by_cases hx : xs.length ≤ n
  · refine VO.fix 11 rfl (congrArg (fun b => AV.val (.bool b)) (decide_eq_true (Int.ofNat_le.2 hx))) ?_
    (repeat (first | refine wN ?_ | refine wP rfl ?_ | refine cx_r rfl ?_ | refine cx_d (by kernel_rfl) rfl ?_ | refine wO rfl rfl ?_))
    refine VS.ret (cx_ok _ _) rfl rfl (fun wz kz bz => ?_)
    refine ⟨congrArg (fun b => Ending.returned (.bool b)) ?_, bz⟩
    by_cases hy : ys.length ≤ n
    · rw [decide_eq_true (Int.ofNat_le.2 hy), decide_eq_true ⟨hx, hy⟩]
    · rw [decide_eq_false (fun e => hy (Int.ofNat_le.1 e)), decide_eq_false (fun e => hy e.2)]
  · refine VO.fix 11 rfl (congrArg (fun b => AV.val (.bool b)) (decide_eq_false (fun e => hx (Int.ofNat_le.1 e)))) ?_
    (repeat (first | refine wN ?_ | refine wP rfl ?_ | refine cx_r rfl ?_ | refine cx_d (by kernel_rfl) rfl ?_ | refine wO rfl rfl ?_))
    refine VS.ret (cx_ok _ _) rfl rfl (fun wz kz bz => ?_)
    exact ⟨by rw [decide_eq_false (fun e => hx e.1)]; rfl, bz⟩
theorem num05_any (s : Bool) (xs : List Nat) (v : Value) (w : World) (hv : NumAt w v s xs) (hx : xs.length ≤ 1073741824) :
    Calls Tryz.prog 125 #[v] w fun e w' => ∃ r, e = .returned r ∧ NumAt w' r s xs ∧ Beh w w' := by
  obtain ⟨p, c, rfl, hr, hl⟩ := hv
  refine calm_enter (C := cxOf Tryz.prog w _) (args := [_]) Tryz.func125 rfl Tryz.ntmps125 (Nat.le_of_ble_eq_true rfl) ?_
  (repeat (first | refine wN ?_ | refine wP rfl ?_ | refine cx_r rfl ?_ | refine cx_d (by kernel_rfl) rfl ?_ | refine wO rfl rfl ?_))
  refine VO.appU (cx_ok _ _) (t := 23) (e := 83) (n := xs.length) (news := ints .u32 xs) rfl rfl rfl rfl rfl (ints_one .u32 xs) (by omega) (fun w1 k1 b1 => hr.below b1) (fun w2 p2 c2 k2 b2 ho => wV rfl ?_)
  (repeat (first | refine wN ?_ | refine wP rfl ?_ | refine cx_r rfl ?_ | refine cx_d (by kernel_rfl) rfl ?_ | refine wO rfl rfl ?_))
  refine VS.ret (cx_ok _ _) rfl rfl (fun wz kz bz => ?_)
  exact ⟨_, rfl, ⟨_, _, rfl, (Rd.own ho).kp kz, hl⟩, bz⟩
theorem NumAt.form' {w : World} {v : Value} {s : Bool} {xs : List Nat} (h : NumAt w v s xs) : ∃ p c, v = .agg #[.bool s, .slice p xs.length c] ∧ True := by
  obtain ⟨p, c, rfl, _⟩ := h
  exact ⟨_, _, rfl, trivial⟩
theorem ref05_any (s t : Bool) (xs ys : List Nat) (v : Value) (w : World) (h : RatRaw w v s xs t ys) (hx : xs.length ≤ 1073741824) (hy : ys.length ≤ 1073741824) :
    Calls Tryz.prog 48 #[v] w fun e w' => ∃ r, e = .returned r ∧ RatRaw w' r s xs t ys ∧ Beh w w' := by
  obtain ⟨p, c, r, d, rfl, h1, h2⟩ := h
  refine calm_enter (C := cxOf Tryz.prog w _) (args := [_]) Tryz.func48 rfl Tryz.ntmps48 (Nat.le_of_ble_eq_true rfl) ?_
  (repeat (first | refine wN ?_ | refine wP rfl ?_ | refine cx_r rfl ?_ | refine cx_d (by kernel_rfl) rfl ?_ | refine wO rfl rfl ?_))
  refine VO.call rfl rfl (fk Tryz.func125) (fun wa1 ka1 ba1 => (num05_any s xs _ wa1 (h1.beh ba1) hx).mono ?_)
  rintro e w1 ⟨r1, rfl, q1, hb1⟩
  obtain ⟨p1, c1, rfl, q1r⟩ := q1.form'
  refine ⟨_, rfl, hb1, fun kb1 _ bb1 => wV rfl ?_⟩
  (repeat (first | refine wN ?_ | refine wP rfl ?_ | refine cx_r rfl ?_ | refine cx_d (by kernel_rfl) rfl ?_ | refine wO rfl rfl ?_))
  refine VO.call rfl rfl (fk Tryz.func125) (fun wa2 ka2 ba2 => (num05_any t ys _ wa2 (h2.beh ba2) hy).mono ?_)
  rintro e w2 ⟨r2, rfl, q2, hb2⟩
  obtain ⟨p2, c2, rfl, q2r⟩ := q2.form'
  refine ⟨_, rfl, hb2, fun kb2 _ bb2 => wV rfl ?_⟩
  (repeat (first | refine wN ?_ | refine wP rfl ?_ | refine cx_r rfl ?_ | refine cx_d (by kernel_rfl) rfl ?_ | refine wO rfl rfl ?_))
  refine VS.ret (cx_ok _ _) rfl rfl (fun wz kz bz => ?_)
  exact ⟨_, rfl, ⟨_, _, _, _, rfl, q1.kp (kb2.thn kz), q2.kp kz⟩, bz⟩
theorem icmp_self (X : Int) : icmp X X = 0 := by unfold icmp; rw [Int.sub_self]; rfl
theorem same05_any (X : Int) (v u : Value) (j k : Nat) (w : World) (hv : IntRd w v X) (hs : Sz X j) (hu : IntIn w u X k) (hj : j ≤ 1073741824) (hk : k ≤ 1073741824) :
    Calls Tryz.prog 51 #[v, u] w fun e w' => e = .returned (.bool true) ∧ Beh w w' := by
  obtain ⟨s, p, n, c, rfl⟩ := hu.form
  obtain ⟨s', p', n', c', rfl⟩ := hv.form4
  refine calm_enter (C := cxOf Tryz.prog w _) (args := [_, _]) Tryz.func51 rfl Tryz.ntmps51 (Nat.le_of_ble_eq_true rfl) ?_
  (repeat (first | refine wN ?_ | refine wP rfl ?_ | refine cx_r rfl ?_ | refine cx_d (by kernel_rfl) rfl ?_ | refine wO rfl rfl ?_))
  refine VO.call rfl rfl (fk Tryz.func105) (fun wa1 ka1 ba1 => (bright_any _ _ _ wa1 (hv.k)).mono ?_)
  rintro e w1 ⟨rfl, hb1⟩
  rw [nright_canon]
  refine ⟨_, rfl, hb1, fun kb1 _ bb1 => wV rfl ?_⟩
  (repeat (first | refine wN ?_ | refine wP rfl ?_ | refine cx_r rfl ?_ | refine cx_d (by kernel_rfl) rfl ?_ | refine wO rfl rfl ?_))
  refine VO.call rfl rfl (fk Tryz.func125) (fun wa2 ka2 ba2 => (num05_any _ _ _ wa2 (hv.k) (Nat.le_trans hs hj)).mono ?_)
  rintro e w2 ⟨r2, rfl, q2, hb2⟩
  obtain ⟨p2, c2, rfl, q2r⟩ := q2.form'
  refine ⟨_, rfl, hb2, fun kb2 _ bb2 => wV rfl ?_⟩
  (repeat (first | refine wN ?_ | refine wP rfl ?_ | refine cx_r rfl ?_ | refine cx_d (by kernel_rfl) rfl ?_ | refine wO rfl rfl ?_))
  refine VO.call rfl rfl (fk Tryz.func129) (fun wa3 ka3 ba3 => (rcmp_any _ _ X X j k wa3 (IntRd.ki (X := X) q2 hs) hu.k hj hk).mono ?_)
  rintro e w3 ⟨rfl, hb3⟩
  rw [icmp_self]
  refine ⟨_, rfl, hb3, fun kb3 _ bb3 => wV rfl ?_⟩
  (repeat (first | refine wN ?_ | refine wP rfl ?_ | refine cx_r rfl ?_ | refine cx_d (by kernel_rfl) rfl ?_ | refine wO rfl rfl ?_))
  refine VS.ret (cx_ok _ _) rfl rfl (fun wz kz bz => ?_)
  exact ⟨rfl, bz⟩
theorem is05_any (q : Rat) (v u : Value) (j k : Nat) (w : World) (hv : RatRd w v q) (hs : RSz q j) (hu : RatIn w u q k) (hj : j ≤ 33554431) (hk : k ≤ 33554431) :
    Calls Tryz.prog 64 #[v, u] w fun e w' => e = .returned (.bool true) ∧ Beh w w' := by
  obtain ⟨s, p, n, c, t, y, m, d, rfl⟩ := hu.form
  obtain ⟨s', p', n', c', t', y', m', d', rfl⟩ := hv.form
  refine calm_enter (C := cxOf Tryz.prog w _) (args := [_, _]) Tryz.func64 rfl Tryz.ntmps64 (Nat.le_of_ble_eq_true rfl) ?_
  (repeat (first | refine wN ?_ | refine wP rfl ?_ | refine cx_r rfl ?_ | refine cx_d (by kernel_rfl) rfl ?_ | refine wO rfl rfl ?_))
  refine VO.call rfl rfl (fk Tryz.func32) (fun wa1 ka1 ba1 => (ratRight_canon _ q j wa1 (hv.k) hs (by omega)).mono ?_)
  rintro e w1 ⟨rfl, hb1⟩
  skip
  refine ⟨_, rfl, hb1, fun kb1 _ bb1 => wV rfl ?_⟩
  (repeat (first | refine wN ?_ | refine wP rfl ?_ | refine cx_r rfl ?_ | refine cx_d (by kernel_rfl) rfl ?_ | refine wO rfl rfl ?_))
  refine VO.call rfl rfl (fk Tryz.func48) (fun wa2 ka2 ba2 => (ref05_any _ _ _ _ _ wa2 (hv.k).raw (Nat.le_trans hs.1 (by omega)) (Nat.le_trans hs.2 (by omega))).mono ?_)
  rintro e w2 ⟨r2, rfl, q2, hb2⟩
  obtain ⟨p2, c2, y2, d2, rfl, q2r⟩ := q2.form'
  refine ⟨_, rfl, hb2, fun kb2 _ bb2 => wV rfl ?_⟩
  (repeat (first | refine wN ?_ | refine wP rfl ?_ | refine cx_r rfl ?_ | refine cx_d (by kernel_rfl) rfl ?_ | refine wO rfl rfl ?_))
  refine VO.call rfl rfl (fk Tryz.func97) (fun wa3 ka3 ba3 => (q04Cmp_any _ _ q q j k wa3 ((RatRd.ofRaw q2).ki hs) hu.k hj hk).mono ?_)
  rintro e w3 ⟨rfl, hb3⟩
  rw [rcmp_eq rfl]
  refine ⟨_, rfl, hb3, fun kb3 _ bb3 => wV rfl ?_⟩
  (repeat (first | refine wN ?_ | refine wP rfl ?_ | refine cx_r rfl ?_ | refine cx_d (by kernel_rfl) rfl ?_ | refine wO rfl rfl ?_))
  refine VS.ret (cx_ok _ _) rfl rfl (fun wz kz bz => ?_)
  exact ⟨rfl, bz⟩
end Go.Proofs.YtkafabgcdlfhiaaGreat
