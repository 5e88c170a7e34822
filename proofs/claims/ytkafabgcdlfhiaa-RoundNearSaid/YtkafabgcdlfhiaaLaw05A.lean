/- What the small functions of the statements about rounding compute: of, few, num, ref, same, is. -/
import Derived.Test.YtkafabgcdlfhiaaRoundA
import Derived.Test.YtkafabgcdlfhiaaRef05
set_option linter.all false
namespace Go.Proofs.Ytkafabgcdlfhiaa
open Go.RowKit
attribute [local irreducible] vcOps VS

theorem of05_any (n d : Int) (w : World) (h0 : -9223372036854775808 ≤ n) (h1 : n ≤ 9223372036854775807) (h2 : -9223372036854775808 ≤ d) (h3 : d ≤ 9223372036854775807) :
    Calls Try.prog 14 #[.int .i64 n, .int .i64 d] w fun e w' => ∃ r, e = .returned r ∧ RatOwn w' w.heap.size r (Rat.divInt n d) ∧ Beh w w' := by
  refine calm_enter (C := cxOf Try.prog w _) (args := [_, _]) Try.func14 rfl Try.ntmps14 (Nat.le_of_ble_eq_true rfl) ?_
  (repeat (first | refine wN ?_ | refine wP rfl ?_ | refine cx_r rfl ?_ | refine cx_d (by kernel_rfl) rfl ?_ | refine wO rfl rfl ?_))
  refine VO.call rfl rfl (fk Try.func39) (fun wa1 ka1 ba1 => (ratOf_any n d wa1 h0 h1 h2 h3).mono ?_)
  rintro e w1 ⟨r1, rfl, q1, hb1⟩
  obtain ⟨s1, p1, n1, c1, t1, y1, m1, d1, rfl⟩ := q1.form
  refine ⟨_, rfl, hb1, fun kb1 _ bb1 => wV rfl ?_⟩
  (repeat (first | refine wN ?_ | refine wP rfl ?_ | refine cx_r rfl ?_ | refine cx_d (by kernel_rfl) rfl ?_ | refine wO rfl rfl ?_))
  refine VS.ret (cx_ok _ _) rfl rfl (fun wz kz bz => ?_)
  exact ⟨_, rfl, (q1.kp kz).mono ba1.size, bz⟩
theorem few05_any (s t : Bool) (xs ys : List Nat) (v : Value) (n : Nat) (w : World) (h : RatRaw w v s xs t ys) :
    Calls Try.prog 4 #[v, .int .i64 (n : Int)] w fun e w' => e = .returned (.bool (decide (xs.length ≤ n ∧ ys.length ≤ n))) ∧ Beh w w' := by
  obtain ⟨p, c, r, d, rfl, _, _⟩ := h
  refine calm_enter (C := cxOf Try.prog w _) (args := [_, _]) Try.func4 rfl Try.ntmps4 (Nat.le_of_ble_eq_true rfl) ?_
  (repeat (first | refine wN ?_ | refine wP rfl ?_ | refine cx_r rfl ?_ | refine cx_d (by kernel_rfl) rfl ?_ | refine wO rfl rfl ?_))
  by_cases hx : xs.length ≤ n
  · refine VO.fix 11 rfl (congrArg (fun b => AV.val (.bool b)) (decide_eq_true (Int.ofNat_le.2 hx))) ?_
    (repeat (first | refine wN ?_ | refine wP rfl ?_ | refine cx_r rfl ?_ | refine cx_d (by kernel_rfl) rfl ?_ | refine wO rfl rfl ?_))
    refine VS.ret (cx_ok _ _) rfl rfl (fun wz kz bz => ?_)
    refine ⟨congrArg (fun b => Ending.returned (.bool b)) ?_, bz⟩
    by_cases hy : ys.length ≤ n
    · rw [decide_eq_true (Int.ofNat_le.2 hy), decide_eq_true ⟨hx, hy⟩]
    · rw [decide_eq_false (fun e => hy (Int.ofNat_le.1 e)), decide_eq_false (fun e => hy e.2)]
  · refine VO.fix 11 rfl (congrArg (fun b => AV.val (.bool b)) (decide_eq_false (fun e => hx (Int.ofNat_le.1 e)))) ?_
    (repeat (first | refine wN ?_ | refine wP rfl ?_ | refine cx_r rfl ?_ | refine cx_d (by kernel_rfl) rfl ?_ | refine wO rfl rfl ?_))
    refine VS.ret (cx_ok _ _) rfl rfl (fun wz kz bz => ?_)
    exact ⟨by rw [decide_eq_false (fun e => hx e.1)]; rfl, bz⟩
theorem NumAt.form' {w : World} {v : Value} {s : Bool} {xs : List Nat} (h : NumAt w v s xs) : ∃ p c, v = .agg #[.bool s, .slice p xs.length c] ∧ True := by
  obtain ⟨p, c, rfl, _⟩ := h
  exact ⟨_, _, rfl, trivial⟩
theorem icmp_self (X : Int) : icmp X X = 0 := by unfold icmp; rw [Int.sub_self]; rfl
end Go.Proofs.Ytkafabgcdlfhiaa
