/- What Int64 of the numbers computes, of a number of at most one limb. -/
import Derived.Test.YtkafabgcdlfhiaaRep
set_option linter.all false
namespace Go.Proofs.Ytkafabgcdlfhiaa
open Go.RowKit

theorem one_limb {X : Int} (h : X.natAbs < 4294967296) : limbs X.natAbs = if X = 0 then [] else [X.natAbs] := by
  split
  · rename_i e; rw [e]; exact limbs_zero
  · rename_i e
    have := limbs_nval (xs := [X.natAbs]) (Lim.cons h Lim.nil) (fun x hx => by simp at hx; omega)
    rw [nval_cons, nval_nil] at this
    simpa using this
theorem u64_neg (a : Nat) (h : a < 4294967296) : IntKind.i64.wrap (IntKind.u64.wrap (0 - (a : Int))) = -(a : Int) := by
  rw [IntKind.wrap_i64, IntKind.wrap_u64]; omega
attribute [local irreducible] vcOps VS
set_option maxHeartbeats 2000000 in
set_option maxRecDepth 10000 in
theorem bInt64_any (v : Value) (X : Int) (k : Nat) (w : World) (hv : IntIn w v X k) (hX : X.natAbs < 4294967296) :
    Calls Try.prog 59 #[v] w fun e w' => e = .returned (.tuple #[.int .i64 X, .bool true]) ∧ Beh w w' := by
  obtain ⟨s, p, n, c, rfl⟩ := hv.form
  refine calm_enter (C := cxOf Try.prog w _) (args := [_]) Try.func59 rfl Try.ntmps59 (Nat.le_of_ble_eq_true rfl) ?_
  (repeat (first | refine wN ?_ | refine wP rfl ?_ | refine cx_r rfl ?_ | refine cx_d (by kernel_rfl) rfl ?_ | refine wO rfl rfl ?_))
  refine VO.call rfl rfl (fk Try.func48) (fun wa1 ka1 ba1 => (bof_any _ X k w wa1 hv ba1).mono ?_)
  rintro e w1 ⟨r1, rfl, q1, hb1⟩
  obtain ⟨s1, p1, n1, c1, rfl⟩ := q1.form4
  refine ⟨_, rfl, hb1, fun kb1 _ bb1 => wV rfl ?_⟩
  (repeat (first | refine wN ?_ | refine wP rfl ?_ | refine cx_r rfl ?_ | refine cx_d (by kernel_rfl) rfl ?_ | refine wO rfl rfl ?_))
  obtain ⟨hn1, hr1, -⟩ := q1.parts
  have hs1 := q1.sgn
  have hl := one_limb hX
  obtain ⟨a, ha⟩ : ∃ a, a = X.natAbs := ⟨_, rfl⟩
  rw [← ha] at hl hX
  have hn : n1 ≤ 1 ∧ (n1 = 0 → a = 0) := by
    rw [hn1, ← ha, hl]
    split
    · rename_i e; rw [e] at ha; exact ⟨by simp, fun _ => ha⟩
    · exact ⟨by simp, fun e => by simp at e⟩
  refine VS.condN rfl (decide_eq_false (show ¬ (n1 : Int) > 2 by omega)) ?_
  (repeat (first | refine wN ?_ | refine wP rfl ?_ | refine cx_r rfl ?_ | refine cx_d (by kernel_rfl) rfl ?_ | refine wO rfl rfl ?_))
  refine VS.loop (J := fun m L M w' => ∃ z : Nat, z ≤ n1 ∧ m = n1 - z ∧ L = [(4, .box 4 0), (5, .val (.int .u64 ((if z = 0 then 0 else a : Nat) : Int))), (17, .val (.slice p1 n1 c1)), (18, .val (.int .i64 (n1 : Int))), (19, .val (.int .i64 (z : Int)))] ∧
      M = [(4, (64, ([.bool s1, .slice p1 n1 c1] : List Value).map .val))]) n1 ⟨_, _, ?_, ?_, ?_, ?_, ⟨0, by omega, rfl, rfl, rfl⟩⟩ ?_
  · (repeat (first | exact trivial | refine ⟨rfl, ?_⟩))
  · (repeat (first | exact trivial | refine ⟨rfl, ?_⟩))
  · rfl
  · (repeat (first | exact trivial | refine ⟨ClosedC.lit rfl, ?_⟩ | refine ⟨ClosedC.vals _, ?_⟩))
  rintro m L M wJ ⟨z, hz, rfl, rfl, rfl⟩
  (repeat (first | refine wN ?_ | refine wP rfl ?_ | refine cx_r rfl ?_ | refine cx_d (by kernel_rfl) rfl ?_ | refine wO rfl rfl ?_))
  by_cases hlt : z < n1
  · obtain ⟨b2, o2, x, rfl, hb2, hxk, hcx⟩ := hr1.cellAt hlt
    obtain rfl : z = 0 := by omega
    obtain rfl : x = a := by
      rw [← ha, hl] at hxk
      split at hxk
      · simp at hxk
      · simpa using hxk.symm
    refine VS.condY rfl (decide_eq_true (Int.ofNat_lt.2 hlt)) ?_
    (repeat (first | refine wN ?_ | refine wP rfl ?_ | refine cx_r rfl ?_ | refine cx_d (by kernel_rfl) rfl ?_ | refine wO rfl rfl ?_))
    refine VO.cond rfl ⟨by omega, by omega⟩ (wV rfl ?_)
    refine VO.read rfl [.int .u32 (x : Int)] rfl (read1 rfl hcx) (wV rfl ?_)
    (repeat (first | refine wN ?_ | refine wP rfl ?_ | refine cx_r rfl ?_ | refine cx_d (by kernel_rfl) rfl ?_ | refine wO rfl rfl ?_))
    refine VS.back (n1 - (0 + 1)) (by omega) ⟨_, _, ?_, ?_, ?_, ?_, ⟨0 + 1, by omega, rfl, rfl, rfl⟩⟩
    · refine ⟨rfl, congrArg (fun z => some (AV.val (.int .u64 z))) ?_, rfl, rfl, ?_, trivial⟩
      · have e1 : IntKind.u64.wrap (x : Int) = x := IntWalk.u64_in _ (by omega)
        show bits .or .u64 0 (IntKind.u64.wrap (IntKind.u64.wrap (x : Int) * 2 ^ min (IntKind.i64.wrap (32 * 0)).toNat 64)) = (x : Int)
        rw [show IntKind.i64.wrap (32 * 0) = 0 by decide, e1]
        simp only [Int.toNat_zero, Nat.zero_min, Int.pow_zero, Int.mul_one]
        rw [e1, u64_or0 _ (by omega) (by omega)]
      · rfl
    · (repeat (first | exact trivial | refine ⟨rfl, ?_⟩))
    · rfl
    · (repeat (first | exact trivial | refine ⟨ClosedC.lit rfl, ?_⟩ | refine ⟨ClosedC.vals _, ?_⟩))
  · obtain rfl : z = n1 := by omega
    refine VS.condN rfl (decide_eq_false (fun e => hlt (Int.ofNat_lt.1 e))) ?_
    rw [show (if z = 0 then 0 else a) = a by split; exact (hn.2 ‹_›).symm; rfl]
    obtain ⟨A, hA⟩ : ∃ A : Int, A = (a : Int) := ⟨_, rfl⟩
    rw [← hA]
    cases s1 with
    | true =>
      have hx : X < 0 := of_decide_eq_true hs1.symm
      (repeat (first | refine wN ?_ | refine wP rfl ?_ | refine cx_r rfl ?_ | refine cx_d (by kernel_rfl) rfl ?_ | refine wO rfl rfl ?_))
      refine VS.condY rfl (decide_eq_true (show A ≤ 9223372036854775808 by omega)) ?_
      (repeat (first | refine wN ?_ | refine wP rfl ?_ | refine cx_r rfl ?_ | refine cx_d (by kernel_rfl) rfl ?_ | refine wO rfl rfl ?_))
      refine VS.ret (cx_ok _ _) rfl rfl (fun wz kz bz => ?_)
      refine ⟨congrArg (fun z => Ending.returned (.tuple #[.int .i64 z, .bool true])) ?_, bz⟩
      rw [hA]
      exact (u64_neg a hX).trans (by omega)
    | false =>
      have hx : ¬ X < 0 := of_decide_eq_false hs1.symm
      (repeat (first | refine wN ?_ | refine wP rfl ?_ | refine cx_r rfl ?_ | refine cx_d (by kernel_rfl) rfl ?_ | refine wO rfl rfl ?_))
      refine VS.condY rfl (decide_eq_true (show A < 9223372036854775808 by omega)) ?_
      (repeat (first | refine wN ?_ | refine wP rfl ?_ | refine cx_r rfl ?_ | refine cx_d (by kernel_rfl) rfl ?_ | refine wO rfl rfl ?_))
      refine VS.ret (cx_ok _ _) rfl rfl (fun wz kz bz => ?_)
      refine ⟨congrArg (fun z => Ending.returned (.tuple #[.int .i64 z, .bool true])) ?_, bz⟩
      exact (IntWalk.i64_in _ (by omega)).trans (by omega)
end Go.Proofs.Ytkafabgcdlfhiaa
