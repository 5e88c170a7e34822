/- What the small functions of the statements about fractions compute: by, few, whole, is, plain, ref. -/
import Derived.Test.YtppfcobomaaceaaRef04B
namespace Go.Proofs.Ytppfcobomaaceaa
open Go.RowKit
attribute [local irreducible] vcOps VS

theorem by04_any (n d : Int) (w : World) (h0 : -9223372036854775808 ≤ n) (h1 : n ≤ 9223372036854775807) (h2 : -9223372036854775808 ≤ d) (h3 : d ≤ 9223372036854775807) :
    Calls Try.prog 15 #[.int .i64 n, .int .i64 d] w fun e w' => ∃ r, e = .returned r ∧ RatOwn w' w.heap.size r (Rat.divInt n d) ∧ Beh w w' := by
  refine calm_enter (C := cxOf Try.prog w _) (args := [_, _]) Try.func15 rfl Try.ntmps15 (Nat.le_of_ble_eq_true rfl) ?_
  (repeat (first | refine wN ?_ | refine wQ ?_ | refine cx_r rfl ?_ | refine cx_d (by kernel_rfl) rfl ?_ | refine wO rfl rfl ?_ | refine wT rfl ?_ | refine wF rfl ?_ | refine wB ?_ | refine wK ?_ | refine wE rfl ?_ | refine wS ?_))
  refine VO.call rfl rfl ⟨_, Try.func6, by kernel_rfl, by kernel_rfl⟩ (fun wa1 ka1 ba1 => (ratOf_any n d wa1 h0 h1 h2 h3).mono ?_)
  rintro e w1 ⟨r1, rfl, q1, hb1⟩
  obtain ⟨s1, p1, n1, c1, t1, y1, m1, d1, rfl⟩ := q1.form
  refine ⟨_, rfl, hb1, fun kb1 _ bb1 => wV rfl ?_⟩
  (repeat (first | refine wN ?_ | refine wQ ?_ | refine cx_r rfl ?_ | refine cx_d (by kernel_rfl) rfl ?_ | refine wO rfl rfl ?_ | refine wT rfl ?_ | refine wF rfl ?_ | refine wB ?_ | refine wK ?_ | refine wE rfl ?_ | refine wS ?_))
  refine VS.ret (cx_ok _ _) rfl rfl (fun wz kz bz => ?_)
  exact ⟨_, rfl, (q1.kp kz).mono ba1.size, bz⟩

theorem NumAt.form' {w : World} {v : Value} {s : Bool} {xs : List Nat} (h : NumAt w v s xs) : ∃ p c, v = .agg #[.bool s, .slice p xs.length c] ∧ True := by
  obtain ⟨p, c, rfl, _⟩ := h
  exact ⟨_, _, rfl, trivial⟩
/-- two numbers that have the same sign and limbs -/
theorem whole04_any (s : Bool) (xs : List Nat) (v u : Value) (w : World) (hv : NumAt w v s xs) (hu : NumAt w u s xs) :
    Calls Try.prog 29 #[v, u] w fun e w' => e = .returned (.bool true) ∧ Beh w w' := by
  obtain ⟨p, c, rfl, hr, _⟩ := hv
  obtain ⟨q, d, rfl, hs, _⟩ := hu
  obtain ⟨n, hn⟩ : ∃ n, n = xs.length := ⟨_, rfl⟩
  rw [← hn] at hr hs ⊢
  obtain ⟨p', c', hv1, hnc, hcm, hxl⟩ := hr.u32
  simp only [Value.slice.injEq, true_and] at hv1
  obtain ⟨rfl, rfl⟩ := hv1
  obtain ⟨q', d', hv2, hmd, hdm, _⟩ := hs.u32
  simp only [Value.slice.injEq, true_and] at hv2
  obtain ⟨rfl, rfl⟩ := hv2
  refine calm_enter (C := cxOf Try.prog w _) (args := [_, _]) Try.func29 rfl Try.ntmps29 (Nat.le_of_ble_eq_true rfl) ?_
  (repeat (first | refine wN ?_ | refine wQ ?_ | refine cx_r rfl ?_ | refine cx_d (by kernel_rfl) rfl ?_ | refine wO rfl rfl ?_ | refine wT rfl ?_ | refine wF rfl ?_ | refine wB ?_ | refine wK ?_ | refine wE rfl ?_ | refine wS ?_))
  refine VO.fix 11 rfl (congrArg (fun b => AV.val (.bool b)) (show (s != s) = false by simp)) ?_
  (repeat (first | refine wN ?_ | refine wQ ?_ | refine cx_r rfl ?_ | refine cx_d (by kernel_rfl) rfl ?_ | refine wO rfl rfl ?_ | refine wT rfl ?_ | refine wF rfl ?_ | refine wB ?_ | refine wK ?_ | refine wE rfl ?_ | refine wS ?_))
  refine VS.condN rfl (by simp) ?_
  (repeat (first | refine wN ?_ | refine wQ ?_ | refine cx_r rfl ?_ | refine cx_d (by kernel_rfl) rfl ?_ | refine wO rfl rfl ?_ | refine wT rfl ?_ | refine wF rfl ?_ | refine wB ?_ | refine wK ?_ | refine wE rfl ?_ | refine wS ?_))
  refine VS.loop (J := fun ms L M w' => ∃ (k : Nat), k ≤ n ∧ ms = n - k ∧ L = [(2, .box 2 0), (3, .box 3 0), (5, .val (.int .i64 (k : Int)))] ∧ M = [(2, (24, ([.bool s, .slice p n c] : List Value).map .val)), (3, (32, ([.bool s, .slice q n d] : List Value).map .val))]) n ⟨_, _, ?_, ?_, ?_, ?_, ⟨0, by omega, rfl, rfl, rfl⟩⟩ ?_
  · (repeat (first | exact trivial | refine ⟨rfl, ?_⟩))
  · (repeat (first | exact trivial | refine ⟨rfl, ?_⟩))
  · rfl
  · (repeat (first | exact trivial | refine ⟨ClosedC.lit rfl, ?_⟩ | refine ⟨ClosedC.vals _, ?_⟩))
  rintro ms L M w' ⟨k, hk, hms, rfl, rfl⟩
  (repeat (first | refine wN ?_ | refine wQ ?_ | refine cx_r rfl ?_ | refine cx_d (by kernel_rfl) rfl ?_ | refine wO rfl rfl ?_ | refine wT rfl ?_ | refine wF rfl ?_ | refine wB ?_ | refine wK ?_ | refine wE rfl ?_ | refine wS ?_))
  by_cases hkn : k < n
  · refine VS.condY rfl (decide_eq_true (Int.ofNat_lt.2 hkn)) ?_
    (repeat (first | refine wN ?_ | refine wQ ?_ | refine cx_r rfl ?_ | refine cx_d (by kernel_rfl) rfl ?_ | refine wO rfl rfl ?_ | refine wT rfl ?_ | refine wF rfl ?_ | refine wB ?_ | refine wK ?_ | refine wE rfl ?_ | refine wS ?_))
    obtain ⟨b1, o1, x, rfl, hb1, hxk, hcx⟩ := hr.cellAt hkn
    obtain ⟨b2, o2, y, rfl, hb2, hyk, hcy⟩ := hs.cellAt hkn
    obtain rfl : x = y := by rw [hxk] at hyk; exact Option.some.inj hyk
    refine VO.cond rfl ⟨by omega, by omega⟩ (wV rfl ?_)
    refine VO.read rfl [.int .u32 (x : Int)] rfl (read1 rfl hcx) (wV rfl ?_)
    refine VO.cond rfl ⟨by omega, by omega⟩ (wV rfl ?_)
    refine VO.read rfl [.int .u32 (x : Int)] rfl (read1 rfl hcy) (wV rfl ?_)
    (repeat (first | refine wN ?_ | refine wQ ?_ | refine cx_r rfl ?_ | refine cx_d (by kernel_rfl) rfl ?_ | refine wO rfl rfl ?_ | refine wT rfl ?_ | refine wF rfl ?_ | refine wB ?_ | refine wK ?_ | refine wE rfl ?_ | refine wS ?_))
    refine VS.condN rfl (by simp) ?_
    (repeat (first | refine wN ?_ | refine wQ ?_ | refine cx_r rfl ?_ | refine cx_d (by kernel_rfl) rfl ?_ | refine wO rfl rfl ?_ | refine wT rfl ?_ | refine wF rfl ?_ | refine wB ?_ | refine wK ?_ | refine wE rfl ?_ | refine wS ?_))
    refine VS.back (n - (k + 1)) (by omega) ⟨_, _, ?_, ?_, ?_, ?_, ⟨k + 1, by omega, rfl, rfl, rfl⟩⟩
    · refine ⟨rfl, rfl, ?_, trivial⟩
      rw [← nat_step (by omega)]; rfl
    · (repeat (first | exact trivial | refine ⟨rfl, ?_⟩))
    · rfl
    · (repeat (first | exact trivial | refine ⟨ClosedC.lit rfl, ?_⟩ | refine ⟨ClosedC.vals _, ?_⟩))
  · refine VS.condN rfl (decide_eq_false (fun e => hkn (Int.ofNat_lt.1 e))) ?_
    (repeat (first | refine wN ?_ | refine wQ ?_ | refine cx_r rfl ?_ | refine cx_d (by kernel_rfl) rfl ?_ | refine wO rfl rfl ?_ | refine wT rfl ?_ | refine wF rfl ?_ | refine wB ?_ | refine wK ?_ | refine wE rfl ?_ | refine wS ?_))
    refine VS.ret (cx_ok _ _) rfl rfl (fun wz kz bz => ?_)
    exact ⟨rfl, bz⟩

theorem NumAt.form {w : World} {v : Value} {s : Bool} {xs : List Nat} (h : NumAt w v s xs) : ∃ p n c, v = .agg #[.bool s, .slice p n c] := by
  obtain ⟨p, c, rfl, _⟩ := h
  exact ⟨_, _, _, rfl⟩
theorem is04_any (q : Rat) (v u : Value) (w : World) (hv : RatRd w v q) (hu : RatRd w u q) :
    Calls Try.prog 11 #[v, u] w fun e w' => e = .returned (.bool true) ∧ Beh w w' := by
  obtain ⟨s, p, n, c, t, y, m, d, rfl, v1, v2⟩ := hv
  obtain ⟨s', p', n', c', t', y', m', d', rfl, u1, u2⟩ := hu
  refine calm_enter (C := cxOf Try.prog w _) (args := [_, _]) Try.func11 rfl Try.ntmps11 (Nat.le_of_ble_eq_true rfl) ?_
  (repeat (first | refine wN ?_ | refine wQ ?_ | refine cx_r rfl ?_ | refine cx_d (by kernel_rfl) rfl ?_ | refine wO rfl rfl ?_ | refine wT rfl ?_ | refine wF rfl ?_ | refine wB ?_ | refine wK ?_ | refine wE rfl ?_ | refine wS ?_))
  refine VO.call rfl rfl ⟨_, Try.func29, by kernel_rfl, by kernel_rfl⟩ (fun wa1 ka1 ba1 => (whole04_any _ _ _ _ wa1 (v1.beh ba1) (u1.beh ba1)).mono ?_)
  rintro e w1 ⟨rfl, hb1⟩
  skip
  refine ⟨_, rfl, hb1, fun kb1 _ bb1 => wV rfl ?_⟩
  (repeat (first | refine wN ?_ | refine wQ ?_ | refine cx_r rfl ?_ | refine cx_d (by kernel_rfl) rfl ?_ | refine wO rfl rfl ?_ | refine wT rfl ?_ | refine wF rfl ?_ | refine wB ?_ | refine wK ?_ | refine wE rfl ?_ | refine wS ?_))
  refine VO.call rfl rfl ⟨_, Try.func29, by kernel_rfl, by kernel_rfl⟩ (fun wa2 ka2 ba2 => (whole04_any _ _ _ _ wa2 (v2.beh ba2) (u2.beh ba2)).mono ?_)
  rintro e w2 ⟨rfl, hb2⟩
  skip
  refine ⟨_, rfl, hb2, fun kb2 _ bb2 => wV rfl ?_⟩
  (repeat (first | refine wN ?_ | refine wQ ?_ | refine cx_r rfl ?_ | refine cx_d (by kernel_rfl) rfl ?_ | refine wO rfl rfl ?_ | refine wT rfl ?_ | refine wF rfl ?_ | refine wB ?_ | refine wK ?_ | refine wE rfl ?_ | refine wS ?_))
  refine VS.ret (cx_ok _ _) rfl rfl (fun wz kz bz => ?_)
  exact ⟨rfl, bz⟩

/-- a number as it stands, in new memory -/
def NumOwn (w : World) (B : Nat) (v : Value) (s : Bool) (xs : List Nat) : Prop := ∃ p c, v = .agg #[.bool s, .slice p xs.length c] ∧ w.ownsRow B 63 1 (.slice p xs.length c) xs.length (ints .u32 xs) ∧ Lim xs
theorem NumOwn.at {w : World} {B : Nat} {v : Value} {s : Bool} {xs : List Nat} (h : NumOwn w B v s xs) : NumAt w v s xs := by
  obtain ⟨p, c, hv, ho, hl⟩ := h
  exact ⟨p, c, hv, Rd.own ho, hl⟩
theorem NumOwn.kp {w w' : World} {B : Nat} {v : Value} {s : Bool} {xs : List Nat} (h : NumOwn w B v s xs) (k : Kp UU w w') : NumOwn w' B v s xs := by
  obtain ⟨p, c, hv, ho, hl⟩ := h
  exact ⟨p, c, hv, Own.kp ho k, hl⟩
theorem plain04_any (s : Bool) (xs : List Nat) (v : Value) (w : World) (hv : NumAt w v s xs) (hx : xs.length ≤ 1073741824) :
    Calls Try.prog 9 #[v] w fun e w' => ∃ r, e = .returned r ∧ NumAt w' r s xs ∧ Beh w w' := by
  obtain ⟨p, c, rfl, hr, hl⟩ := hv
  refine calm_enter (C := cxOf Try.prog w _) (args := [_]) Try.func9 rfl Try.ntmps9 (Nat.le_of_ble_eq_true rfl) ?_
  (repeat (first | refine wN ?_ | refine wQ ?_ | refine cx_r rfl ?_ | refine cx_d (by kernel_rfl) rfl ?_ | refine wO rfl rfl ?_ | refine wT rfl ?_ | refine wF rfl ?_ | refine wB ?_ | refine wK ?_ | refine wE rfl ?_ | refine wS ?_))
  refine VO.appU (cx_ok _ _) (t := 22) (e := 63) (n := xs.length) (news := ints .u32 xs) rfl rfl rfl rfl rfl (ints_one .u32 xs) (by omega) (fun w1 k1 b1 => hr.below b1) (fun w2 p2 c2 k2 b2 ho => wV rfl ?_)
  (repeat (first | refine wN ?_ | refine wQ ?_ | refine cx_r rfl ?_ | refine cx_d (by kernel_rfl) rfl ?_ | refine wO rfl rfl ?_ | refine wT rfl ?_ | refine wF rfl ?_ | refine wB ?_ | refine wK ?_ | refine wE rfl ?_ | refine wS ?_))
  refine VS.ret (cx_ok _ _) rfl rfl (fun wz kz bz => ?_)
  exact ⟨_, rfl, ⟨_, _, rfl, (Rd.own ho).kp kz, hl⟩, bz⟩
end Go.Proofs.Ytppfcobomaaceaa
