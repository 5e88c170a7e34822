/- What the small functions of the shared filings compute: rows copied, fractions turned into the references' and back, whether a fraction is the reference's. -/
import Derived.Test.YtofdiijioejljaaGreatRatMore
set_option linter.all false
set_option maxRecDepth 4000
namespace Go.Proofs.YtofdiijioejljaaGreat
open Go.RowKit
attribute [local irreducible] vcOps VS

theorem fillimbs_any (xs : List Nat) (v : Value) (n : Nat) (w : World) (hr : Rd w 1 v n (ints .u32 xs)) (hn : n ≤ 1073741824) :
  Calls Tryz.prog 39 #[v] w fun e w' => ∃ p c, e = .returned (.slice p n c) ∧ w'.ownsRow w.heap.size UU 1 (.slice p n c) n (ints .u32 xs) ∧ Beh w w' := by
 obtain ⟨p, c, rfl, hr2⟩ : ∃ p c, v = .slice p n c ∧ True := by
  obtain ⟨p, c, hv, _⟩ := hr
  exact ⟨p, c, hv, trivial⟩
 refine calm_enter (C := cxOf Tryz.prog w _) (args := [_]) Tryz.func39 rfl Tryz.ntmps39 (Nat.le_of_ble_eq_true rfl) ?_
 (repeat first|refine wN ?_|refine wP rfl ?_|refine cx_r rfl ?_|refine cx_d rfl ?_|refine wO rfl rfl ?_)
 refine VO.appU (cx_ok _ _) (t := 23) (e := 107) (n := n) (news := ints .u32 xs) rfl rfl rfl rfl rfl (ints_one .u32 xs) (by omega) (fun w1 k1 b1 => hr.below b1) (fun w2 p2 c2 k2 b2 ho => wV rfl ?_)
 (repeat first|refine wN ?_|refine wP rfl ?_|refine cx_r rfl ?_|refine cx_d rfl ?_|refine wO rfl rfl ?_)
 refine VS.ret (cx_ok _ _) rfl rfl (fun wz kz bz => ?_)
 exact ⟨_, _, rfl, Own.kp ho kz, bz⟩
theorem NumAt.fil {w : World} {s : Bool} {p : Option Addr} {xs : List Nat} {c : Nat} (h : NumAt w (.agg #[.bool s, .slice p xs.length c]) s xs) : Rd w 1 (.slice p xs.length c) xs.length (ints .u32 xs) ∧ Lim xs := by
 obtain ⟨p', c', hv, hr, hl⟩ := h
 simp only [Value.agg.injEq, Array.mk.injEq, List.cons.injEq, and_true, true_and, Value.slice.injEq] at hv
 obtain ⟨rfl, rfl⟩ := hv
 exact ⟨hr, hl⟩
def RatNew (w : World) (B : Nat) (v : Value) (s : Bool) (xs : List Nat) (t : Bool) (ys : List Nat) : Prop :=
 ∃ p c r d, v = .agg #[.bool s, .slice p xs.length c, .bool t, .slice r ys.length d] ∧ w.ownsRow B UU 1 (.slice p xs.length c) xs.length (ints .u32 xs) ∧ w.ownsRow B UU 1 (.slice r ys.length d) ys.length (ints .u32 ys) ∧ Lim xs ∧ Lim ys
theorem RatNew.raw {w : World} {B : Nat} {v : Value} {s : Bool} {xs : List Nat} {t : Bool} {ys : List Nat} (h : RatNew w B v s xs t ys) : RatRaw w v s xs t ys := by
 obtain ⟨p, c, r, d, hv, h1, h2, h3, h4⟩ := h
 exact ⟨p, c, r, d, hv, ⟨_, _, rfl, Rd.own h1, h3⟩, ⟨_, _, rfl, Rd.own h2, h4⟩⟩
theorem RatNew.kp {T : TypeId → Bool} {w w' : World} {B : Nat} {v : Value} {s : Bool} {xs : List Nat} {t : Bool} {ys : List Nat} (h : RatNew w B v s xs t ys) (k : KpS ⟨UU, fun _ => True, T⟩ w w') : RatNew w' B v s xs t ys := by
 obtain ⟨p, c, r, d, hv, h1, h2, h3, h4⟩ := h
 exact ⟨p, c, r, d, hv, Own.kp h1 k, Own.kp h2 k, h3, h4⟩
theorem RatNew.own {w : World} {B : Nat} {v : Value} {q : Rat} (h : RatNew w B v (decide (q.num < 0)) (limbs q.num.natAbs) (decide ((q.den : Int) < 0)) (limbs (q.den : Int).natAbs)) : RatOwn w B v q := by
 obtain ⟨p, c, r, d, rfl, h1, h2, h3, h4⟩ := h
 exact ⟨_, p, _, c, _, r, _, d, rfl, ⟨_, _, rfl, h1⟩, ⟨_, _, rfl, h2⟩⟩
theorem filRef_any (s t : Bool) (xs ys : List Nat) (v : Value) (w : World) (h : RatRaw w v s xs t ys) (hx : xs.length ≤ 1073741824) (hy : ys.length ≤ 1073741824) :
  Calls Tryz.prog 10 #[v] w fun e w' => ∃ r, e = .returned r ∧ RatNew w' w.heap.size r s xs t ys ∧ Beh w w' := by
 obtain ⟨p, c, r, d, rfl, h1, h2⟩ := h
 refine calm_enter (C := cxOf Tryz.prog w _) (args := [_]) Tryz.func10 rfl Tryz.ntmps10 (Nat.le_of_ble_eq_true rfl) ?_
 (repeat first|refine wN ?_|refine wP rfl ?_|refine cx_r rfl ?_|refine cx_d rfl ?_|refine wO rfl rfl ?_)
 refine VO.call rfl rfl (fk Tryz.func39) (fun wa1 ka1 ba1 => (fillimbs_any xs _ _ wa1 (h1.beh ba1).fil.1 hx).mono ?_)
 rintro e w1 ⟨p1, c1, rfl, q1, hb1⟩
 skip
 refine ⟨_, rfl, hb1, fun kb1 _ bb1 => wV rfl ?_⟩
 (repeat first|refine wN ?_|refine wP rfl ?_|refine cx_r rfl ?_|refine cx_d rfl ?_|refine wO rfl rfl ?_)
 refine VO.call rfl rfl (fk Tryz.func39) (fun wa2 ka2 ba2 => (fillimbs_any ys _ _ wa2 (h2.beh ba2).fil.1 hy).mono ?_)
 rintro e w2 ⟨p2, c2, rfl, q2, hb2⟩
 skip
 refine ⟨_, rfl, hb2, fun kb2 _ bb2 => wV rfl ?_⟩
 (repeat first|refine wN ?_|refine wP rfl ?_|refine cx_r rfl ?_|refine cx_d rfl ?_|refine wO rfl rfl ?_)
 refine VS.ret (cx_ok _ _) rfl rfl (fun wz kz bz => ?_)
 exact ⟨_, rfl, ⟨_, _, _, _, rfl, Own.kp (Own.mono q1 ba1.size) (kb2.thn kz), Own.kp (Own.mono q2 ba2.size) kz, h1.fil.2, h2.fil.2⟩, bz⟩
theorem filOf_any (s t : Bool) (xs ys : List Nat) (v : Value) (w : World) (h : RatRaw w v s xs t ys) (hx : xs.length ≤ 1073741824) (hy : ys.length ≤ 1073741824) :
  Calls Tryz.prog 73 #[v] w fun e w' => ∃ r, e = .returned r ∧ RatNew w' w.heap.size r s xs t ys ∧ Beh w w' := by
 obtain ⟨p, c, r, d, rfl, h1, h2⟩ := h
 refine calm_enter (C := cxOf Tryz.prog w _) (args := [_]) Tryz.func73 rfl Tryz.ntmps73 (Nat.le_of_ble_eq_true rfl) ?_
 (repeat first|refine wN ?_|refine wP rfl ?_|refine cx_r rfl ?_|refine cx_d rfl ?_|refine wO rfl rfl ?_)
 refine VO.call rfl rfl (fk Tryz.func39) (fun wa1 ka1 ba1 => (fillimbs_any xs _ _ wa1 (h1.beh ba1).fil.1 hx).mono ?_)
 rintro e w1 ⟨p1, c1, rfl, q1, hb1⟩
 skip
 refine ⟨_, rfl, hb1, fun kb1 _ bb1 => wV rfl ?_⟩
 (repeat first|refine wN ?_|refine wP rfl ?_|refine cx_r rfl ?_|refine cx_d rfl ?_|refine wO rfl rfl ?_)
 refine VO.call rfl rfl (fk Tryz.func39) (fun wa2 ka2 ba2 => (fillimbs_any ys _ _ wa2 (h2.beh ba2).fil.1 hy).mono ?_)
 rintro e w2 ⟨p2, c2, rfl, q2, hb2⟩
 skip
 refine ⟨_, rfl, hb2, fun kb2 _ bb2 => wV rfl ?_⟩
 (repeat first|refine wN ?_|refine wP rfl ?_|refine cx_r rfl ?_|refine cx_d rfl ?_|refine wO rfl rfl ?_)
 refine VS.ret (cx_ok _ _) rfl rfl (fun wz kz bz => ?_)
 exact ⟨_, rfl, ⟨_, _, _, _, rfl, Own.kp (Own.mono q1 ba1.size) (kb2.thn kz), Own.kp (Own.mono q2 ba2.size) kz, h1.fil.2, h2.fil.2⟩, bz⟩
theorem filBy_any (n d : Int) (w : World) (h0 : -9223372036854775808 ≤ n) (h1 : n ≤ 9223372036854775807) (g0 : -9223372036854775808 ≤ d) (g1 : d ≤ 9223372036854775807) :
  Calls Tryz.prog 36 #[.int .i64 n, .int .i64 d] w fun e w' => ∃ r, e = .returned r ∧ RatOwn w' w.heap.size r (Rat.divInt n d) ∧ Beh w w' := by
 refine calm_enter (C := cxOf Tryz.prog w _) (args := [_, _]) Tryz.func36 rfl Tryz.ntmps36 (Nat.le_of_ble_eq_true rfl) ?_
 (repeat first|refine wN ?_|refine wP rfl ?_|refine cx_r rfl ?_|refine cx_d rfl ?_|refine wO rfl rfl ?_)
 refine VO.call rfl rfl (fk Tryz.func72) (fun wa1 ka1 ba1 => (q04Of_any n d wa1 h0 h1 g0 g1).mono ?_)
 rintro e w1 ⟨r1, rfl, q1, hb1⟩
 obtain ⟨s1, p1, n1, c1, t1, y1, m1, d1, rfl⟩ := q1.form
 refine ⟨_, rfl, hb1, fun kb1 _ bb1 => wV rfl ?_⟩
 (repeat first|refine wN ?_|refine wP rfl ?_|refine cx_r rfl ?_|refine cx_d rfl ?_|refine wO rfl rfl ?_)
 have hsz : (limbs (Rat.divInt n d).num.natAbs).length ≤ 4 ∧ (limbs ((Rat.divInt n d).den : Int).natAbs).length ≤ 4 := by
  by_cases hd : d = 0
  ·rw [hd, Rat.divInt_zero]; exact ⟨RSz.zero.1.mono (by omega), RSz.zero.2.mono (by omega)⟩
  ·have h := divInt_sz (X := n) (Y := d) (k := 2) (l := 2) (Sz.of_lt (by omega)) (Sz.of_lt (by omega)) hd
   exact ⟨h.1.mono (by omega), h.2.mono (by omega)⟩
 refine VO.call rfl rfl (fk Tryz.func73) (fun wa2 ka2 ba2 => (filOf_any _ _ _ _ _ wa2 (q1.kp (by (with_reducible (repeat (first | assumption | exact kU _ | exact kR _ | exact Kp.of (U := UU) (by assumption) | exact KpS.of (by assumption) | refine kT ?_ (by assumption)))))).rd.raw (by omega) (by omega)).mono ?_)
 rintro e w2 ⟨r2, rfl, q2, hb2⟩
 obtain ⟨p2, c2, y2, d2, rfl, _⟩ := q2.raw.form'
 refine ⟨_, rfl, hb2, fun kb2 _ bb2 => wV rfl ?_⟩
 (repeat first|refine wN ?_|refine wP rfl ?_|refine cx_r rfl ?_|refine cx_d rfl ?_|refine wO rfl rfl ?_)
 refine VS.ret (cx_ok _ _) rfl rfl (fun wz kz bz => ?_)
 exact ⟨_, rfl, ((q2.kp kz).own).mono ba2.size, bz⟩
theorem filrow_any (xs : List Nat) (v u : Value) (n : Nat) (w : World) (hr : Rd w 1 v n (ints .u32 xs)) (hs : Rd w 1 u n (ints .u32 xs)) (hnl : n = xs.length) :
  Calls Tryz.prog 57 #[v, u] w fun e w' => e = .returned (.bool true) ∧ Beh w w' := by
 subst hnl
 obtain ⟨n, hn⟩ : ∃ n, n = xs.length := ⟨_, rfl⟩
 rw [← hn] at hr hs
 obtain ⟨p, c, rfl, hnc, hcm, hxl⟩ := hr.u32
 obtain ⟨q, d, rfl, hmd, hdm, _⟩ := hs.u32
 refine calm_enter (C := cxOf Tryz.prog w _) (args := [_, _]) Tryz.func57 rfl Tryz.ntmps57 (Nat.le_of_ble_eq_true rfl) ?_
 (repeat first|refine wN ?_|refine wP rfl ?_|refine cx_r rfl ?_|refine cx_d rfl ?_|refine wO rfl rfl ?_)
 refine VS.condN rfl (by simp) ?_
 (repeat first|refine wN ?_|refine wP rfl ?_|refine cx_r rfl ?_|refine cx_d rfl ?_|refine wO rfl rfl ?_)
 refine VS.loop (J := fun ms L M w' => ∃ (k : Nat), k ≤ n ∧ ms = n - k ∧ L = [(0, .val (.slice p n c)), (1, .val (.slice q n d)), (5, .val (.int .i64 (k : Int)))] ∧ M = []) n ⟨_, _, ?_, ?_, ?_, ?_, ⟨0, by omega, rfl, rfl, rfl⟩⟩ ?_
 ·(repeat first|exact trivial|refine ⟨rfl, ?_⟩)
 ·(repeat first|exact trivial|refine ⟨rfl, ?_⟩)
 ·rfl
 ·(repeat first|exact trivial|refine ⟨ClosedC.lit rfl, ?_⟩|refine ⟨ClosedC.vals _, ?_⟩)
 rintro ms L M w' ⟨k, hk, hms, rfl, rfl⟩
 (repeat first|refine wN ?_|refine wP rfl ?_|refine cx_r rfl ?_|refine cx_d rfl ?_|refine wO rfl rfl ?_)
 by_cases hkn : k < n
 ·refine VS.condY rfl (decide_eq_true (Int.ofNat_lt.2 hkn)) ?_
  (repeat first|refine wN ?_|refine wP rfl ?_|refine cx_r rfl ?_|refine cx_d rfl ?_|refine wO rfl rfl ?_)
  obtain ⟨b1, o1, x, rfl, hb1, hxk, hcx⟩ := hr.cellAt hkn
  obtain ⟨b2, o2, y, rfl, hb2, hyk, hcy⟩ := hs.cellAt hkn
  obtain rfl : x = y := by rw [hxk] at hyk; exact Option.some.inj hyk
  refine VO.cond rfl ⟨by omega, by omega⟩ (wV rfl ?_)
  refine VO.read rfl [.int .u32 (x : Int)] rfl (read1 rfl hcx) (wV rfl ?_)
  refine VO.cond rfl ⟨by omega, by omega⟩ (wV rfl ?_)
  refine VO.read rfl [.int .u32 (x : Int)] rfl (read1 rfl hcy) (wV rfl ?_)
  (repeat first|refine wN ?_|refine wP rfl ?_|refine cx_r rfl ?_|refine cx_d rfl ?_|refine wO rfl rfl ?_)
  refine VS.condN rfl (by simp) ?_
  (repeat first|refine wN ?_|refine wP rfl ?_|refine cx_r rfl ?_|refine cx_d rfl ?_|refine wO rfl rfl ?_)
  refine VS.back (n - (k + 1)) (by omega) ⟨_, _, ?_, ?_, ?_, ?_, ⟨k + 1, by omega, rfl, rfl, rfl⟩⟩
  ·refine ⟨rfl, rfl, ?_, trivial⟩
   rw [← nat_step (by omega)]; rfl
  ·(repeat first|exact trivial|refine ⟨rfl, ?_⟩)
  ·rfl
  ·(repeat first|exact trivial|refine ⟨ClosedC.lit rfl, ?_⟩|refine ⟨ClosedC.vals _, ?_⟩)
 ·refine VS.condN rfl (decide_eq_false (fun e => hkn (Int.ofNat_lt.1 e))) ?_
  (repeat first|refine wN ?_|refine wP rfl ?_|refine cx_r rfl ?_|refine cx_d rfl ?_|refine wO rfl rfl ?_)
  refine VS.ret (cx_ok _ _) rfl rfl (fun wz kz bz => ?_)
  exact ⟨rfl, bz⟩
theorem filIs_raw (s t : Bool) (xs ys : List Nat) (v u : Value) (w : World) (hv : RatRaw w v s xs t ys) (hu : RatRaw w u s xs t ys) :
  Calls Tryz.prog 23 #[v, u] w fun e w' => e = .returned (.bool true) ∧ Beh w w' := by
 obtain ⟨p, c, r, d, rfl, v1, v2⟩ := hv
 obtain ⟨p', c', r', d', rfl, u1, u2⟩ := hu
 refine calm_enter (C := cxOf Tryz.prog w _) (args := [_, _]) Tryz.func23 rfl Tryz.ntmps23 (Nat.le_of_ble_eq_true rfl) ?_
 (repeat first|refine wN ?_|refine wP rfl ?_|refine cx_r rfl ?_|refine cx_d rfl ?_|refine wO rfl rfl ?_)
 refine VO.fix 12 rfl (congrArg (fun b => AV.val (.bool b)) (show (s == s) = true by simp)) ?_
 (repeat first|refine wN ?_|refine wP rfl ?_|refine cx_r rfl ?_|refine cx_d rfl ?_|refine wO rfl rfl ?_)
 refine VO.fix 21 rfl (congrArg (fun b => AV.val (.bool b)) (show (t == t) = true by simp)) ?_
 (repeat first|refine wN ?_|refine wP rfl ?_|refine cx_r rfl ?_|refine cx_d rfl ?_|refine wO rfl rfl ?_)
 refine VO.call rfl rfl (fk Tryz.func57) (fun wa1 ka1 ba1 => (filrow_any xs _ _ _ wa1 (v1.beh ba1).fil.1 (u1.beh ba1).fil.1 rfl).mono ?_)
 rintro e w1 ⟨rfl, hb1⟩
 skip
 refine ⟨_, rfl, hb1, fun kb1 _ bb1 => wV rfl ?_⟩
 (repeat first|refine wN ?_|refine wP rfl ?_|refine cx_r rfl ?_|refine cx_d rfl ?_|refine wO rfl rfl ?_)
 refine VO.call rfl rfl (fk Tryz.func57) (fun wa2 ka2 ba2 => (filrow_any ys _ _ _ wa2 (v2.beh ba2).fil.1 (u2.beh ba2).fil.1 rfl).mono ?_)
 rintro e w2 ⟨rfl, hb2⟩
 skip
 refine ⟨_, rfl, hb2, fun kb2 _ bb2 => wV rfl ?_⟩
 (repeat first|refine wN ?_|refine wP rfl ?_|refine cx_r rfl ?_|refine cx_d rfl ?_|refine wO rfl rfl ?_)
 refine VS.ret (cx_ok _ _) rfl rfl (fun wz kz bz => ?_)
 exact ⟨rfl, bz⟩
theorem filIs_any (q : Rat) (v u : Value) (w : World) (hv : RatRd w v q) (hu : RatRd w u q) :
  Calls Tryz.prog 23 #[v, u] w fun e w' => e = .returned (.bool true) ∧ Beh w w' := filIs_raw _ _ _ _ v u w hv.raw hu.raw
end Go.Proofs.YtofdiijioejljaaGreat
