/- What the fractions' small functions compute: one, Right, right, reduced, New, Of, Whole. -/
import Derived.Test.YtofdiijioejljaaGreatRatW
set_option linter.all false
set_option maxRecDepth 4000
namespace Go.Proofs.YtofdiijioejljaaGreat
open Go.RowKit
attribute [local irreducible] vcOps VS

theorem ratone_any (w : World) : Calls Tryz.prog 60 #[] w fun e w' => ∃ r, e = .returned r ∧ IntOwn w' w.heap.size r 1 ∧ Beh w w' := by
 refine calm_enter (C := cxOf Tryz.prog w _) (args := []) Tryz.func60 rfl Tryz.ntmps60 (Nat.le_of_ble_eq_true rfl) ?_
 (repeat first|refine wN ?_|refine wP rfl ?_|refine cx_r rfl ?_|refine cx_d rfl ?_|refine wO rfl rfl ?_)
 refine VO.call rfl rfl (fk Tryz.func38) (fun wa1 ka1 ba1 => (bOf_any 1 wa1 (by omega) (by omega)).mono ?_)
 rintro e w1 ⟨r1, rfl, h1, hb1⟩
 obtain ⟨s1, p1, n1, c1, rfl⟩ := h1.form
 refine ⟨_, rfl, hb1, fun kb1 _ bb1 => wV rfl ?_⟩
 (repeat first|refine wN ?_|refine wP rfl ?_|refine cx_r rfl ?_|refine cx_d rfl ?_|refine wO rfl rfl ?_)
 refine VS.ret (cx_ok _ _) rfl rfl (fun wz kz bz => ?_)
 exact ⟨_, rfl, (h1.kp kz).mono ba1.size, bz⟩

def rtB (s : Bool) (xs : List Nat) (t : Bool) (ys : List Nat) : Bool := nright s xs && (nright t ys && (decide (0 < numOf t ys) && decide (Int.gcd (numOf s xs) (numOf t ys) = 1)))
theorem rq_wrong {s t : Bool} {xs ys : List Nat} (h : rtB s xs t ys = false) : rq s xs t ys = 0 := by
 unfold rq ratv
 split
 ·rename_i hc
  cases h1 : nright s xs with
  | false => unfold numOf; rw [if_neg (by simp [h1])]; simp
  | true =>
   cases h2 : nright t ys with
   | false =>
    have : numOf t ys = 0 := by unfold numOf; rw [if_neg (by simp [h2])]
    omega
   | true =>
    unfold rtB at h
    rw [h1, h2, decide_eq_true hc.1, decide_eq_true hc.2] at h
    cases h
 ·rfl
theorem rtB_inv {s t : Bool} {xs ys : List Nat} (h : rtB s xs t ys = true) : nright s xs = true ∧ nright t ys = true ∧ 0 < numOf t ys ∧ Int.gcd (numOf s xs) (numOf t ys) = 1 := by
 unfold rtB at h
 simp only [Bool.and_eq_true, decide_eq_true_eq] at h
 exact h
theorem NumAt.lim {w : World} {v : Value} {s : Bool} {xs : List Nat} (h : NumAt w v s xs) : Lim xs := by
 obtain ⟨_, _, _, _, l⟩ := h
 exact l
theorem rq_right {w : World} {v : Value} {s t : Bool} {xs ys : List Nat} (hv : RatRaw w v s xs t ys) (h : rtB s xs t ys = true) : RatRd w v (rq s xs t ys) := by
 obtain ⟨h1, h2, h3, h4⟩ := rtB_inv h
 obtain ⟨p, c, r, d, rfl, a1, a2⟩ := hv
 obtain ⟨e1, e2⟩ := ratv_right ⟨h3, h4⟩
 refine ⟨s, p, _, c, t, r, _, d, rfl, ?_, ?_⟩
 ·unfold rq; rw [e1]
  have l := a1.lim
  unfold numOf
  rw [if_pos h1]
  obtain ⟨c1, c2⟩ := canon l h1
  show NumAt _ _ _ _
  rw [← c1, ← c2]
  assumption
 ·unfold rq; rw [e2]
  have l := a2.lim
  unfold numOf
  rw [if_pos h2]
  obtain ⟨c1, c2⟩ := canon l h2
  show NumAt _ _ _ _
  rw [← c1, ← c2]
  assumption
theorem NumAt.in {w : World} {v : Value} {s : Bool} {xs : List Nat} {k : Nat} (h : NumAt w v s xs) (hk : xs.length ≤ k) : IntIn w v (numOf s xs) k := ⟨s, xs, h, rfl, hk⟩

theorem ratRight_any (s t : Bool) (xs ys : List Nat) (v : Value) (w : World) (h : RatRaw w v s xs t ys) (hx : xs.length ≤ 536870912) (hy : ys.length ≤ 536870912) :
  Calls Tryz.prog 25 #[v] w fun e w' => e = .returned (.bool (rtB s xs t ys)) ∧ Beh w w' := by
 obtain ⟨p, c, r, d, rfl, h1, h2⟩ := h
 refine calm_enter (C := cxOf Tryz.prog w _) (args := [_]) Tryz.func25 rfl Tryz.ntmps25 (Nat.le_of_ble_eq_true rfl) ?_
 (repeat first|refine wN ?_|refine wP rfl ?_|refine cx_r rfl ?_|refine cx_d rfl ?_|refine wO rfl rfl ?_)
 refine VO.call rfl rfl (fk Tryz.func58) (fun wa1 ka1 ba1 => (bright_any s xs _ wa1 (h1.beh ba1)).mono ?_)
 rintro e w1 ⟨rfl, hb1⟩
 cases q1 : nright s xs
 ·refine ⟨_, rfl, hb1, fun kb1 _ bb1 => wV rfl ?_⟩
  (repeat first|refine wN ?_|refine wP rfl ?_|refine cx_r rfl ?_|refine cx_d rfl ?_|refine wO rfl rfl ?_)
  refine VS.ret (cx_ok _ _) rfl rfl (fun wz kz bz => ?_)
  exact ⟨by simp [rtB, q1, tup], bz⟩
 refine ⟨_, rfl, hb1, fun kb1 _ bb1 => wV rfl ?_⟩
 (repeat first|refine wN ?_|refine wP rfl ?_|refine cx_r rfl ?_|refine cx_d rfl ?_|refine wO rfl rfl ?_)
 refine VO.call rfl rfl (fk Tryz.func58) (fun wa2 ka2 ba2 => (bright_any t ys _ wa2 (h2.beh ba2)).mono ?_)
 rintro e w2 ⟨rfl, hb2⟩
 cases q2 : nright t ys
 ·refine ⟨_, rfl, hb2, fun kb2 _ bb2 => wV rfl ?_⟩
  (repeat first|refine wN ?_|refine wP rfl ?_|refine cx_r rfl ?_|refine cx_d rfl ?_|refine wO rfl rfl ?_)
  refine VS.ret (cx_ok _ _) rfl rfl (fun wz kz bz => ?_)
  exact ⟨by simp [rtB, q1, q2, tup], bz⟩
 refine ⟨_, rfl, hb2, fun kb2 _ bb2 => wV rfl ?_⟩
 (repeat first|refine wN ?_|refine wP rfl ?_|refine cx_r rfl ?_|refine cx_d rfl ?_|refine wO rfl rfl ?_)
 refine VO.call rfl rfl (fk Tryz.func22) (fun wa3 ka3 ba3 => (bsign_any _ (numOf t ys) _ wa3 ((h2.in (Nat.le_refl _)).beh ba3)).mono ?_)
 rintro e w3 ⟨rfl, hb3⟩
 by_cases q3 : 0 < numOf t ys
 ·rw [sign_pos q3]
  refine ⟨_, rfl, hb3, fun kb3 _ bb3 => wV rfl ?_⟩
  (repeat first|refine wN ?_|refine wP rfl ?_|refine cx_r rfl ?_|refine cx_d rfl ?_|refine wO rfl rfl ?_)
  refine VO.call rfl rfl (fk Tryz.func59) (fun wa4 ka4 ba4 => (bgcd_any _ _ (numOf s xs) (numOf t ys) _ _ wa4 ((h1.in (Nat.le_refl _)).beh ba4) ((h2.in (Nat.le_refl _)).beh ba4) hx hy).mono ?_)
  rintro e w4 ⟨r4, rfl, h4, hb4⟩
  obtain ⟨s4, p4, n4, c4, rfl⟩ := h4.form
  refine ⟨_, rfl, hb4, fun kb4 _ bb4 => wV rfl ?_⟩
  (repeat first|refine wN ?_|refine wP rfl ?_|refine cx_r rfl ?_|refine cx_d rfl ?_|refine wO rfl rfl ?_)
  refine VO.call rfl rfl (fk Tryz.func60) (fun wa5 ka5 ba5 => (ratone_any wa5).mono ?_)
  rintro e w5 ⟨r5, rfl, h5, hb5⟩
  obtain ⟨s5, p5, n5, c5, rfl⟩ := h5.form
  refine ⟨_, rfl, hb5, fun kb5 _ bb5 => wV rfl ?_⟩
  (repeat first|refine wN ?_|refine wP rfl ?_|refine cx_r rfl ?_|refine cx_d rfl ?_|refine wO rfl rfl ?_)
  have hg : Sz (Int.gcd (numOf s xs) (numOf t ys) : Int) ys.length := by
   obtain ⟨_, _, _, _, l2⟩ := h2
   refine Sz.le (Y := numOf t ys) (numOf_sz l2 (Nat.le_refl _)) ?_
   rw [Int.natAbs_natCast, ← Int.natAbs_natCast (Int.gcd (numOf s xs) (numOf t ys))]
   have := Int.gcd_dvd_right (numOf s xs) (numOf t ys)
   have := Int.natAbs_dvd_natAbs.2 this
   exact Nat.le_of_dvd (by omega) this
  refine VO.call rfl rfl (fk Tryz.func34) (fun wa6 ka6 ba6 => (bcmp_any _ _ (Int.gcd (numOf s xs) (numOf t ys) : Int) 1 _ 1 wa6 ((h4.kp (ka5.thn ((Kp.of hb5).thn ka6))).in hg) ((h5.kp ka6).in (Sz.small (by decide))) (by omega) (by omega)).mono ?_)
  rintro e w6 ⟨rfl, hb6⟩
  by_cases q4 : Int.gcd (numOf s xs) (numOf t ys) = 1
  ·rw [show ((Int.gcd (numOf s xs) (numOf t ys) : Int) - 1).sign = 0 by rw [q4]; rfl]
   refine ⟨_, rfl, hb6, fun kb6 _ bb6 => wV rfl ?_⟩
   (repeat first|refine wN ?_|refine wP rfl ?_|refine cx_r rfl ?_|refine cx_d rfl ?_|refine wO rfl rfl ?_)
   refine VS.ret (cx_ok _ _) rfl rfl (fun wz kz bz => ?_)
   exact ⟨by simp [rtB, q1, q2, q3, q4, tup], bz⟩
  ·have hne : (((Int.gcd (numOf s xs) (numOf t ys) : Int) - 1).sign == 0) = false := by
    rw [beq_eq_false_iff_ne]
    intro e
    have := Int.sign_eq_zero_iff_zero.1 e
    omega
   refine ⟨_, rfl, hb6, fun kb6 _ bb6 => wV rfl ?_⟩
   (repeat first|refine wN ?_|refine wP rfl ?_|refine cx_r rfl ?_|refine cx_d rfl ?_|refine wO rfl rfl ?_)
   refine VS.ret (cx_ok _ _) rfl rfl (fun wz kz bz => ?_)
   exact ⟨by simp only [rtB, q1, q2, q3, q4, tup, Bool.true_and, decide_true, decide_false, hne], bz⟩
 ·have q4 : (numOf t ys).sign = 0 ∨ (numOf t ys).sign = -1 := by
   rcases Int.lt_trichotomy (numOf t ys) 0 with e | e | e
   ·exact .inr (sign_neg e)
   ·rw [e]; exact .inl rfl
   ·exact absurd e q3
  rcases q4 with q4 | q4
  all_goals
   rw [q4]
   refine ⟨_, rfl, hb3, fun kb3 _ bb3 => wV rfl ?_⟩
   (repeat first|refine wN ?_|refine wP rfl ?_|refine cx_r rfl ?_|refine cx_d rfl ?_|refine wO rfl rfl ?_)
   refine VS.ret (cx_ok _ _) rfl rfl (fun wz kz bz => ?_)
   exact ⟨by simp [rtB, q1, q2, q3, tup], bz⟩

theorem RatRd.zero {w : World} {p : Option Addr} {n c : Nat} {s : Bool} (h : IntRd w (.agg #[.bool s, .slice p n c]) 1) : RatRd w (.agg #[.bool false, .slice none 0 0, .bool s, .slice p n c]) 0 := ⟨_, _, _, _, _, _, _, _, rfl, IntRd.zero _, h⟩
theorem RatOwn.zero {w : World} {B : Nat} {p : Option Addr} {n c : Nat} {s : Bool} (h : IntOwn w B (.agg #[.bool s, .slice p n c]) 1) : RatOwn w B (.agg #[.bool false, .slice none 0 0, .bool s, .slice p n c]) 0 := ⟨_, _, _, _, _, _, _, _, rfl, IntOwn.zero _ _, h⟩
theorem ratright_any (v : Value) (q : Rat) (k : Nat) (w : World) (h : RatIn w v q k) (hk : k ≤ 536870912) :
  Calls Tryz.prog 55 #[v] w fun e w' => ∃ r, e = .returned r ∧ RatRd w' r q ∧ Beh w w' := by
 obtain ⟨s, xs, t, ys, hraw, rfl, hx, hy⟩ := h
 have hraw' := hraw
 obtain ⟨p, c, r, d, rfl, _, _⟩ := hraw
 refine calm_enter (C := cxOf Tryz.prog w _) (args := [_]) Tryz.func55 rfl Tryz.ntmps55 (Nat.le_of_ble_eq_true rfl) ?_
 (repeat first|refine wN ?_|refine wP rfl ?_|refine cx_r rfl ?_|refine cx_d rfl ?_|refine wO rfl rfl ?_)
 refine VO.call rfl rfl (fk Tryz.func25) (fun wa1 ka1 ba1 => (ratRight_any s t xs ys _ wa1 (hraw'.kp ka1) (by omega) (by omega)).mono ?_)
 rintro e w1 ⟨rfl, hb1⟩
 cases hq : rtB s xs t ys
 ·refine ⟨_, rfl, hb1, fun kb1 _ bb1 => wV rfl ?_⟩
  (repeat first|refine wN ?_|refine wP rfl ?_|refine cx_r rfl ?_|refine cx_d rfl ?_|refine wO rfl rfl ?_)
  refine VO.call rfl rfl (fk Tryz.func60) (fun wa2 ka2 ba2 => (ratone_any wa2).mono ?_)
  rintro e w2 ⟨r2, rfl, h2, hb2⟩
  obtain ⟨s2, p2, n2, c2, rfl⟩ := h2.form
  refine ⟨_, rfl, hb2, fun kb2 _ bb2 => wV rfl ?_⟩
  (repeat first|refine wN ?_|refine wP rfl ?_|refine cx_r rfl ?_|refine cx_d rfl ?_|refine wO rfl rfl ?_)
  refine VS.ret (cx_ok _ _) rfl rfl (fun wz kz bz => ?_)
  exact ⟨_, rfl, by rw [rq_wrong hq]; exact RatRd.zero (h2.kp kz).rd, bz⟩
 ·refine ⟨_, rfl, hb1, fun kb1 _ bb1 => wV rfl ?_⟩
  (repeat first|refine wN ?_|refine wP rfl ?_|refine cx_r rfl ?_|refine cx_d rfl ?_|refine wO rfl rfl ?_)
  refine VS.ret (cx_ok _ _) rfl rfl (fun wz kz bz => ?_)
  exact ⟨_, rfl, (rq_right hraw' hq).kp (kb1.thn kz), bz⟩

theorem gcd_sz {X Y : Int} {k : Nat} (hY : Sz Y k) (h : Y ≠ 0) : Sz (Int.gcd X Y : Int) k := by
 refine Sz.le (Y := Y) hY ?_
 rw [Int.natAbs_natCast, ← Int.natAbs_natCast (Int.gcd X Y)]
 exact Nat.le_of_dvd (by omega) (Int.natAbs_dvd_natAbs.2 (Int.gcd_dvd_right X Y))
theorem floordiv_ok {w w' : World} {X Y : Int} {e : Ending} (h : FloorDiv w w' X Y e) (hY : Y ≠ 0) : ∃ v u, e = .returned (.tuple #[v, u, .int .i64 0]) ∧ IntOwn w' w.heap.size v (X.fdiv Y) ∧ IntOwn w' w.heap.size u (X.fmod Y) := by
 rcases h with ⟨h0, _⟩ | ⟨_, h⟩
 ·exact absurd h0 hY
 ·exact h
theorem reduced_any (v u : Value) (X Y : Int) (j k : Nat) (w : World) (hv : IntIn w v X j) (hu : IntIn w u Y k) (hj : j ≤ 268435456) (hk : k ≤ 268435456) (hY : Y ≠ 0) :
  Calls Tryz.prog 69 #[v, u] w fun e w' => ∃ r, e = .returned r ∧ RatOwn w' w.heap.size r (Rat.divInt X Y) ∧ Beh w w' := by
 obtain ⟨s, p, n, c, rfl⟩ := hv.form
 obtain ⟨t, r, m, d, rfl⟩ := hu.form
 refine calm_enter (C := cxOf Tryz.prog w _) (args := [_, _]) Tryz.func69 rfl Tryz.ntmps69 (Nat.le_of_ble_eq_true rfl) ?_
 (repeat first|refine wN ?_|refine wP rfl ?_|refine cx_r rfl ?_|refine cx_d rfl ?_|refine wO rfl rfl ?_)
 refine VO.call rfl rfl (fk Tryz.func59) (fun wa1 ka1 ba1 => (bgcd_any _ _ X Y j k wa1 (hv.kp ka1) (hu.kp ka1) (by omega) (by omega)).mono ?_)
 rintro e w1 ⟨r1, rfl, h1, hb1⟩
 obtain ⟨s1, p1, n1, c1, rfl⟩ := h1.form
 refine ⟨_, rfl, hb1, fun kb1 _ bb1 => wV rfl ?_⟩
 (repeat first|refine wN ?_|refine wP rfl ?_|refine cx_r rfl ?_|refine cx_d rfl ?_|refine wO rfl rfl ?_)
 refine VO.call rfl rfl (fk Tryz.func22) (fun wa2 ka2 ba2 => (bsign_any _ Y k wa2 (hu.beh ba2)).mono ?_)
 rintro e w2 ⟨rfl, hb2⟩
 have hgs : Sz (Int.gcd X Y : Int) k := gcd_sz hu.len hY
 have hg0 : (Int.gcd X Y : Int) ≠ 0 := by
  intro e
  have := (Int.gcd_eq_zero_iff.1 (show Int.gcd X Y = 0 by omega)).2
  exact hY this
 rcases Int.lt_or_lt_of_ne hY with q | q
 ·rw [sign_neg q]
  obtain ⟨l1, l2⟩ := low_neg (X := X) q
  refine ⟨_, rfl, hb2, fun kb2 _ bb2 => wV rfl ?_⟩
  (repeat first|refine wN ?_|refine wP rfl ?_|refine cx_r rfl ?_|refine cx_d rfl ?_|refine wO rfl rfl ?_)
  refine VO.call rfl rfl (fk Tryz.func96) (fun wa3 ka3 ba3 => (bneg_any _ (Int.gcd X Y : Int) k wa3 ((h1.kp (kb2.thn ka3)).in hgs) (by omega)).mono ?_)
  rintro e w3 ⟨r3, rfl, h3, hb3⟩
  obtain ⟨s3, p3, n3, c3, rfl⟩ := h3.form
  refine ⟨_, rfl, hb3, fun kb3 _ bb3 => wV rfl ?_⟩
  (repeat first|refine wN ?_|refine wP rfl ?_|refine cx_r rfl ?_|refine cx_d rfl ?_|refine wO rfl rfl ?_)
  refine VO.call rfl rfl (fk Tryz.func98) (fun wa4 ka4 ba4 => (bdivmod_any _ _ X (-(Int.gcd X Y : Int)) j k wa4 (hv.beh ba4) ((h3.kp ka4).in hgs.neg) (by omega) (by omega)).mono ?_)
  rintro e w4 ⟨hd4, hb4⟩
  obtain ⟨v4, u4, rfl, h4, h4'⟩ := floordiv_ok hd4 (by omega)
  obtain ⟨s4, p4, n4, c4, rfl⟩ := h4.form
  obtain ⟨t4, r4, m4, d4, rfl⟩ := h4'.form
  refine ⟨_, rfl, hb4, fun kb4 _ bb4 => wV rfl ?_⟩
  (repeat first|refine wN ?_|refine wP rfl ?_|refine cx_r rfl ?_|refine cx_d rfl ?_|refine wO rfl rfl ?_)
  refine VO.call rfl rfl (fk Tryz.func98) (fun wa5 ka5 ba5 => (bdivmod_any _ _ Y (-(Int.gcd X Y : Int)) k k wa5 (hu.beh ba5) ((h3.kp (kb4.thn ka5)).in hgs.neg) (by omega) (by omega)).mono ?_)
  rintro e w5 ⟨hd5, hb5⟩
  obtain ⟨v5, u5, rfl, h5, h5'⟩ := floordiv_ok hd5 (by omega)
  obtain ⟨s5, p5, n5, c5, rfl⟩ := h5.form
  obtain ⟨t5, r5, m5, d5, rfl⟩ := h5'.form
  refine ⟨_, rfl, hb5, fun kb5 _ bb5 => wV rfl ?_⟩
  (repeat first|refine wN ?_|refine wP rfl ?_|refine cx_r rfl ?_|refine cx_d rfl ?_|refine wO rfl rfl ?_)
  refine VS.ret (cx_ok _ _) rfl rfl (fun wz kz bz => ?_)
  exact ⟨_, rfl, ⟨_, _, _, _, _, _, _, _, rfl, IntOwn.cast ((h4.kp (kb5.thn kz)).mono ba4.size) l1, IntOwn.cast ((h5.kp kz).mono ba5.size) l2⟩, bz⟩
 ·rw [sign_pos q]
  obtain ⟨l1, l2⟩ := low_pos (X := X) q
  refine ⟨_, rfl, hb2, fun kb2 _ bb2 => wV rfl ?_⟩
  (repeat first|refine wN ?_|refine wP rfl ?_|refine cx_r rfl ?_|refine cx_d rfl ?_|refine wO rfl rfl ?_)
  refine VO.call rfl rfl (fk Tryz.func98) (fun wa4 ka4 ba4 => (bdivmod_any _ _ X (Int.gcd X Y : Int) j k wa4 (hv.beh ba4) ((h1.kp (kb2.thn ka4)).in hgs) (by omega) (by omega)).mono ?_)
  rintro e w4 ⟨hd4, hb4⟩
  obtain ⟨v4, u4, rfl, h4, h4'⟩ := floordiv_ok hd4 (by omega)
  obtain ⟨s4, p4, n4, c4, rfl⟩ := h4.form
  obtain ⟨t4, r4, m4, d4, rfl⟩ := h4'.form
  refine ⟨_, rfl, hb4, fun kb4 _ bb4 => wV rfl ?_⟩
  (repeat first|refine wN ?_|refine wP rfl ?_|refine cx_r rfl ?_|refine cx_d rfl ?_|refine wO rfl rfl ?_)
  refine VO.call rfl rfl (fk Tryz.func98) (fun wa5 ka5 ba5 => (bdivmod_any _ _ Y (Int.gcd X Y : Int) k k wa5 (hu.beh ba5) ((h1.kp (kb2.thn (kb4.thn ka5))).in hgs) (by omega) (by omega)).mono ?_)
  rintro e w5 ⟨hd5, hb5⟩
  obtain ⟨v5, u5, rfl, h5, h5'⟩ := floordiv_ok hd5 (by omega)
  obtain ⟨s5, p5, n5, c5, rfl⟩ := h5.form
  obtain ⟨t5, r5, m5, d5, rfl⟩ := h5'.form
  refine ⟨_, rfl, hb5, fun kb5 _ bb5 => wV rfl ?_⟩
  (repeat first|refine wN ?_|refine wP rfl ?_|refine cx_r rfl ?_|refine cx_d rfl ?_|refine wO rfl rfl ?_)
  refine VS.ret (cx_ok _ _) rfl rfl (fun wz kz bz => ?_)
  exact ⟨_, rfl, ⟨_, _, _, _, _, _, _, _, rfl, IntOwn.cast ((h4.kp (kb5.thn kz)).mono ba4.size) l1, IntOwn.cast ((h5.kp kz).mono ba5.size) l2⟩, bz⟩
end Go.Proofs.YtofdiijioejljaaGreat
/- What the fractions' functions compute: New, Of, Whole, add, Add, Neg, Sub, Mul, Div, Sign, Cmp, Same. -/
namespace Go.Proofs.YtofdiijioejljaaGreat
open Go.RowKit
attribute [local irreducible] vcOps VS

theorem add_raw (q r : Rat) : q + r = Rat.divInt (q.num * r.den + r.num * q.den) ((q.den : Int) * r.den) := by
 rw [Rat.add_def', ← Rat.divInt_ofNat]; simp
theorem add_same {q r : Rat} (h : (q.den : Int) = r.den) : q + r = Rat.divInt (q.num + r.num) q.den := by
 rw [add_raw, ← h]
 have hd : (q.den : Int) ≠ 0 := by have := q.den_nz; omega
 rw [← Int.add_mul, Rat.divInt_mul_right hd]
theorem mul_raw (q r : Rat) : q * r = Rat.divInt (q.num * r.num) ((q.den : Int) * r.den) := by
 rw [Rat.mul_def', ← Rat.divInt_ofNat]; simp
theorem div_raw (q r : Rat) : q / r = Rat.divInt (q.num * r.den) ((q.den : Int) * r.num) := by
 rw [Rat.div_def, Rat.inv_def]
 conv => lhs; lhs; rw [← Rat.num_divInt_den q]
 rw [Rat.divInt_mul_divInt]
theorem divInt_sz {X Y : Int} {k l : Nat} (hX : Sz X k) (hY : Sz Y l) (h : Y ≠ 0) : Sz (Rat.divInt X Y).num k ∧ Sz ((Rat.divInt X Y).den : Int) l := by
 constructor
 ·refine Sz.le hX ?_
  rw [Rat.num_divInt]
  have h1 : (Y.sign * X / (Y.gcd X : Int)).natAbs ≤ (Y.sign * X).natAbs := Int.natAbs_ediv_le_natAbs _ _
  rw [Int.natAbs_mul] at h1
  have h2 : Y.sign.natAbs = 1 := by
   rcases Int.lt_or_lt_of_ne h with e | e
   ·rw [sign_neg e]; rfl
   ·rw [sign_pos e]; rfl
  rw [h2, Nat.one_mul] at h1
  exact h1
 ·refine Sz.le hY ?_
  rw [Rat.den_divInt, if_neg h, Int.natAbs_natCast]
  exact Nat.div_le_self _ _
theorem RSz.add {q r : Rat} {k l : Nat} (hq : RSz q k) (hr : RSz r l) : RSz (q + r) (k + l + 1) := by
 rw [add_raw]
 have hd : (q.den : Int) * r.den ≠ 0 := Int.mul_ne_zero (by have := q.den_nz; omega) (by have := r.den_nz; omega)
 obtain ⟨h1, h2⟩ := divInt_sz (Sz.add (hq.1.mul hr.2) (hr.1.mul hq.2) (m := k + l) (by omega) (by omega)) (hq.2.mul hr.2) hd
 exact ⟨h1, h2.mono (by omega)⟩
theorem RSz.mul {q r : Rat} {k l : Nat} (hq : RSz q k) (hr : RSz r l) : RSz (q * r) (k + l) := by
 rw [mul_raw]
 have hd : (q.den : Int) * r.den ≠ 0 := Int.mul_ne_zero (by have := q.den_nz; omega) (by have := r.den_nz; omega)
 exact divInt_sz (hq.1.mul hr.1) (hq.2.mul hr.2) hd
theorem RSz.neg {q : Rat} {k : Nat} (hq : RSz q k) : RSz (-q) k := ⟨by rw [Rat.neg_num]; exact hq.1.neg, by rw [Rat.neg_den]; exact hq.2⟩
theorem RSz.sub {q r : Rat} {k l : Nat} (hq : RSz q k) (hr : RSz r l) : RSz (q - r) (k + l + 1) := by rw [Rat.sub_eq_add_neg]; exact hq.add hr.neg
theorem RSz.div {q r : Rat} {k l : Nat} (hq : RSz q k) (hr : RSz r l) (hk : 1 ≤ k + l) : RSz (q / r) (k + l) := by
 by_cases h : r = 0
 ·subst h; rw [Rat.div_def, Rat.inv_zero, Rat.mul_zero]; exact RSz.zero.mono hk
 ·rw [div_raw]
  have hd : (q.den : Int) * r.num ≠ 0 := Int.mul_ne_zero (by have := q.den_nz; omega) (fun e => h (Rat.num_eq_zero.1 e))
  exact divInt_sz (hq.1.mul hr.2) (hq.2.mul hr.1) hd
def rcmp (q r : Rat) : Int := if q < r then -1 else if q = r then 0 else 1
theorem rcmp_raw (q r : Rat) : (q.num * r.den - r.num * q.den).sign = rcmp q r := by
 unfold rcmp
 by_cases h1 : q < r
 ·rw [if_pos h1]; exact sign_neg (by have := (Rat.lt_iff q r).1 h1; omega)
 ·rw [if_neg h1]
  by_cases h2 : q = r
  ·subst h2; rw [if_pos rfl, Int.sub_self]; rfl
  ·rw [if_neg h2]
   refine sign_pos ?_
   have a := mt (Rat.lt_iff q r).2 h1
   have b := mt Rat.eq_iff_mul_eq_mul.2 h2
   omega
theorem rsign_raw (q : Rat) : q.num.sign = rcmp q 0 := by
 have := rcmp_raw q 0
 simpa using this
theorem rcmp_sub (q r : Rat) : rcmp (q - r) 0 = rcmp q r := by
 unfold rcmp
 have h1 : q - r < 0 ↔ q < r := by grind
 have h2 : q - r = 0 ↔ q = r := by grind
 simp only [h1, h2]

def dcode (Y : Int) : Int := if Y = 0 then 20 else 0
theorem ratNew_any (v u : Value) (X Y : Int) (j k : Nat) (w : World) (hv : IntIn w v X j) (hu : IntIn w u Y k) (hj : j ≤ 268435456) (hk : k ≤ 268435456) :
  Calls Tryz.prog 70 #[v, u] w fun e w' => ∃ r, e = .returned (.tuple #[r, .int .i64 (dcode Y)]) ∧ RatOwn w' w.heap.size r (Rat.divInt X Y) ∧ Beh w w' := by
 obtain ⟨s, p, n, c, rfl⟩ := hv.form
 obtain ⟨t, r, m, d, rfl⟩ := hu.form
 refine calm_enter (C := cxOf Tryz.prog w _) (args := [_, _]) Tryz.func70 rfl Tryz.ntmps70 (Nat.le_of_ble_eq_true rfl) ?_
 (repeat first|refine wN ?_|refine wP rfl ?_|refine cx_r rfl ?_|refine cx_d rfl ?_|refine wO rfl rfl ?_)
 refine VO.call rfl rfl (fk Tryz.func22) (fun wa1 ka1 ba1 => (bsign_any _ Y k wa1 (hu.beh ba1)).mono ?_)
 rintro e w1 ⟨rfl, hb1⟩
 by_cases hY : Y = 0
 ·rw [show Y.sign = 0 by rw [hY]; rfl]
  refine ⟨_, rfl, hb1, fun kb1 _ bb1 => wV rfl ?_⟩
  (repeat first|refine wN ?_|refine wP rfl ?_|refine cx_r rfl ?_|refine cx_d rfl ?_|refine wO rfl rfl ?_)
  refine VO.call rfl rfl (fk Tryz.func60) (fun wa2 ka2 ba2 => (ratone_any wa2).mono ?_)
  rintro e w2 ⟨r2, rfl, h2, hb2⟩
  obtain ⟨s2, p2, n2, c2, rfl⟩ := h2.form
  refine ⟨_, rfl, hb2, fun kb2 _ bb2 => wV rfl ?_⟩
  (repeat first|refine wN ?_|refine wP rfl ?_|refine cx_r rfl ?_|refine cx_d rfl ?_|refine wO rfl rfl ?_)
  refine VS.ret (cx_ok _ _) rfl rfl (fun wz kz bz => ?_)
  refine ⟨_, by rw [dcode, if_pos hY]; rfl, ?_, bz⟩
  rw [hY, Rat.divInt_zero]
  exact RatOwn.zero ((h2.kp kz).mono ba2.size)
 ·have hs : (Y.sign == 0) = false := by
   rw [beq_eq_false_iff_ne]
   exact fun e => hY (Int.sign_eq_zero_iff_zero.1 e)
  rcases Int.lt_or_lt_of_ne hY with q | q
  all_goals
   first | rw [sign_neg q] | rw [sign_pos q]
   refine ⟨_, rfl, hb1, fun kb1 _ bb1 => wV rfl ?_⟩
   (repeat first|refine wN ?_|refine wP rfl ?_|refine cx_r rfl ?_|refine cx_d rfl ?_|refine wO rfl rfl ?_)
   refine VO.call rfl rfl (fk Tryz.func69) (fun wa2 ka2 ba2 => (reduced_any _ _ X Y j k wa2 (hv.beh ba2) (hu.beh ba2) hj hk hY).mono ?_)
   rintro e w2 ⟨r2, rfl, h2, hb2⟩
   obtain ⟨s2, p2, n2, c2, t2, r2, m2, d2, rfl⟩ := h2.form
   refine ⟨_, rfl, hb2, fun kb2 _ bb2 => wV rfl ?_⟩
   (repeat first|refine wN ?_|refine wP rfl ?_|refine cx_r rfl ?_|refine cx_d rfl ?_|refine wO rfl rfl ?_)
   refine VS.ret (cx_ok _ _) rfl rfl (fun wz kz bz => ?_)
   exact ⟨_, by rw [dcode, if_neg hY]; rfl, (h2.kp kz).mono ba2.size, bz⟩

theorem ratWhole_any (n : Int) (w : World) (h0 : -9223372036854775808 ≤ n) (h1 : n ≤ 9223372036854775807) :
  Calls Tryz.prog 28 #[.int .i64 n] w fun e w' => ∃ r, e = .returned r ∧ RatOwn w' w.heap.size r (n : Rat) ∧ Beh w w' := by
 refine calm_enter (C := cxOf Tryz.prog w _) (args := [_]) Tryz.func28 rfl Tryz.ntmps28 (Nat.le_of_ble_eq_true rfl) ?_
 (repeat first|refine wN ?_|refine wP rfl ?_|refine cx_r rfl ?_|refine cx_d rfl ?_|refine wO rfl rfl ?_)
 refine VO.call rfl rfl (fk Tryz.func38) (fun wa1 ka1 ba1 => (bOf_any n wa1 h0 h1).mono ?_)
 rintro e w1 ⟨r1, rfl, q1, hb1⟩
 obtain ⟨s1, p1, n1, c1, rfl⟩ := q1.form
 refine ⟨_, rfl, hb1, fun kb1 _ bb1 => wV rfl ?_⟩
 (repeat first|refine wN ?_|refine wP rfl ?_|refine cx_r rfl ?_|refine cx_d rfl ?_|refine wO rfl rfl ?_)
 refine VO.call rfl rfl (fk Tryz.func60) (fun wa2 ka2 ba2 => (ratone_any wa2).mono ?_)
 rintro e w2 ⟨r2, rfl, q2, hb2⟩
 obtain ⟨s2, p2, n2, c2, rfl⟩ := q2.form
 refine ⟨_, rfl, hb2, fun kb2 _ bb2 => wV rfl ?_⟩
 (repeat first|refine wN ?_|refine wP rfl ?_|refine cx_r rfl ?_|refine cx_d rfl ?_|refine wO rfl rfl ?_)
 refine VS.ret (cx_ok _ _) rfl rfl (fun wz kz bz => ?_)
 exact ⟨_, rfl, ⟨_, _, _, _, _, _, _, _, rfl, (q1.kp (kb2.thn kz)).mono ba1.size, (q2.kp kz).mono ba2.size⟩, bz⟩

set_option maxHeartbeats 400000 in
theorem radd_any' (v u : Value) (q r : Rat) (k l : Nat) (w : World) (hv : RatRd w v q) (hu : RatRd w u r) (hq : RSz q k) (hr : RSz r l) (hk : k ≤ 67108864) (hl : l ≤ 67108864) :
  Calls Tryz.prog 67 #[v, u] w fun e w' => ∃ x, e = .returned x ∧ RatOwn w' w.heap.size x (q + r) ∧ Beh w w' := by
 obtain ⟨s, p, n, c, t, y, m, d, rfl⟩ := hv.form
 obtain ⟨s', p', n', c', t', y', m', d', rfl⟩ := hu.form
 obtain ⟨v1, v2⟩ := hv.parts
 obtain ⟨u1, u2⟩ := hu.parts
 have dq : (q.den : Int) ≠ 0 := by have := q.den_nz; omega
 have dr : (r.den : Int) ≠ 0 := by have := r.den_nz; omega
 refine calm_enter (C := cxOf Tryz.prog w _) (args := [_, _]) Tryz.func67 rfl Tryz.ntmps67 (Nat.le_of_ble_eq_true rfl) ?_
 (repeat first|refine wN ?_|refine wP rfl ?_|refine cx_r rfl ?_|refine cx_d rfl ?_|refine wO rfl rfl ?_)
 refine VO.call rfl rfl (fk Tryz.func34) (fun wa1 ka1 ba1 => (bcmp_any _ _ (q.den : Int) r.den k l wa1 ((v2.beh ba1).to hq.2) ((u2.beh ba1).to hr.2) (by omega) (by omega)).mono ?_)
 rintro e w1 ⟨rfl, hb1⟩
 by_cases hd : (q.den : Int) = r.den
 ·rw [show ((q.den : Int) - r.den).sign = 0 by rw [hd, Int.sub_self]; rfl]
  refine ⟨_, rfl, hb1, fun kb1 _ bb1 => wV rfl ?_⟩
  (repeat first|refine wN ?_|refine wP rfl ?_|refine cx_r rfl ?_|refine cx_d rfl ?_|refine wO rfl rfl ?_)
  refine VO.call rfl rfl (fk Tryz.func35) (fun wa2 ka2 ba2 => (badd_any _ _ q.num r.num k l wa2 ((v1.beh ba2).to hq.1) ((u1.beh ba2).to hr.1) (by omega) (by omega)).mono ?_)
  rintro e w2 ⟨r2, rfl, q2, hb2⟩
  obtain ⟨s2, p2, n2, c2, rfl⟩ := q2.form
  refine ⟨_, rfl, hb2, fun kb2 _ bb2 => wV rfl ?_⟩
  (repeat first|refine wN ?_|refine wP rfl ?_|refine cx_r rfl ?_|refine cx_d rfl ?_|refine wO rfl rfl ?_)
  refine VO.call rfl rfl (fk Tryz.func69) (fun wa3 ka3 ba3 => (reduced_any _ _ (q.num + r.num) q.den (k + l + 1) k wa3 ((q2.kp ka3).in (Sz.add hq.1 hr.1 (by omega) (by omega))) ((v2.beh ba3).to hq.2) (by omega) (by omega) dq).mono ?_)
  rintro e w3 ⟨r3, rfl, q3, hb3⟩
  obtain ⟨s3, p3, n3, c3, t3, y3, m3, d3, rfl⟩ := q3.form
  refine ⟨_, rfl, hb3, fun kb3 _ bb3 => wV rfl ?_⟩
  (repeat first|refine wN ?_|refine wP rfl ?_|refine cx_r rfl ?_|refine cx_d rfl ?_|refine wO rfl rfl ?_)
  refine VS.ret (cx_ok _ _) rfl rfl (fun wz kz bz => ?_)
  exact ⟨_, rfl, RatOwn.cast ((q3.kp kz).mono ba3.size) (add_same hd).symm, bz⟩
 ·have hs : ((((q.den : Int) - r.den).sign == 0)) = false := by
   rw [beq_eq_false_iff_ne]
   intro e
   have := Int.sign_eq_zero_iff_zero.1 e
   omega
  rcases Int.lt_or_lt_of_ne (show (q.den : Int) - r.den ≠ 0 by omega) with e | e
  all_goals
   first | rw [sign_neg e] | rw [sign_pos e]
   refine ⟨_, rfl, hb1, fun kb1 _ bb1 => wV rfl ?_⟩
   (repeat first|refine wN ?_|refine wP rfl ?_|refine cx_r rfl ?_|refine cx_d rfl ?_|refine wO rfl rfl ?_)
   refine VO.call rfl rfl (fk Tryz.func61) (fun wa2 ka2 ba2 => (bmul_any _ _ q.num r.den k l wa2 ((v1.beh ba2).to hq.1) ((u2.beh ba2).to hr.2) (by omega) (by omega)).mono ?_)
   rintro e w2 ⟨r2, rfl, q2, hb2⟩
   obtain ⟨s2, p2, n2, c2, rfl⟩ := q2.form
   refine ⟨_, rfl, hb2, fun kb2 _ bb2 => wV rfl ?_⟩
   (repeat first|refine wN ?_|refine wP rfl ?_|refine cx_r rfl ?_|refine cx_d rfl ?_|refine wO rfl rfl ?_)
   refine VO.call rfl rfl (fk Tryz.func61) (fun wa3 ka3 ba3 => (bmul_any _ _ r.num q.den l k wa3 ((u1.beh ba3).to hr.1) ((v2.beh ba3).to hq.2) (by omega) (by omega)).mono ?_)
   rintro e w3 ⟨r3, rfl, q3, hb3⟩
   obtain ⟨s3, p3, n3, c3, rfl⟩ := q3.form
   refine ⟨_, rfl, hb3, fun kb3 _ bb3 => wV rfl ?_⟩
   (repeat first|refine wN ?_|refine wP rfl ?_|refine cx_r rfl ?_|refine cx_d rfl ?_|refine wO rfl rfl ?_)
   refine VO.call rfl rfl (fk Tryz.func35) (fun wa4 ka4 ba4 => (badd_any _ _ (q.num * r.den) (r.num * q.den) (k + l) (l + k) wa4 ((q2.kp (kb3.thn ka4)).in (hq.1.mul hr.2)) ((q3.kp ka4).in (hr.1.mul hq.2)) (by omega) (by omega)).mono ?_)
   rintro e w4 ⟨r4, rfl, q4, hb4⟩
   obtain ⟨s4, p4, n4, c4, rfl⟩ := q4.form
   refine ⟨_, rfl, hb4, fun kb4 _ bb4 => wV rfl ?_⟩
   (repeat first|refine wN ?_|refine wP rfl ?_|refine cx_r rfl ?_|refine cx_d rfl ?_|refine wO rfl rfl ?_)
   refine VO.call rfl rfl (fk Tryz.func61) (fun wa5 ka5 ba5 => (bmul_any _ _ q.den r.den k l wa5 ((v2.beh ba5).to hq.2) ((u2.beh ba5).to hr.2) (by omega) (by omega)).mono ?_)
   rintro e w5 ⟨r5, rfl, q5, hb5⟩
   obtain ⟨s5, p5, n5, c5, rfl⟩ := q5.form
   refine ⟨_, rfl, hb5, fun kb5 _ bb5 => wV rfl ?_⟩
   (repeat first|refine wN ?_|refine wP rfl ?_|refine cx_r rfl ?_|refine cx_d rfl ?_|refine wO rfl rfl ?_)
   refine VO.call rfl rfl (fk Tryz.func69) (fun wa6 ka6 ba6 => (reduced_any _ _ (q.num * r.den + r.num * q.den) ((q.den : Int) * r.den) (k + l + 1) (k + l) wa6 ((q4.kp (kb5.thn ka6)).in (Sz.add (hq.1.mul hr.2) (hr.1.mul hq.2) (by omega) (by omega))) ((q5.kp ka6).in (hq.2.mul hr.2)) (by omega) (by omega) (Int.mul_ne_zero dq dr)).mono ?_)
   rintro e w6 ⟨r6, rfl, q6, hb6⟩
   obtain ⟨s6, p6, n6, c6, t6, y6, m6, d6, rfl⟩ := q6.form
   refine ⟨_, rfl, hb6, fun kb6 _ bb6 => wV rfl ?_⟩
   (repeat first|refine wN ?_|refine wP rfl ?_|refine cx_r rfl ?_|refine cx_d rfl ?_|refine wO rfl rfl ?_)
   refine VS.ret (cx_ok _ _) rfl rfl (fun wz kz bz => ?_)
   exact ⟨_, rfl, RatOwn.cast ((q6.kp kz).mono ba6.size) (add_raw q r).symm, bz⟩
end Go.Proofs.YtofdiijioejljaaGreat
/- What the fractions' functions compute: Add, Neg, Sub, Mul, Div, Sign, Cmp, Same. -/
namespace Go.Proofs.YtofdiijioejljaaGreat
open Go.RowKit
attribute [local irreducible] vcOps VS

def up1 (k : Nat) : Nat := max k 1
theorem RatIn.sz1 {w : World} {v : Value} {q : Rat} {k : Nat} (h : RatIn w v q k) : RSz q (up1 k) := by
 obtain ⟨s, xs, t, ys, h1, h2, h3, h4⟩ := h
 exact RatIn.sz (k := up1 k) ⟨s, xs, t, ys, h1, h2, by unfold up1; omega, by unfold up1; omega⟩ (by unfold up1; omega)

theorem ratAdd_any (v u : Value) (q r : Rat) (k l : Nat) (w : World) (hv : RatIn w v q k) (hu : RatIn w u r l) (hk : k ≤ 67108864) (hl : l ≤ 67108864) :
  Calls Tryz.prog 41 #[v, u] w fun e w' => ∃ x, e = .returned x ∧ RatOwn w' w.heap.size x (q + r) ∧ Beh w w' := by
 obtain ⟨s, p, n, c, t, y, m, d, rfl⟩ := hv.form
 obtain ⟨s', p', n', c', t', y', m', d', rfl⟩ := hu.form
 refine calm_enter (C := cxOf Tryz.prog w _) (args := [_, _]) Tryz.func41 rfl Tryz.ntmps41 (Nat.le_of_ble_eq_true rfl) ?_
 (repeat first|refine wN ?_|refine wP rfl ?_|refine cx_r rfl ?_|refine cx_d rfl ?_|refine wO rfl rfl ?_)
 refine VO.call rfl rfl (fk Tryz.func55) (fun wa1 ka1 ba1 => (ratright_any _ q k wa1 (hv.kp ka1) (by omega)).mono ?_)
 rintro e w1 ⟨r1, rfl, q1, hb1⟩
 obtain ⟨s1, p1, n1, c1, t1, y1, m1, d1, rfl⟩ := q1.form
 refine ⟨_, rfl, hb1, fun kb1 _ bb1 => wV rfl ?_⟩
 (repeat first|refine wN ?_|refine wP rfl ?_|refine cx_r rfl ?_|refine cx_d rfl ?_|refine wO rfl rfl ?_)
 refine VO.call rfl rfl (fk Tryz.func55) (fun wa2 ka2 ba2 => (ratright_any _ r l wa2 (hu.kp (kb1.thn ka2)) (by omega)).mono ?_)
 rintro e w2 ⟨r2, rfl, q2, hb2⟩
 obtain ⟨s2, p2, n2, c2, t2, y2, m2, d2, rfl⟩ := q2.form
 refine ⟨_, rfl, hb2, fun kb2 _ bb2 => wV rfl ?_⟩
 (repeat first|refine wN ?_|refine wP rfl ?_|refine cx_r rfl ?_|refine cx_d rfl ?_|refine wO rfl rfl ?_)
 refine VO.call rfl rfl (fk Tryz.func67) (fun wa3 ka3 ba3 => (radd_any' _ _ q r _ _ wa3 (q1.kp (kb2.thn ka3)) (q2.kp ka3) hv.sz1 hu.sz1 (by unfold up1; omega) (by unfold up1; omega)).mono ?_)
 rintro e w3 ⟨r3, rfl, q3, hb3⟩
 obtain ⟨s3, p3, n3, c3, t3, y3, m3, d3, rfl⟩ := q3.form
 refine ⟨_, rfl, hb3, fun kb3 _ bb3 => wV rfl ?_⟩
 (repeat first|refine wN ?_|refine wP rfl ?_|refine cx_r rfl ?_|refine cx_d rfl ?_|refine wO rfl rfl ?_)
 refine VS.ret (cx_ok _ _) rfl rfl (fun wz kz bz => ?_)
 exact ⟨_, rfl, (q3.kp kz).mono ba3.size, bz⟩

theorem ratNeg_any (v : Value) (q : Rat) (k : Nat) (w : World) (hv : RatIn w v q k) (hk : k ≤ 536870912) :
  Calls Tryz.prog 68 #[v] w fun e w' => ∃ x, e = .returned x ∧ RatOwn w' w.heap.size x (-q) ∧ Beh w w' := by
 obtain ⟨s, p, n, c, t, y, m, d, rfl⟩ := hv.form
 refine calm_enter (C := cxOf Tryz.prog w _) (args := [_]) Tryz.func68 rfl Tryz.ntmps68 (Nat.le_of_ble_eq_true rfl) ?_
 (repeat first|refine wN ?_|refine wP rfl ?_|refine cx_r rfl ?_|refine cx_d rfl ?_|refine wO rfl rfl ?_)
 refine VO.call rfl rfl (fk Tryz.func55) (fun wa1 ka1 ba1 => (ratright_any _ q k wa1 (hv.kp ka1) hk).mono ?_)
 rintro e w1 ⟨r1, rfl, q1, hb1⟩
 obtain ⟨s1, p1, n1, c1, t1, y1, m1, d1, rfl⟩ := q1.form
 refine ⟨_, rfl, hb1, fun kb1 _ bb1 => wV rfl ?_⟩
 (repeat first|refine wN ?_|refine wP rfl ?_|refine cx_r rfl ?_|refine cx_d rfl ?_|refine wO rfl rfl ?_)
 obtain ⟨a1, a2⟩ := q1.parts
 refine VO.call rfl rfl (fk Tryz.func96) (fun wa2 ka2 ba2 => (bneg_any _ q.num _ wa2 ((a1.kp ka2).to hv.sz1.1) (by unfold up1; omega)).mono ?_)
 rintro e w2 ⟨r2, rfl, q2, hb2⟩
 obtain ⟨s2, p2, n2, c2, rfl⟩ := q2.form
 refine ⟨_, rfl, hb2, fun kb2 _ bb2 => wV rfl ?_⟩
 (repeat first|refine wN ?_|refine wP rfl ?_|refine cx_r rfl ?_|refine cx_d rfl ?_|refine wO rfl rfl ?_)
 refine VO.call rfl rfl (fk Tryz.func97) (fun wa3 ka3 ba3 => (babs_any _ q.den _ wa3 ((a2.kp (kb2.thn ka3)).to hv.sz1.2) (by unfold up1; omega)).mono ?_)
 rintro e w3 ⟨r3, rfl, q3, hb3⟩
 obtain ⟨s3, p3, n3, c3, rfl⟩ := q3.form
 refine ⟨_, rfl, hb3, fun kb3 _ bb3 => wV rfl ?_⟩
 (repeat first|refine wN ?_|refine wP rfl ?_|refine cx_r rfl ?_|refine cx_d rfl ?_|refine wO rfl rfl ?_)
 refine VS.ret (cx_ok _ _) rfl rfl (fun wz kz bz => ?_)
 exact ⟨_, rfl, ⟨_, _, _, _, _, _, _, _, rfl, IntOwn.cast ((q2.kp (kb3.thn kz)).mono ba2.size) (Rat.neg_num q).symm, IntOwn.cast ((q3.kp kz).mono ba3.size) (by rw [Rat.neg_den, Int.natAbs_natCast])⟩, bz⟩

theorem ratSub_any (v u : Value) (q r : Rat) (k l : Nat) (w : World) (hv : RatIn w v q k) (hu : RatIn w u r l) (hk : k ≤ 67108864) (hl : l ≤ 67108864) :
  Calls Tryz.prog 31 #[v, u] w fun e w' => ∃ x, e = .returned x ∧ RatOwn w' w.heap.size x (q - r) ∧ Beh w w' := by
 obtain ⟨s, p, n, c, t, y, m, d, rfl⟩ := hv.form
 obtain ⟨s', p', n', c', t', y', m', d', rfl⟩ := hu.form
 refine calm_enter (C := cxOf Tryz.prog w _) (args := [_, _]) Tryz.func31 rfl Tryz.ntmps31 (Nat.le_of_ble_eq_true rfl) ?_
 (repeat first|refine wN ?_|refine wP rfl ?_|refine cx_r rfl ?_|refine cx_d rfl ?_|refine wO rfl rfl ?_)
 refine VO.call rfl rfl (fk Tryz.func55) (fun wa1 ka1 ba1 => (ratright_any _ q k wa1 (hv.kp ka1) (by omega)).mono ?_)
 rintro e w1 ⟨r1, rfl, q1, hb1⟩
 obtain ⟨s1, p1, n1, c1, t1, y1, m1, d1, rfl⟩ := q1.form
 refine ⟨_, rfl, hb1, fun kb1 _ bb1 => wV rfl ?_⟩
 (repeat first|refine wN ?_|refine wP rfl ?_|refine cx_r rfl ?_|refine cx_d rfl ?_|refine wO rfl rfl ?_)
 refine VO.call rfl rfl (fk Tryz.func68) (fun wa2 ka2 ba2 => (ratNeg_any _ r l wa2 (hu.kp (kb1.thn ka2)) (by omega)).mono ?_)
 rintro e w2 ⟨r2, rfl, q2, hb2⟩
 obtain ⟨s2, p2, n2, c2, t2, y2, m2, d2, rfl⟩ := q2.form
 refine ⟨_, rfl, hb2, fun kb2 _ bb2 => wV rfl ?_⟩
 (repeat first|refine wN ?_|refine wP rfl ?_|refine cx_r rfl ?_|refine cx_d rfl ?_|refine wO rfl rfl ?_)
 refine VO.call rfl rfl (fk Tryz.func67) (fun wa3 ka3 ba3 => (radd_any' _ _ q (-r) _ _ wa3 (q1.kp (kb2.thn ka3)) (q2.kp ka3).rd hv.sz1 hu.sz1.neg (by unfold up1; omega) (by unfold up1; omega)).mono ?_)
 rintro e w3 ⟨r3, rfl, q3, hb3⟩
 obtain ⟨s3, p3, n3, c3, t3, y3, m3, d3, rfl⟩ := q3.form
 refine ⟨_, rfl, hb3, fun kb3 _ bb3 => wV rfl ?_⟩
 (repeat first|refine wN ?_|refine wP rfl ?_|refine cx_r rfl ?_|refine cx_d rfl ?_|refine wO rfl rfl ?_)
 refine VS.ret (cx_ok _ _) rfl rfl (fun wz kz bz => ?_)
 exact ⟨_, rfl, RatOwn.cast ((q3.kp kz).mono ba3.size) (Rat.sub_eq_add_neg q r).symm, bz⟩

theorem ratMul_any (v u : Value) (q r : Rat) (k l : Nat) (w : World) (hv : RatIn w v q k) (hu : RatIn w u r l) (hk : k ≤ 67108864) (hl : l ≤ 67108864) :
  Calls Tryz.prog 32 #[v, u] w fun e w' => ∃ x, e = .returned x ∧ RatOwn w' w.heap.size x (q * r) ∧ Beh w w' := by
 obtain ⟨s, p, n, c, t, y, m, d, rfl⟩ := hv.form
 obtain ⟨s', p', n', c', t', y', m', d', rfl⟩ := hu.form
 have dq : (q.den : Int) * r.den ≠ 0 := Int.mul_ne_zero (by have := q.den_nz; omega) (by have := r.den_nz; omega)
 have zq := hv.sz1
 have zr := hu.sz1
 have uk : up1 k ≤ 67108864 := by unfold up1; omega
 have ul : up1 l ≤ 67108864 := by unfold up1; omega
 refine calm_enter (C := cxOf Tryz.prog w _) (args := [_, _]) Tryz.func32 rfl Tryz.ntmps32 (Nat.le_of_ble_eq_true rfl) ?_
 (repeat first|refine wN ?_|refine wP rfl ?_|refine cx_r rfl ?_|refine cx_d rfl ?_|refine wO rfl rfl ?_)
 refine VO.call rfl rfl (fk Tryz.func55) (fun wa1 ka1 ba1 => (ratright_any _ q k wa1 (hv.kp ka1) (by omega)).mono ?_)
 rintro e w1 ⟨r1, rfl, q1, hb1⟩
 obtain ⟨s1, p1, n1, c1, t1, y1, m1, d1, rfl⟩ := q1.form
 refine ⟨_, rfl, hb1, fun kb1 _ bb1 => wV rfl ?_⟩
 (repeat first|refine wN ?_|refine wP rfl ?_|refine cx_r rfl ?_|refine cx_d rfl ?_|refine wO rfl rfl ?_)
 refine VO.call rfl rfl (fk Tryz.func55) (fun wa2 ka2 ba2 => (ratright_any _ r l wa2 (hu.kp (kb1.thn ka2)) (by omega)).mono ?_)
 rintro e w2 ⟨r2, rfl, q2, hb2⟩
 obtain ⟨s2, p2, n2, c2, t2, y2, m2, d2, rfl⟩ := q2.form
 refine ⟨_, rfl, hb2, fun kb2 _ bb2 => wV rfl ?_⟩
 (repeat first|refine wN ?_|refine wP rfl ?_|refine cx_r rfl ?_|refine cx_d rfl ?_|refine wO rfl rfl ?_)
 obtain ⟨a1, a2⟩ := q1.parts
 obtain ⟨b1, b2⟩ := q2.parts
 refine VO.call rfl rfl (fk Tryz.func61) (fun wa3 ka3 ba3 => (bmul_any _ _ q.num r.num _ _ wa3 ((a1.kp (kb2.thn ka3)).to zq.1) ((b1.kp ka3).to zr.1) (by omega) (by omega)).mono ?_)
 rintro e w3 ⟨r3, rfl, q3, hb3⟩
 obtain ⟨s3, p3, n3, c3, rfl⟩ := q3.form
 refine ⟨_, rfl, hb3, fun kb3 _ bb3 => wV rfl ?_⟩
 (repeat first|refine wN ?_|refine wP rfl ?_|refine cx_r rfl ?_|refine cx_d rfl ?_|refine wO rfl rfl ?_)
 refine VO.call rfl rfl (fk Tryz.func61) (fun wa4 ka4 ba4 => (bmul_any _ _ q.den r.den _ _ wa4 ((a2.kp (kb2.thn (kb3.thn ka4))).to zq.2) ((b2.kp (kb3.thn ka4)).to zr.2) (by omega) (by omega)).mono ?_)
 rintro e w4 ⟨r4, rfl, q4, hb4⟩
 obtain ⟨s4, p4, n4, c4, rfl⟩ := q4.form
 refine ⟨_, rfl, hb4, fun kb4 _ bb4 => wV rfl ?_⟩
 (repeat first|refine wN ?_|refine wP rfl ?_|refine cx_r rfl ?_|refine cx_d rfl ?_|refine wO rfl rfl ?_)
 refine VO.call rfl rfl (fk Tryz.func69) (fun wa5 ka5 ba5 => (reduced_any _ _ (q.num * r.num) ((q.den : Int) * r.den) _ _ wa5 ((q3.kp (kb4.thn ka5)).in (zq.1.mul zr.1)) ((q4.kp ka5).in (zq.2.mul zr.2)) (by omega) (by omega) dq).mono ?_)
 rintro e w5 ⟨r5, rfl, q5, hb5⟩
 obtain ⟨s5, p5, n5, c5, t5, y5, m5, d5, rfl⟩ := q5.form
 refine ⟨_, rfl, hb5, fun kb5 _ bb5 => wV rfl ?_⟩
 (repeat first|refine wN ?_|refine wP rfl ?_|refine cx_r rfl ?_|refine cx_d rfl ?_|refine wO rfl rfl ?_)
 refine VS.ret (cx_ok _ _) rfl rfl (fun wz kz bz => ?_)
 exact ⟨_, rfl, RatOwn.cast ((q5.kp kz).mono ba5.size) (mul_raw q r).symm, bz⟩

theorem ratSign_any (v : Value) (q : Rat) (k : Nat) (w : World) (hv : RatIn w v q k) (hk : k ≤ 536870912) :
  Calls Tryz.prog 21 #[v] w fun e w' => e = .returned (.int .i64 (rcmp q 0)) ∧ Beh w w' := by
 obtain ⟨s, p, n, c, t, y, m, d, rfl⟩ := hv.form
 refine calm_enter (C := cxOf Tryz.prog w _) (args := [_]) Tryz.func21 rfl Tryz.ntmps21 (Nat.le_of_ble_eq_true rfl) ?_
 (repeat first|refine wN ?_|refine wP rfl ?_|refine cx_r rfl ?_|refine cx_d rfl ?_|refine wO rfl rfl ?_)
 refine VO.call rfl rfl (fk Tryz.func55) (fun wa1 ka1 ba1 => (ratright_any _ q k wa1 (hv.kp ka1) hk).mono ?_)
 rintro e w1 ⟨r1, rfl, q1, hb1⟩
 obtain ⟨s1, p1, n1, c1, t1, y1, m1, d1, rfl⟩ := q1.form
 refine ⟨_, rfl, hb1, fun kb1 _ bb1 => wV rfl ?_⟩
 (repeat first|refine wN ?_|refine wP rfl ?_|refine cx_r rfl ?_|refine cx_d rfl ?_|refine wO rfl rfl ?_)
 refine VO.call rfl rfl (fk Tryz.func22) (fun wa2 ka2 ba2 => (bsign_any _ q.num _ wa2 ((q1.parts.1.kp ka2).to hv.sz1.1)).mono ?_)
 rintro e w2 ⟨rfl, hb2⟩
 rw [rsign_raw]
 refine ⟨_, rfl, hb2, fun kb2 _ bb2 => wV rfl ?_⟩
 (repeat first|refine wN ?_|refine wP rfl ?_|refine cx_r rfl ?_|refine cx_d rfl ?_|refine wO rfl rfl ?_)
 refine VS.ret (cx_ok _ _) rfl rfl (fun wz kz bz => ?_)
 exact ⟨rfl, bz⟩

theorem ratCmp_any (v u : Value) (q r : Rat) (k l : Nat) (w : World) (hv : RatIn w v q k) (hu : RatIn w u r l) (hk : k ≤ 67108864) (hl : l ≤ 67108864) :
  Calls Tryz.prog 27 #[v, u] w fun e w' => e = .returned (.int .i64 (rcmp q r)) ∧ Beh w w' := by
 obtain ⟨s, p, n, c, t, y, m, d, rfl⟩ := hv.form
 obtain ⟨s', p', n', c', t', y', m', d', rfl⟩ := hu.form
 have zq := hv.sz1
 have zr := hu.sz1
 have uk : up1 k ≤ 67108864 := by unfold up1; omega
 have ul : up1 l ≤ 67108864 := by unfold up1; omega
 refine calm_enter (C := cxOf Tryz.prog w _) (args := [_, _]) Tryz.func27 rfl Tryz.ntmps27 (Nat.le_of_ble_eq_true rfl) ?_
 (repeat first|refine wN ?_|refine wP rfl ?_|refine cx_r rfl ?_|refine cx_d rfl ?_|refine wO rfl rfl ?_)
 refine VO.call rfl rfl (fk Tryz.func55) (fun wa1 ka1 ba1 => (ratright_any _ q k wa1 (hv.kp ka1) (by omega)).mono ?_)
 rintro e w1 ⟨r1, rfl, q1, hb1⟩
 obtain ⟨s1, p1, n1, c1, t1, y1, m1, d1, rfl⟩ := q1.form
 refine ⟨_, rfl, hb1, fun kb1 _ bb1 => wV rfl ?_⟩
 (repeat first|refine wN ?_|refine wP rfl ?_|refine cx_r rfl ?_|refine cx_d rfl ?_|refine wO rfl rfl ?_)
 refine VO.call rfl rfl (fk Tryz.func55) (fun wa2 ka2 ba2 => (ratright_any _ r l wa2 (hu.kp (kb1.thn ka2)) (by omega)).mono ?_)
 rintro e w2 ⟨r2, rfl, q2, hb2⟩
 obtain ⟨s2, p2, n2, c2, t2, y2, m2, d2, rfl⟩ := q2.form
 refine ⟨_, rfl, hb2, fun kb2 _ bb2 => wV rfl ?_⟩
 (repeat first|refine wN ?_|refine wP rfl ?_|refine cx_r rfl ?_|refine cx_d rfl ?_|refine wO rfl rfl ?_)
 obtain ⟨a1, a2⟩ := q1.parts
 obtain ⟨b1, b2⟩ := q2.parts
 refine VO.call rfl rfl (fk Tryz.func61) (fun wa3 ka3 ba3 => (bmul_any _ _ q.num r.den _ _ wa3 ((a1.kp (kb2.thn ka3)).to zq.1) ((b2.kp ka3).to zr.2) (by omega) (by omega)).mono ?_)
 rintro e w3 ⟨r3, rfl, q3, hb3⟩
 obtain ⟨s3, p3, n3, c3, rfl⟩ := q3.form
 refine ⟨_, rfl, hb3, fun kb3 _ bb3 => wV rfl ?_⟩
 (repeat first|refine wN ?_|refine wP rfl ?_|refine cx_r rfl ?_|refine cx_d rfl ?_|refine wO rfl rfl ?_)
 refine VO.call rfl rfl (fk Tryz.func61) (fun wa4 ka4 ba4 => (bmul_any _ _ r.num q.den _ _ wa4 ((b1.kp (kb3.thn ka4)).to zr.1) ((a2.kp (kb2.thn (kb3.thn ka4))).to zq.2) (by omega) (by omega)).mono ?_)
 rintro e w4 ⟨r4, rfl, q4, hb4⟩
 obtain ⟨s4, p4, n4, c4, rfl⟩ := q4.form
 refine ⟨_, rfl, hb4, fun kb4 _ bb4 => wV rfl ?_⟩
 (repeat first|refine wN ?_|refine wP rfl ?_|refine cx_r rfl ?_|refine cx_d rfl ?_|refine wO rfl rfl ?_)
 refine VO.call rfl rfl (fk Tryz.func34) (fun wa5 ka5 ba5 => (bcmp_any _ _ (q.num * r.den) (r.num * q.den) _ _ wa5 ((q3.kp (kb4.thn ka5)).in (zq.1.mul zr.2)) ((q4.kp ka5).in (zr.1.mul zq.2)) (by omega) (by omega)).mono ?_)
 rintro e w5 ⟨rfl, hb5⟩
 rw [rcmp_raw]
 refine ⟨_, rfl, hb5, fun kb5 _ bb5 => wV rfl ?_⟩
 (repeat first|refine wN ?_|refine wP rfl ?_|refine cx_r rfl ?_|refine cx_d rfl ?_|refine wO rfl rfl ?_)
 refine VS.ret (cx_ok _ _) rfl rfl (fun wz kz bz => ?_)
 exact ⟨rfl, bz⟩

end Go.Proofs.YtofdiijioejljaaGreat
/- What the fractions' functions over rows compute: Sum, Product, Min, Max. -/
namespace Go.Proofs.YtofdiijioejljaaGreat
open Go.RowKit
attribute [local irreducible] vcOps VS

def RatsIn (w : World) (v : Value) (qs : List Rat) (k : Nat) : Prop :=
 ∃ p c, v = .slice p qs.length c ∧ qs.length ≤ c ∧ c ≤ maxLen ∧ ∀ i q, qs[i]? = some q → ∃ b off s p' n c' t r m d, p = some ⟨b, off, none⟩ ∧
  (∀ j u, [Value.bool s, .slice p' n c', .bool t, .slice r m d][j]? = some u → w.cell? ⟨b, off + i * 4 + j, none⟩ = some u) ∧ RatIn w (.agg #[.bool s, .slice p' n c', .bool t, .slice r m d]) q k
theorem RatsIn.form {w : World} {v : Value} {qs : List Rat} {k : Nat} (h : RatsIn w v qs k) : ∃ p c, v = .slice p qs.length c ∧ qs.length ≤ c ∧ c ≤ maxLen := by
 obtain ⟨p, c, hv, h1, h2, _⟩ := h
 exact ⟨p, c, hv, h1, h2⟩
theorem RatsIn.at {w : World} {p : Option Addr} {n c : Nat} {qs : List Rat} {k i : Nat} {q : Rat} (h : RatsIn w (.slice p n c) qs k) (hq : qs[i]? = some q) : ∃ b off s p' n' c' t r m d, p = some ⟨b, off, none⟩ ∧
  (∀ j u, [Value.bool s, .slice p' n' c', .bool t, .slice r m d][j]? = some u → w.cell? ⟨b, off + i * 4 + j, none⟩ = some u) ∧ RatIn w (.agg #[.bool s, .slice p' n' c', .bool t, .slice r m d]) q k := by
 obtain ⟨p', c', hv, h1, h2, h3⟩ := h
 cases hv
 exact h3 i q hq
theorem RatsIn.beh {w w' : World} {v : Value} {qs : List Rat} {k : Nat} (h : RatsIn w v qs k) (hb : Beh w w') : RatsIn w' v qs k := by
 obtain ⟨p, c, hv, h1, h2, h3⟩ := h
 refine ⟨p, c, hv, h1, h2, fun i q hq => ?_⟩
 obtain ⟨b, off, s, p', n, c', t, r, m, d, hp, hc, hr⟩ := h3 i q hq
 exact ⟨b, off, s, p', n, c', t, r, m, d, hp, fun j u hj => hb.cell (hc j u hj), hr.kp (Kp.of (U := UU) hb)⟩
theorem nat_step {i : Nat} (h : i < 9223372036854775807) : IntKind.i64.wrap ((i : Int) + 1) = ((i + 1 : Nat) : Int) := by
 rw [IntWalk.i64_in _ (by omega)]; omega
def rsum (qs : List Rat) : Rat := qs.foldl (· + ·) 0
theorem take_snoc_at {α : Type} {l : List α} {i : Nat} {x : α} (h : l[i]? = some x) : l.take (i + 1) = l.take i ++ [x] := by
 obtain ⟨hi, rfl⟩ := List.getElem?_eq_some_iff.1 h
 exact List.take_succ_eq_append_getElem hi
theorem rsum_snoc {qs : List Rat} {i : Nat} {q : Rat} (h : qs[i]? = some q) : rsum (qs.take (i + 1)) = rsum (qs.take i) + q := by
 rw [take_snoc_at h]; simp [rsum, List.foldl_append]
def stepSz (k i : Nat) : Nat := 1 + i * (up1 k + 1)
theorem stepSz_succ (k i : Nat) : stepSz k (i + 1) = stepSz k i + up1 k + 1 := by unfold stepSz; rw [Nat.add_mul, Nat.one_mul]; omega
theorem stepSz_le {k i n : Nat} (h : i ≤ n) : stepSz k i ≤ stepSz k n := by unfold stepSz; have := Nat.mul_le_mul_right (up1 k + 1) h; omega

set_option maxHeartbeats 400000 in
theorem ratSum_any (v : Value) (qs : List Rat) (k : Nat) (w : World) (hv : RatsIn w v qs k) (hk : stepSz k qs.length ≤ 67108864) :
  Calls Tryz.prog 43 #[v] w fun e w' => ∃ x, e = .returned x ∧ RatOwn w' w.heap.size x (rsum qs) ∧ RSz (rsum qs) (stepSz k qs.length) ∧ Beh w w' := by
 obtain ⟨p, c, rfl, hnc, hcm⟩ := hv.form
 obtain ⟨N, hN⟩ : ∃ N, N = qs.length := ⟨_, rfl⟩
 rw [← hN] at hv hk hnc ⊢
 have hNm : N < 9223372036854775807 := by unfold stepSz at hk; have := Nat.le_mul_of_pos_right N (show 0 < up1 k + 1 by omega); omega
 have huk : up1 k ≤ 67108864 ∨ N = 0 := by
  rcases Nat.eq_zero_or_pos N with e | e
  ·exact .inr e
  ·left; unfold stepSz at hk; have := Nat.le_mul_of_pos_left (up1 k + 1) e; omega
 refine calm_enter (C := cxOf Tryz.prog w _) (args := [_]) Tryz.func43 rfl Tryz.ntmps43 (Nat.le_of_ble_eq_true rfl) ?_
 (repeat first|refine wN ?_|refine wP rfl ?_|refine cx_r rfl ?_|refine cx_d rfl ?_|refine wO rfl rfl ?_)
 refine VO.call rfl rfl (fk Tryz.func28) (fun wa1 ka1 ba1 => (ratWhole_any 0 wa1 (by omega) (by omega)).mono ?_)
 rintro e w1 ⟨r1, rfl, q1, hb1⟩
 obtain ⟨s1, p1, n1, c1, t1, y1, m1, d1, rfl⟩ := q1.form
 refine ⟨_, rfl, hb1, fun kb1 _ bb1 => wV rfl ?_⟩
 (repeat first|refine wN ?_|refine wP rfl ?_|refine cx_r rfl ?_|refine cx_d rfl ?_|refine wO rfl rfl ?_)
 refine VS.loop (J := fun n L M w' => ∃ i s p' n' c' t r m d, i ≤ N ∧ n = N - i ∧ L = [(7, .val (.slice p N c)), (8, .val (.int .i64 (N : Int))), (9, .val (.int .i64 (i : Int))), (3, .box 3 0), (2, .box 2 0)] ∧
  M = [(2, (27, ([.bool false, .slice none 0 0, .bool false, .slice none 0 0] : List Value).map .val)), (3, (27, ([.bool s, .slice p' n' c', .bool t, .slice r m d] : List Value).map .val))] ∧ RatOwn w' w.heap.size (.agg #[.bool s, .slice p' n' c', .bool t, .slice r m d]) (rsum (qs.take i)) ∧ RSz (rsum (qs.take i)) (stepSz k i)) N ⟨_, _, ?_, ?_, ?_, ?_, ⟨0, s1, p1, n1, c1, t1, y1, m1, d1, by omega, by omega, rfl, rfl, (q1.mono ba1.size).cast (by simp [rsum]), by simp only [List.take_zero, rsum, List.foldl_nil, stepSz, Nat.zero_mul, Nat.add_zero]; exact RSz.zero⟩⟩ ?_
 ·(repeat first|exact trivial|refine ⟨rfl, ?_⟩)
 ·(repeat first|exact trivial|refine ⟨rfl, ?_⟩)
 ·rfl
 ·(repeat first|exact trivial|refine ⟨ClosedC.lit rfl, ?_⟩|refine ⟨ClosedC.vals _, ?_⟩)
 rintro n L M w' ⟨i, s, p', n', c', t, r, m, d, hi, rfl, rfl, rfl, ho, hz⟩
 (repeat first|refine wN ?_|refine wP rfl ?_|refine cx_r rfl ?_|refine cx_d rfl ?_|refine wO rfl rfl ?_)
 by_cases hlt : i < N
 ·obtain ⟨q, hq⟩ : ∃ q, qs[i]? = some q := ⟨_, List.getElem?_eq_getElem (by omega)⟩
  obtain ⟨b, off, s2, p2, n2, c2, t2, r2, m2, d2, rfl, hc, hin⟩ := hv.at hq
  refine VS.condY rfl (decide_eq_true (Int.ofNat_lt.2 hlt)) ?_
  (repeat first|refine wN ?_|refine wP rfl ?_|refine cx_r rfl ?_|refine cx_d rfl ?_|refine wO rfl rfl ?_)
  refine VO.cond rfl ⟨by omega, by omega⟩ (wV rfl ?_)
  refine VO.read rfl [.bool s2, .slice p2 n2 c2, .bool t2, .slice r2 m2 d2] rfl (fun j u hj => by rw [Addr.add_mid, Int.toNat_natCast]; exact hc j u hj) (wV rfl ?_)
  (repeat first|refine wN ?_|refine wP rfl ?_|refine cx_r rfl ?_|refine cx_d rfl ?_|refine wO rfl rfl ?_)
  refine VO.call rfl rfl (fk Tryz.func55) (fun wa2 ka2 ba2 => (ratright_any _ q k wa2 ((hin.kp (Kp.of (U := UU) ba2))) (by have := hk; unfold up1 at *; omega)).mono ?_)
  rintro e w2 ⟨r2', rfl, q2, hb2⟩
  obtain ⟨s3, p3, n3, c3, t3, y3, m3, d3, rfl⟩ := q2.form
  refine ⟨_, rfl, hb2, fun kb2 _ bb2 => wV rfl ?_⟩
  (repeat first|refine wN ?_|refine wP rfl ?_|refine cx_r rfl ?_|refine cx_d rfl ?_|refine wO rfl rfl ?_)
  refine VO.call rfl rfl (fk Tryz.func67) (fun wa3 ka3 ba3 => (radd_any' _ _ (rsum (qs.take i)) q (stepSz k i) (up1 k) wa3 ((ho.kp (kb2.thn ka3)).rd) (q2.kp ka3) hz hin.sz1 (by have := stepSz_le (k := k) hi; omega) (by omega)).mono ?_)
  rintro e w3 ⟨r3', rfl, q3, hb3⟩
  obtain ⟨s4, p4, n4, c4, t4, y4, m4, d4, rfl⟩ := q3.form
  refine ⟨_, rfl, hb3, fun kb3 _ bb3 => wV rfl ?_⟩
  (repeat first|refine wN ?_|refine wP rfl ?_|refine cx_r rfl ?_|refine cx_d rfl ?_|refine wO rfl rfl ?_)
  refine VS.back (N - (i + 1)) (by omega) ⟨_, _, ?_, ?_, ?_, ?_, ⟨i + 1, s4, p4, n4, c4, t4, y4, m4, d4, by omega, rfl, rfl, rfl, (q3.mono ba3.size).cast (rsum_snoc hq).symm, by rw [rsum_snoc hq, stepSz_succ]; exact hz.add hin.sz1⟩⟩
  ·refine ⟨rfl, rfl, ?_, rfl, rfl, trivial⟩
   rw [← nat_step (by omega)]; rfl
  ·(repeat first|exact trivial|refine ⟨rfl, ?_⟩)
  ·rfl
  ·(repeat first|exact trivial|refine ⟨ClosedC.lit rfl, ?_⟩|refine ⟨ClosedC.vals _, ?_⟩)
 ·refine VS.condN rfl (decide_eq_false (fun e => hlt (Int.ofNat_lt.1 e))) ?_
  (repeat first|refine wN ?_|refine wP rfl ?_|refine cx_r rfl ?_|refine cx_d rfl ?_|refine wO rfl rfl ?_)
  refine VS.ret (cx_ok _ _) rfl rfl (fun wz kz bz => ?_)
  obtain rfl : i = N := by omega
  rw [List.take_of_length_le (by omega)] at ho hz
  exact ⟨_, rfl, ho.kp kz, hz, bz⟩
def rless (y x : Rat) : Bool := decide (rcmp y x < 0)
def rmore (y x : Rat) : Bool := decide (rcmp y x > 0)
theorem ratLess_any (v u : Value) (x y : Rat) (k l : Nat) (w : World) (hv : RatIn w v x k) (hu : RatIn w u y l) (hk : k ≤ 67108864) (hl : l ≤ 67108864) :
  Calls Tryz.prog 66 #[v, u] w fun e w' => e = .returned (.bool (rless y x)) ∧ Beh w w' := by
 obtain ⟨s, p, n, c, t, z, m, d, rfl⟩ := hv.form
 obtain ⟨s', p', n', c', t', z', m', d', rfl⟩ := hu.form
 refine calm_enter (C := cxOf Tryz.prog w _) (args := [_, _]) Tryz.func66 rfl Tryz.ntmps66 (Nat.le_of_ble_eq_true rfl) ?_
 (repeat first|refine wN ?_|refine wP rfl ?_|refine cx_r rfl ?_|refine cx_d rfl ?_|refine wO rfl rfl ?_)
 refine VO.call rfl rfl (fk Tryz.func27) (fun wa1 ka1 ba1 => (ratCmp_any _ _ y x l k wa1 (hu.kp ka1) (hv.kp ka1) hl hk).mono ?_)
 rintro e w1 ⟨rfl, hb1⟩
 skip
 refine ⟨_, rfl, hb1, fun kb1 _ bb1 => wV rfl ?_⟩
 (repeat first|refine wN ?_|refine wP rfl ?_|refine cx_r rfl ?_|refine cx_d rfl ?_|refine wO rfl rfl ?_)
 refine VS.ret (cx_ok _ _) rfl rfl (fun wz kz bz => ?_)
 exact ⟨rfl, bz⟩
theorem ratMore_any (v u : Value) (x y : Rat) (k l : Nat) (w : World) (hv : RatIn w v x k) (hu : RatIn w u y l) (hk : k ≤ 67108864) (hl : l ≤ 67108864) :
  Calls Tryz.prog 64 #[v, u] w fun e w' => e = .returned (.bool (rmore y x)) ∧ Beh w w' := by
 obtain ⟨s, p, n, c, t, z, m, d, rfl⟩ := hv.form
 obtain ⟨s', p', n', c', t', z', m', d', rfl⟩ := hu.form
 refine calm_enter (C := cxOf Tryz.prog w _) (args := [_, _]) Tryz.func64 rfl Tryz.ntmps64 (Nat.le_of_ble_eq_true rfl) ?_
 (repeat first|refine wN ?_|refine wP rfl ?_|refine cx_r rfl ?_|refine cx_d rfl ?_|refine wO rfl rfl ?_)
 refine VO.call rfl rfl (fk Tryz.func27) (fun wa1 ka1 ba1 => (ratCmp_any _ _ y x l k wa1 (hu.kp ka1) (hv.kp ka1) hl hk).mono ?_)
 rintro e w1 ⟨rfl, hb1⟩
 skip
 refine ⟨_, rfl, hb1, fun kb1 _ bb1 => wV rfl ?_⟩
 (repeat first|refine wN ?_|refine wP rfl ?_|refine cx_r rfl ?_|refine cx_d rfl ?_|refine wO rfl rfl ?_)
 refine VS.ret (cx_ok _ _) rfl rfl (fun wz kz bz => ?_)
 exact ⟨rfl, bz⟩
theorem ratMinF_any (s : Bool) (p : Option Addr) (n c : Nat) (t : Bool) (r : Option Addr) (m d : Nat) (w : World) :
  Calls Tryz.prog 65 #[.agg #[.bool s, .slice p n c, .bool t, .slice r m d]] w fun e w' => e = .returned (.func (.func 66) #[.agg #[.bool s, .slice p n c, .bool t, .slice r m d]] #[]) ∧ Beh w w' := by
 refine calm_enter (C := cxOf Tryz.prog w _) (args := [_]) Tryz.func65 rfl Tryz.ntmps65 (Nat.le_of_ble_eq_true rfl) ?_
 (repeat first|refine wN ?_|refine wP rfl ?_|refine cx_r rfl ?_|refine cx_d rfl ?_|refine wO rfl rfl ?_)
 refine VS.ret (cx_ok _ _) rfl rfl (fun wz kz bz => ?_)
 exact ⟨rfl, bz⟩
theorem ratMaxF_any (s : Bool) (p : Option Addr) (n c : Nat) (t : Bool) (r : Option Addr) (m d : Nat) (w : World) :
  Calls Tryz.prog 63 #[.agg #[.bool s, .slice p n c, .bool t, .slice r m d]] w fun e w' => e = .returned (.func (.func 64) #[.agg #[.bool s, .slice p n c, .bool t, .slice r m d]] #[]) ∧ Beh w w' := by
 refine calm_enter (C := cxOf Tryz.prog w _) (args := [_]) Tryz.func63 rfl Tryz.ntmps63 (Nat.le_of_ble_eq_true rfl) ?_
 (repeat first|refine wN ?_|refine wP rfl ?_|refine cx_r rfl ?_|refine cx_d rfl ?_|refine wO rfl rfl ?_)
 refine VS.ret (cx_ok _ _) rfl rfl (fun wz kz bz => ?_)
 exact ⟨rfl, bz⟩
def rbest (better : Rat → Rat → Bool) (q : Rat) (qs : List Rat) : Rat := qs.foldl (fun o y => if better y o = true then y else o) q
theorem rbest_snoc {better : Rat → Rat → Bool} {x : Rat} {qs : List Rat} {i : Nat} {q : Rat} (h : qs[i]? = some q) : rbest better x (qs.take (i + 1)) = if better q (rbest better x (qs.take i)) = true then q else rbest better x (qs.take i) := by
 rw [take_snoc_at h]; unfold rbest; rw [List.foldl_append]; rfl

set_option maxHeartbeats 1000000 in
theorem ratBest_any (fB fL : FuncId) (better : Rat → Rat → Bool) (kB : FnOk Tryz.prog fB) (kL : FnOk Tryz.prog fL)
  (hB : ∀ (s : Bool) (p : Option Addr) (n c : Nat) (t : Bool) (r : Option Addr) (m d : Nat) (w : World), Calls Tryz.prog fB #[.agg #[.bool s, .slice p n c, .bool t, .slice r m d]] w fun e w' => e = .returned (.func (.func fL) #[.agg #[.bool s, .slice p n c, .bool t, .slice r m d]] #[]) ∧ Beh w w')
  (hL : ∀ (v u : Value) (x y : Rat) (k l : Nat) (w : World), RatIn w v x k → RatIn w u y l → k ≤ 67108864 → l ≤ 67108864 → Calls Tryz.prog fL #[v, u] w fun e w' => e = .returned (.bool (better y x)) ∧ Beh w w')
  (u v : Value) (q0 : Rat) (qs : List Rat) (k : Nat) (w : World) (hu : RatIn w u q0 k) (hv : RatsIn w v qs k) (hk : k ≤ 67108863) (hlen : qs.length < 9223372036854775807) :
  Calls Tryz.prog 62 #[u, v, .func (.func fB) #[] #[]] w fun e w' => ∃ x, e = .returned x ∧ RatOwn w' w.heap.size x (rbest better q0 qs) ∧ RSz (rbest better q0 qs) (up1 k) ∧ Beh w w' := by
 obtain ⟨s, p, n, c, t, y, m, d, rfl⟩ := hu.form
 obtain ⟨P, cc, rfl, hnc, hcm⟩ := hv.form
 obtain ⟨N, hN⟩ : ∃ N, N = qs.length := ⟨_, rfl⟩
 rw [← hN] at hv hlen hnc ⊢
 have zk : up1 k ≤ 67108864 := by unfold up1; omega
 refine calm_enter (C := cxOf Tryz.prog w _) (args := [_, _, _]) Tryz.func62 rfl Tryz.ntmps62 (Nat.le_of_ble_eq_true rfl) ?_
 (repeat first|refine wN ?_|refine wP rfl ?_|refine cx_r rfl ?_|refine cx_d rfl ?_|refine wO rfl rfl ?_)
 refine VO.call rfl rfl (fk Tryz.func55) (fun wa1 ka1 ba1 => (ratright_any _ q0 k wa1 (hu.kp ka1) (by omega)).mono ?_)
 rintro e w1 ⟨r1, rfl, q1, hb1⟩
 obtain ⟨s1, p1, n1, c1, t1, y1, m1, d1, rfl⟩ := q1.form
 refine ⟨_, rfl, hb1, fun kb1 _ bb1 => wV rfl ?_⟩
 (repeat first|refine wN ?_|refine wP rfl ?_|refine cx_r rfl ?_|refine cx_d rfl ?_|refine wO rfl rfl ?_)
 refine VO.call rfl rfl (fk Tryz.func28) (fun wa2 ka2 ba2 => (ratWhole_any 0 wa2 (by omega) (by omega)).mono ?_)
 rintro e w2 ⟨r2, rfl, q2, hb2⟩
 obtain ⟨s2, p2, n2, c2, t2, y2, m2, d2, rfl⟩ := q2.form
 refine ⟨_, rfl, hb2, fun kb2 _ bb2 => wV rfl ?_⟩
 (repeat first|refine wN ?_|refine wP rfl ?_|refine cx_r rfl ?_|refine cx_d rfl ?_|refine wO rfl rfl ?_)
 refine VO.call rfl rfl (fk Tryz.func67) (fun wa3 ka3 ba3 => (radd_any' _ _ q0 ((0 : Int) : Rat) (up1 k) 1 wa3 (q1.kp (kb2.thn ka3)) (q2.kp ka3).rd hu.sz1 RSz.zero zk (by omega)).mono ?_)
 rintro e w3 ⟨r3, rfl, q3, hb3⟩
 obtain ⟨s3, p3, n3, c3, t3, y3, m3, d3, rfl⟩ := q3.form
 refine ⟨_, rfl, hb3, fun kb3 _ bb3 => wV rfl ?_⟩
 (repeat first|refine wN ?_|refine wP rfl ?_|refine cx_r rfl ?_|refine cx_d rfl ?_|refine wO rfl rfl ?_)
 refine VS.loop (J := fun n' L M w' => ∃ i s p' n c' t r m d, i ≤ N ∧ n' = N - i ∧ L = [(14, .val (.slice P N cc)), (15, .val (.int .i64 (N : Int))), (16, .val (.int .i64 (i : Int))), (2, .val (.func (.func fB) #[] #[])), (7, .box 7 0), (6, .box 6 0)] ∧
  M = [(6, (27, ([.bool false, .slice none 0 0, .bool false, .slice none 0 0] : List Value).map .val)), (7, (27, ([.bool s, .slice p' n c', .bool t, .slice r m d] : List Value).map .val))] ∧ RatOwn w' w.heap.size (.agg #[.bool s, .slice p' n c', .bool t, .slice r m d]) (rbest better q0 (qs.take i)) ∧ RSz (rbest better q0 (qs.take i)) (up1 k)) N ⟨_, _, ?_, ?_, ?_, ?_, ⟨0, s3, p3, n3, c3, t3, y3, m3, d3, by omega, by omega, rfl, rfl, (q3.mono ba3.size).cast (Rat.add_zero _), hu.sz1⟩⟩ ?_
 ·(repeat first|exact trivial|refine ⟨rfl, ?_⟩)
 ·(repeat first|exact trivial|refine ⟨rfl, ?_⟩)
 ·rfl
 ·(repeat first|exact trivial|refine ⟨ClosedC.lit rfl, ?_⟩|refine ⟨ClosedC.vals _, ?_⟩)
 rintro n' L M w' ⟨i, s, p', n, c', t, r, m, d, hi, rfl, rfl, rfl, ho, hz⟩
 (repeat first|refine wN ?_|refine wP rfl ?_|refine cx_r rfl ?_|refine cx_d rfl ?_|refine wO rfl rfl ?_)
 by_cases hlt : i < N
 ·obtain ⟨q, hq⟩ : ∃ q, qs[i]? = some q := ⟨_, List.getElem?_eq_getElem (by omega)⟩
  obtain ⟨b, off, s2, p2, n2, c2, t2, r2, m2, d2, rfl, hc, hin⟩ := hv.at hq
  refine VS.condY rfl (decide_eq_true (Int.ofNat_lt.2 hlt)) ?_
  (repeat first|refine wN ?_|refine wP rfl ?_|refine cx_r rfl ?_|refine cx_d rfl ?_|refine wO rfl rfl ?_)
  refine VO.cond rfl ⟨by omega, by omega⟩ (wV rfl ?_)
  refine VO.read rfl [.bool s2, .slice p2 n2 c2, .bool t2, .slice r2 m2 d2] rfl (fun j u hj => by rw [Addr.add_mid, Int.toNat_natCast]; exact hc j u hj) (wV rfl ?_)
  (repeat first|refine wN ?_|refine wP rfl ?_|refine cx_r rfl ?_|refine cx_d rfl ?_|refine wO rfl rfl ?_)
  refine VO.call rfl rfl kB (fun wa4 ka4 ba4 => (hB s p' n c' t r m d wa4).mono ?_)
  rintro e w4 ⟨rfl, hb4⟩
  refine ⟨_, rfl, hb4, fun kb4 _ bb4 => wV rfl ?_⟩
  (repeat first|refine wN ?_|refine wP rfl ?_|refine cx_r rfl ?_|refine cx_d rfl ?_|refine wO rfl rfl ?_)
  refine VO.call rfl rfl kL (fun wa5 ka5 ba5 => (hL _ _ (rbest better q0 (qs.take i)) q _ k wa5 ((ho.kp (kb4.thn ka5)).in hz) (hin.kp (Kp.of (U := UU) ba5)) zk (by omega)).mono ?_)
  rintro e w5 ⟨rfl, hb5⟩
  refine ⟨_, rfl, hb5, fun kb5 _ bb5 => wV rfl ?_⟩
  (repeat first|refine wN ?_|refine wP rfl ?_|refine cx_r rfl ?_|refine cx_d rfl ?_|refine wO rfl rfl ?_)
  have hsn := rbest_snoc (better := better) (x := q0) hq
  cases hbt : better q (rbest better q0 (qs.take i))
  ·rw [hbt] at hsn
   refine VS.condN rfl rfl ?_
   (repeat first|refine wN ?_|refine wP rfl ?_|refine cx_r rfl ?_|refine cx_d rfl ?_|refine wO rfl rfl ?_)
   refine VS.back (N - (i + 1)) (by omega) ⟨_, _, ?_, ?_, ?_, ?_, ⟨i + 1, s, p', n, c', t, r, m, d, by omega, rfl, rfl, rfl, (ho.kp (kb4.thn kb5)).cast hsn.symm, by rw [hsn]; exact hz⟩⟩
   ·refine ⟨rfl, rfl, ?_, rfl, rfl, rfl, trivial⟩
    rw [← nat_step (by omega)]; rfl
   ·(repeat first|exact trivial|refine ⟨rfl, ?_⟩)
   ·rfl
   ·(repeat first|exact trivial|refine ⟨ClosedC.lit rfl, ?_⟩|refine ⟨ClosedC.vals _, ?_⟩)
  ·rw [hbt] at hsn
   refine VS.condY rfl rfl ?_
   (repeat first|refine wN ?_|refine wP rfl ?_|refine cx_r rfl ?_|refine cx_d rfl ?_|refine wO rfl rfl ?_)
   refine VO.call rfl rfl (fk Tryz.func55) (fun wa6 ka6 ba6 => (ratright_any _ q k wa6 (hin.kp (Kp.of (U := UU) ba6)) (by omega)).mono ?_)
   rintro e w6 ⟨r6, rfl, q6, hb6⟩
   obtain ⟨s6, p6, n6, c6, t6, y6, m6, d6, rfl⟩ := q6.form
   refine ⟨_, rfl, hb6, fun kb6 _ bb6 => wV rfl ?_⟩
   (repeat first|refine wN ?_|refine wP rfl ?_|refine cx_r rfl ?_|refine cx_d rfl ?_|refine wO rfl rfl ?_)
   refine VO.call rfl rfl (fk Tryz.func28) (fun wa7 ka7 ba7 => (ratWhole_any 0 wa7 (by omega) (by omega)).mono ?_)
   rintro e w7 ⟨r7, rfl, q7, hb7⟩
   obtain ⟨s7, p7, n7, c7, t7, y7, m7, d7, rfl⟩ := q7.form
   refine ⟨_, rfl, hb7, fun kb7 _ bb7 => wV rfl ?_⟩
   (repeat first|refine wN ?_|refine wP rfl ?_|refine cx_r rfl ?_|refine cx_d rfl ?_|refine wO rfl rfl ?_)
   refine VO.call rfl rfl (fk Tryz.func67) (fun wa8 ka8 ba8 => (radd_any' _ _ q ((0 : Int) : Rat) (up1 k) 1 wa8 (q6.kp (kb7.thn ka8)) (q7.kp ka8).rd hin.sz1 RSz.zero zk (by omega)).mono ?_)
   rintro e w8 ⟨r8, rfl, q8, hb8⟩
   obtain ⟨s8, p8, n8, c8, t8, y8, m8, d8, rfl⟩ := q8.form
   refine ⟨_, rfl, hb8, fun kb8 _ bb8 => wV rfl ?_⟩
   (repeat first|refine wN ?_|refine wP rfl ?_|refine cx_r rfl ?_|refine cx_d rfl ?_|refine wO rfl rfl ?_)
   refine VS.back (N - (i + 1)) (by omega) ⟨_, _, ?_, ?_, ?_, ?_, ⟨i + 1, s8, p8, n8, c8, t8, y8, m8, d8, by omega, rfl, rfl, rfl, (q8.mono ba8.size).cast ((Rat.add_zero _).trans hsn.symm), by rw [hsn]; exact hin.sz1⟩⟩
   ·refine ⟨rfl, rfl, ?_, rfl, rfl, rfl, trivial⟩
    rw [← nat_step (by omega)]; rfl
   ·(repeat first|exact trivial|refine ⟨rfl, ?_⟩)
   ·rfl
   ·(repeat first|exact trivial|refine ⟨ClosedC.lit rfl, ?_⟩|refine ⟨ClosedC.vals _, ?_⟩)
 ·refine VS.condN rfl (decide_eq_false (fun e => hlt (Int.ofNat_lt.1 e))) ?_
  (repeat first|refine wN ?_|refine wP rfl ?_|refine cx_r rfl ?_|refine cx_d rfl ?_|refine wO rfl rfl ?_)
  refine VS.ret (cx_ok _ _) rfl rfl (fun wz kz bz => ?_)
  obtain rfl : i = N := by omega
  rw [List.take_of_length_le (by omega)] at ho hz
  exact ⟨_, rfl, ho.kp kz, hz, bz⟩

theorem ratMin_any (u v : Value) (q0 : Rat) (qs : List Rat) (k : Nat) (w : World) (hu : RatIn w u q0 k) (hv : RatsIn w v qs k) (hk : k ≤ 67108863) (hlen : qs.length < 9223372036854775807) :
  Calls Tryz.prog 30 #[u, v] w fun e w' => ∃ x, e = .returned x ∧ RatOwn w' w.heap.size x (rbest rless q0 qs) ∧ RSz (rbest rless q0 qs) (up1 k) ∧ Beh w w' := by
 obtain ⟨s, p, n, c, t, y, m, d, rfl⟩ := hu.form
 obtain ⟨P, cc, rfl, hnc, hcm⟩ := hv.form
 refine calm_enter (C := cxOf Tryz.prog w _) (args := [_, _]) Tryz.func30 rfl Tryz.ntmps30 (Nat.le_of_ble_eq_true rfl) ?_
 (repeat first|refine wN ?_|refine wP rfl ?_|refine cx_r rfl ?_|refine cx_d rfl ?_|refine wO rfl rfl ?_)
 refine VO.call rfl rfl (fk Tryz.func62) (fun wa1 ka1 ba1 => (ratBest_any 65 66 rless (fk Tryz.func65) (fk Tryz.func66) ratMinF_any ratLess_any _ _ q0 qs k wa1 (hu.kp ka1) (hv.beh ba1) hk hlen).mono ?_)
 rintro e w1 ⟨r1, rfl, q1, z1, hb1⟩
 obtain ⟨s1, p1, n1, c1, t1, y1, m1, d1, rfl⟩ := q1.form
 refine ⟨_, rfl, hb1, fun kb1 _ bb1 => wV rfl ?_⟩
 (repeat first|refine wN ?_|refine wP rfl ?_|refine cx_r rfl ?_|refine cx_d rfl ?_|refine wO rfl rfl ?_)
 refine VS.ret (cx_ok _ _) rfl rfl (fun wz kz bz => ?_)
 exact ⟨_, rfl, (q1.kp kz).mono ba1.size, z1, bz⟩
theorem ratMax_any (u v : Value) (q0 : Rat) (qs : List Rat) (k : Nat) (w : World) (hu : RatIn w u q0 k) (hv : RatsIn w v qs k) (hk : k ≤ 67108863) (hlen : qs.length < 9223372036854775807) :
  Calls Tryz.prog 29 #[u, v] w fun e w' => ∃ x, e = .returned x ∧ RatOwn w' w.heap.size x (rbest rmore q0 qs) ∧ RSz (rbest rmore q0 qs) (up1 k) ∧ Beh w w' := by
 obtain ⟨s, p, n, c, t, y, m, d, rfl⟩ := hu.form
 obtain ⟨P, cc, rfl, hnc, hcm⟩ := hv.form
 refine calm_enter (C := cxOf Tryz.prog w _) (args := [_, _]) Tryz.func29 rfl Tryz.ntmps29 (Nat.le_of_ble_eq_true rfl) ?_
 (repeat first|refine wN ?_|refine wP rfl ?_|refine cx_r rfl ?_|refine cx_d rfl ?_|refine wO rfl rfl ?_)
 refine VO.call rfl rfl (fk Tryz.func62) (fun wa1 ka1 ba1 => (ratBest_any 63 64 rmore (fk Tryz.func63) (fk Tryz.func64) ratMaxF_any ratMore_any _ _ q0 qs k wa1 (hu.kp ka1) (hv.beh ba1) hk hlen).mono ?_)
 rintro e w1 ⟨r1, rfl, q1, z1, hb1⟩
 obtain ⟨s1, p1, n1, c1, t1, y1, m1, d1, rfl⟩ := q1.form
 refine ⟨_, rfl, hb1, fun kb1 _ bb1 => wV rfl ?_⟩
 (repeat first|refine wN ?_|refine wP rfl ?_|refine cx_r rfl ?_|refine cx_d rfl ?_|refine wO rfl rfl ?_)
 refine VS.ret (cx_ok _ _) rfl rfl (fun wz kz bz => ?_)
 exact ⟨_, rfl, (q1.kp kz).mono ba1.size, z1, bz⟩
end Go.Proofs.YtofdiijioejljaaGreat
