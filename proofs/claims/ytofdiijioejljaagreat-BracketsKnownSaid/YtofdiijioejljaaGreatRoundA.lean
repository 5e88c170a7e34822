/- What the functions that round compute: parts, by, even, Floor, Ceil, Trunc, Half, Frac, Cents, FromCents, Whole, Places, IsWhole. -/
import Derived.Test.YtofdiijioejljaaGreatRoundMath
import Derived.Test.YtofdiijioejljaaGreatKeep
set_option linter.all false
set_option maxRecDepth 4000
namespace Go.Proofs.YtofdiijioejljaaGreat
open Go.RowKit
attribute [local irreducible] vcOps VS

theorem Sz.left {q : Rat} {k : Nat} (h : RSz q k) : Sz (lf q) k := Sz.le h.2 (by have := lf_nonneg q; have := lf_lt q; omega)
theorem zero_parts : (0 : Rat).floor = 0 ∧ lf 0 = 0 ∧ ((0 : Rat).den : Int) = 1 := by decide +kernel
set_option maxHeartbeats 4000000 in
theorem rdParts_any (v : Value) (q : Rat) (k : Nat) (w : World) (hv : RatIn w v q k) (hk : k ≤ 67108864) :
  Calls Tryz.prog 125 #[v] w fun e w' => ∃ s1 p1 n1 c1 s2 p2 n2 c2 s3 p3 n3 c3, e = .returned (.tuple #[.agg #[.bool s1, .slice p1 n1 c1], .agg #[.bool s2, .slice p2 n2 c2], .agg #[.bool s3, .slice p3 n3 c3]]) ∧
   IntOwn w' w.heap.size (.agg #[.bool s1, .slice p1 n1 c1]) q.floor ∧ IntRd w' (.agg #[.bool s2, .slice p2 n2 c2]) (lf q) ∧ IntRd w' (.agg #[.bool s3, .slice p3 n3 c3]) (q.den : Int) ∧ Beh w w' := by
 have hs := hv.sz1
 obtain ⟨s, xs, t, ys, hraw, rfl, hx, hy⟩ := hv
 have hraw' := hraw
 obtain ⟨p, c, r, d, rfl, _, _⟩ := hraw
 have hu : up1 k ≤ 67108864 := by unfold up1; omega
 refine calm_enter (C := cxOf Tryz.prog w _) (args := [_]) Tryz.func125 rfl Tryz.ntmps125 (Nat.le_of_ble_eq_true rfl) ?_
 (repeat first|refine wN ?_|refine wP rfl ?_|refine cx_r rfl ?_|refine cx_d rfl ?_|refine wO rfl rfl ?_)
 refine VO.call rfl rfl (fk Tryz.func25) (fun wa1 ka1 ba1 => (ratRight_any s t xs ys _ wa1 (hraw'.kp ka1) (by omega) (by omega)).mono ?_)
 rintro e w1 ⟨rfl, hb1⟩
 cases hq : rtB s xs t ys
 ·refine ⟨_, rfl, hb1, fun kb1 _ bb1 => wV rfl ?_⟩
  (repeat first|refine wN ?_|refine wP rfl ?_|refine cx_r rfl ?_|refine cx_d rfl ?_|refine wO rfl rfl ?_)
  refine VO.call rfl rfl (fk Tryz.func38) (fun wa2 ka2 ba2 => (bOf_any 1 wa2 (by omega) (by omega)).mono ?_)
  rintro e w2 ⟨r2, rfl, q2, hb2⟩
  obtain ⟨s2, p2, n2, c2, rfl⟩ := q2.form
  refine ⟨_, rfl, hb2, fun kb2 _ bb2 => wV rfl ?_⟩
  (repeat first|refine wN ?_|refine wP rfl ?_|refine cx_r rfl ?_|refine cx_d rfl ?_|refine wO rfl rfl ?_)
  refine VS.ret (cx_ok _ _) rfl rfl (fun wz kz bz => ?_)
  obtain ⟨z1, z2, z3⟩ := zero_parts
  rw [rq_wrong hq, z1, z2, z3]
  exact ⟨_, _, _, _, _, _, _, _, _, _, _, _, rfl, IntOwn.zero _ _, IntRd.zero _, q2.kr, bz⟩
 ·refine ⟨_, rfl, hb1, fun kb1 _ bb1 => wV rfl ?_⟩
  (repeat first|refine wN ?_|refine wP rfl ?_|refine cx_r rfl ?_|refine cx_d rfl ?_|refine wO rfl rfl ?_)
  have hr := rq_right hraw' hq
  refine VO.call rfl rfl (fk Tryz.func98) (fun wa2 ka2 ba2 => (bdivmod_any _ _ (rq s xs t ys).num ((rq s xs t ys).den : Int) _ _ wa2 (hr.parts.1.ki hs.1) (hr.parts.2.ki hs.2) (by omega) (by omega)).mono ?_)
  rintro e w2 ⟨hd2, hb2⟩
  obtain ⟨v2, u2, rfl, h2, h2'⟩ := floordiv_ok hd2 (by have := den_pos (rq s xs t ys); omega)
  obtain ⟨s2, p2, n2, c2, rfl⟩ := h2.form
  obtain ⟨t2, r2, m2, d2, rfl⟩ := h2'.form
  refine ⟨_, rfl, hb2, fun kb2 _ bb2 => wV rfl ?_⟩
  (repeat (first | refine wN ?_ | refine wP rfl ?_ | refine cx_r rfl ?_ | refine wO rfl rfl ?_))
  refine VS.drawA (cx_ok _ _) (cx_mixed _ _) 7 rfl ?_
  (repeat' (first | refine VA.go rfl ?_ | refine VA.fin rfl ?_ | refine VA.det _ rfl rfl ?_ | refine VA.cons rfl ?_ ?_ | exact VA.nil rfl))
  all_goals
   (repeat first|refine wN ?_|refine wP rfl ?_|refine cx_r rfl ?_|refine cx_d rfl ?_|refine wO rfl rfl ?_)
   refine VS.ret (cx_ok _ _) rfl rfl (fun wz kz bz => ?_)
   exact ⟨_, _, _, _, _, _, _, _, _, _, _, _, rfl, ((h2.k).cast (fl_eq _)).mono ba2.size, h2'.kr, hr.parts.2.k, bz⟩
theorem rdBy_any (f : FuncId) (b : Bool) (v : Value) (q : Rat) (k : Nat) (w : World) (hf : FnOk Tryz.prog f) (hv : RatIn w v q k) (hk : k ≤ 67108864)
  (hF : ∀ (s1 : Bool) (p1 : Option Addr) (n1 c1 : Nat) (s2 : Bool) (p2 : Option Addr) (n2 c2 : Nat) (s3 : Bool) (p3 : Option Addr) (n3 c3 : Nat) (w : World), IntRd w (.agg #[.bool s1, .slice p1 n1 c1]) q.floor → IntRd w (.agg #[.bool s2, .slice p2 n2 c2]) (lf q) → IntRd w (.agg #[.bool s3, .slice p3 n3 c3]) (q.den : Int) →
   Calls Tryz.prog f #[.agg #[.bool s1, .slice p1 n1 c1], .agg #[.bool s2, .slice p2 n2 c2], .agg #[.bool s3, .slice p3 n3 c3]] w fun e w' => e = .returned (.bool b) ∧ Beh w w') :
  Calls Tryz.prog 104 #[v, .func (.func f) #[] #[]] w fun e w' => ∃ r, e = .returned r ∧ IntOwn w' w.heap.size r (if lf q ≠ 0 ∧ b = true then q.floor + 1 else q.floor) ∧ Beh w w' := by
 obtain ⟨s, p, n, c, t, y, m, d, rfl⟩ := hv.form
 have hs := hv.sz1
 have hu : up1 k ≤ 67108864 := by unfold up1; omega
 refine calm_enter (C := cxOf Tryz.prog w _) (args := [_, _]) Tryz.func104 rfl Tryz.ntmps104 (Nat.le_of_ble_eq_true rfl) ?_
 (repeat first|refine wN ?_|refine wP rfl ?_|refine cx_r rfl ?_|refine cx_d rfl ?_|refine wO rfl rfl ?_)
 refine VO.call rfl rfl (fk Tryz.func125) (fun wa1 ka1 ba1 => (rdParts_any _ q k wa1 hv.k hk).mono ?_)
 rintro e w1 ⟨s1, p1, n1, c1, s2, p2, n2, c2, s3, p3, n3, c3, rfl, q1, q2, q3, hb1⟩
 skip
 refine ⟨_, rfl, hb1, fun kb1 _ bb1 => wV rfl ?_⟩
 (repeat first|refine wN ?_|refine wP rfl ?_|refine cx_r rfl ?_|refine cx_d rfl ?_|refine wO rfl rfl ?_)
 refine VO.call rfl rfl (fk Tryz.func22) (fun wa2 ka2 ba2 => (bsign_any _ (lf q) (up1 k) wa2 (q2.ki (Sz.left hs))).mono ?_)
 rintro e w2 ⟨rfl, hb2⟩
 by_cases h0 : lf q = 0
 ·rw [show (lf q).sign = 0 by rw [h0]; rfl, if_neg (fun e => e.1 h0)]
  refine ⟨_, rfl, hb2, fun kb2 _ bb2 => wV rfl ?_⟩
  (repeat first|refine wN ?_|refine wP rfl ?_|refine cx_r rfl ?_|refine cx_d rfl ?_|refine wO rfl rfl ?_)
  refine VS.ret (cx_ok _ _) rfl rfl (fun wz kz bz => ?_)
  exact ⟨_, rfl, (q1.k).mono ba1.size, bz⟩
 ·rw [sign_pos (show 0 < lf q by have := lf_nonneg q; omega)]
  refine ⟨_, rfl, hb2, fun kb2 _ bb2 => wV rfl ?_⟩
  (repeat first|refine wN ?_|refine wP rfl ?_|refine cx_r rfl ?_|refine cx_d rfl ?_|refine wO rfl rfl ?_)
  refine VO.call rfl rfl hf (fun wa3 ka3 ba3 => (hF _ _ _ _ _ _ _ _ _ _ _ _ wa3 q1.kr q2.k q3.k).mono ?_)
  rintro e w3 ⟨rfl, hb3⟩
  cases b with
  | false =>
   rw [if_neg (fun e => by cases e.2)]
   refine ⟨_, rfl, hb3, fun kb3 _ bb3 => wV rfl ?_⟩
   (repeat first|refine wN ?_|refine wP rfl ?_|refine cx_r rfl ?_|refine cx_d rfl ?_|refine wO rfl rfl ?_)
   refine VS.ret (cx_ok _ _) rfl rfl (fun wz kz bz => ?_)
   exact ⟨_, rfl, (q1.k).mono ba1.size, bz⟩
  | true =>
   rw [if_pos ⟨h0, rfl⟩]
   refine ⟨_, rfl, hb3, fun kb3 _ bb3 => wV rfl ?_⟩
   (repeat first|refine wN ?_|refine wP rfl ?_|refine cx_r rfl ?_|refine cx_d rfl ?_|refine wO rfl rfl ?_)
   refine VO.call rfl rfl (fk Tryz.func38) (fun wa4 ka4 ba4 => (bOf_any 1 wa4 (by omega) (by omega)).mono ?_)
   rintro e w4 ⟨r4, rfl, q4, hb4⟩
   obtain ⟨s4, p4, n4, c4, rfl⟩ := q4.form
   refine ⟨_, rfl, hb4, fun kb4 _ bb4 => wV rfl ?_⟩
   (repeat first|refine wN ?_|refine wP rfl ?_|refine cx_r rfl ?_|refine cx_d rfl ?_|refine wO rfl rfl ?_)
   refine VO.call rfl rfl (fk Tryz.func35) (fun wa5 ka5 ba5 => (badd_any _ _ q.floor 1 (up1 k) 1 wa5 (q1.ki (Sz.floor hs)) (q4.ki (Sz.small (by decide))) (by omega) (by omega)).mono ?_)
   rintro e w5 ⟨r5, rfl, q5, hb5⟩
   obtain ⟨s5, p5, n5, c5, rfl⟩ := q5.form
   refine ⟨_, rfl, hb5, fun kb5 _ bb5 => wV rfl ?_⟩
   (repeat first|refine wN ?_|refine wP rfl ?_|refine cx_r rfl ?_|refine cx_d rfl ?_|refine wO rfl rfl ?_)
   refine VS.ret (cx_ok _ _) rfl rfl (fun wz kz bz => ?_)
   exact ⟨_, rfl, (q5.k).mono ba5.size, bz⟩
theorem nval_even (xs : List Nat) : nval xs % 2 = (xs.getD 0 0) % 2 := by
 cases xs with
 | nil => rfl
 | cons x r => rw [nval_cons]; simp; omega
theorem int_even (X : Int) : (X % 2 = 0) ↔ ((limbs X.natAbs).getD 0 0) % 2 = 0 := by
 rw [← nval_even, nval_limbs]; omega
theorem rdEven_any (v : Value) (X : Int) (w : World) (hv : IntRd w v X) :
  Calls Tryz.prog 106 #[v] w fun e w' => e = .returned (.bool (decide (X % 2 = 0))) ∧ Beh w w' := by
 obtain ⟨s, p, n, c, rfl⟩ := hv.form4
 obtain ⟨hn, hr, _⟩ := hv.parts
 refine calm_enter (C := cxOf Tryz.prog w _) (args := [_]) Tryz.func106 rfl Tryz.ntmps106 (Nat.le_of_ble_eq_true rfl) ?_
 (repeat first|refine wN ?_|refine wP rfl ?_|refine cx_r rfl ?_|refine cx_d rfl ?_|refine wO rfl rfl ?_)
 by_cases h0 : n = 0
 ·refine VO.fix 7 rfl (congrArg (fun b => AV.val (.bool b)) (show ((n : Int) == 0) = true by simp [h0])) ?_
  (repeat first|refine wN ?_|refine wP rfl ?_|refine cx_r rfl ?_|refine cx_d rfl ?_|refine wO rfl rfl ?_)
  refine VS.ret (cx_ok _ _) rfl rfl (fun wz kz bz => ?_)
  have : limbs X.natAbs = [] := List.eq_nil_of_length_eq_zero (by omega)
  exact ⟨by rw [decide_eq_true ((int_even X).2 (by rw [this]; rfl))]; rfl, bz⟩
 ·refine VO.fix 7 rfl (congrArg (fun b => AV.val (.bool b)) (show ((n : Int) == 0) = false by simp [h0])) ?_
  (repeat first|refine wN ?_|refine wP rfl ?_|refine cx_r rfl ?_|refine cx_d rfl ?_|refine wO rfl rfl ?_)
  obtain ⟨b1, o1, x, rfl, hb1, hxk, hcx⟩ := hr.cellAt (show 0 < n by omega)
  refine VO.cond rfl ⟨by omega, by omega⟩ (wV rfl ?_)
  refine VO.read rfl [.int .u32 (x : Int)] rfl (read1 rfl hcx) (wV rfl ?_)
  (repeat first|refine wN ?_|refine wP rfl ?_|refine cx_r rfl ?_|refine cx_d rfl ?_|refine wO rfl rfl ?_)
  refine VS.ret (cx_ok _ _) rfl rfl (fun wz kz bz => ?_)
  refine ⟨?_, bz⟩
  have e : (X % 2 = 0) ↔ x % 2 = 0 := by rw [int_even, List.getD_eq_getElem?_getD, hxk]; rfl
  have e2 : ((x : Int).tmod 2 == 0) = decide (X % 2 = 0) := by
   rw [Int.tmod_eq_emod_of_nonneg (by omega)]
   by_cases h : x % 2 = 0
   ·rw [decide_eq_true (e.2 h)]; simp; omega
   ·rw [decide_eq_false (fun c => h (e.1 c))]; simp; omega
  exact congrArg (fun b => Ending.returned (.bool b)) e2
theorem rdHalfF_any (q : Rat) (k : Nat) (hs : RSz q k) (hk : k ≤ 67108864) (s1 : Bool) (p1 : Option Addr) (n1 c1 : Nat) (s2 : Bool) (p2 : Option Addr) (n2 c2 : Nat) (s3 : Bool) (p3 : Option Addr) (n3 c3 : Nat) (w : World) (h1 : IntRd w (.agg #[.bool s1, .slice p1 n1 c1]) q.floor) (h2 : IntRd w (.agg #[.bool s2, .slice p2 n2 c2]) (lf q)) (h3 : IntRd w (.agg #[.bool s3, .slice p3 n3 c3]) (q.den : Int)) :
  Calls Tryz.prog 105 #[.agg #[.bool s1, .slice p1 n1 c1], .agg #[.bool s2, .slice p2 n2 c2], .agg #[.bool s3, .slice p3 n3 c3]] w fun e w' => e = .returned (.bool (decide (lf q + lf q - (q.den : Int) > 0 ∨ lf q + lf q - (q.den : Int) = 0 ∧ ¬ q.floor % 2 = 0))) ∧ Beh w w' := by
 refine calm_enter (C := cxOf Tryz.prog w _) (args := [_, _, _]) Tryz.func105 rfl Tryz.ntmps105 (Nat.le_of_ble_eq_true rfl) ?_
 (repeat first|refine wN ?_|refine wP rfl ?_|refine cx_r rfl ?_|refine cx_d rfl ?_|refine wO rfl rfl ?_)
 refine VO.call rfl rfl (fk Tryz.func35) (fun wa1 ka1 ba1 => (badd_any _ _ (lf q) (lf q) k k wa1 (h2.ki (Sz.left hs)) (h2.ki (Sz.left hs)) (by omega) (by omega)).mono ?_)
 rintro e w1 ⟨r1, rfl, q1, hb1⟩
 obtain ⟨s1, p1, n1, c1, rfl⟩ := q1.form
 refine ⟨_, rfl, hb1, fun kb1 _ bb1 => wV rfl ?_⟩
 (repeat first|refine wN ?_|refine wP rfl ?_|refine cx_r rfl ?_|refine cx_d rfl ?_|refine wO rfl rfl ?_)
 refine VO.call rfl rfl (fk Tryz.func34) (fun wa2 ka2 ba2 => (bcmp_any _ _ (lf q + lf q) (q.den : Int) (k + 1) k wa2 (q1.ki (Sz.add (Sz.left hs) (Sz.left hs) (by omega) (by omega))) (h3.ki hs.2) (by omega) (by omega)).mono ?_)
 rintro e w2 ⟨rfl, hb2⟩
 rcases Int.lt_trichotomy (lf q + lf q - (q.den : Int)) 0 with e | e | e
 ·rw [sign_neg e]
  refine ⟨_, rfl, hb2, fun kb2 _ bb2 => wV rfl ?_⟩
  (repeat first|refine wN ?_|refine wP rfl ?_|refine cx_r rfl ?_|refine cx_d rfl ?_|refine wO rfl rfl ?_)
  refine VS.ret (cx_ok _ _) rfl rfl (fun wz kz bz => ?_)
  exact ⟨by rw [decide_eq_false (by omega)]; rfl, bz⟩
 ·rw [e]
  refine ⟨_, rfl, hb2, fun kb2 _ bb2 => wV rfl ?_⟩
  (repeat first|refine wN ?_|refine wP rfl ?_|refine cx_r rfl ?_|refine cx_d rfl ?_|refine wO rfl rfl ?_)
  refine VO.call rfl rfl (fk Tryz.func106) (fun wa3 ka3 ba3 => (rdEven_any _ q.floor wa3 h1.k).mono ?_)
  rintro e w3 ⟨rfl, hb3⟩
  skip
  refine ⟨_, rfl, hb3, fun kb3 _ bb3 => wV rfl ?_⟩
  (repeat first|refine wN ?_|refine wP rfl ?_|refine cx_r rfl ?_|refine cx_d rfl ?_|refine wO rfl rfl ?_)
  refine VS.ret (cx_ok _ _) rfl rfl (fun wz kz bz => ?_)
  refine ⟨?_, bz⟩
  by_cases h : q.floor % 2 = 0
  ·rw [decide_eq_true h, decide_eq_false (by omega)]; rfl
  ·rw [decide_eq_false h, decide_eq_true (by omega)]; rfl
 ·rw [sign_pos e]
  refine ⟨_, rfl, hb2, fun kb2 _ bb2 => wV rfl ?_⟩
  (repeat first|refine wN ?_|refine wP rfl ?_|refine cx_r rfl ?_|refine cx_d rfl ?_|refine wO rfl rfl ?_)
  refine VS.ret (cx_ok _ _) rfl rfl (fun wz kz bz => ?_)
  exact ⟨by rw [decide_eq_true (by omega)]; rfl, bz⟩
theorem rdHalf_any (v : Value) (q : Rat) (k : Nat) (w : World) (hv : RatIn w v q k) (hk : k ≤ 67108863) :
  Calls Tryz.prog 77 #[v] w fun e w' => ∃ r, e = .returned r ∧ IntOwn w' w.heap.size r (hf q) ∧ Beh w w' := by
 obtain ⟨s, p, n, c, t, y, m, d, rfl⟩ := hv.form
 have hs := hv.sz1
 have hu : up1 k ≤ 67108864 := by unfold up1; omega
 refine calm_enter (C := cxOf Tryz.prog w _) (args := [_]) Tryz.func77 rfl Tryz.ntmps77 (Nat.le_of_ble_eq_true rfl) ?_
 (repeat first|refine wN ?_|refine wP rfl ?_|refine cx_r rfl ?_|refine cx_d rfl ?_|refine wO rfl rfl ?_)
 refine VO.call rfl rfl (fk Tryz.func104) (fun wa1 ka1 ba1 => (rdBy_any 105 _ _ q k wa1 (fk Tryz.func105) hv.k (by omega) (rdHalfF_any q (up1 k) hs hu)).mono ?_)
 rintro e w1 ⟨r1, rfl, q1, hb1⟩
 obtain ⟨s1, p1, n1, c1, rfl⟩ := q1.form
 refine ⟨_, rfl, hb1, fun kb1 _ bb1 => wV rfl ?_⟩
 (repeat first|refine wN ?_|refine wP rfl ?_|refine cx_r rfl ?_|refine cx_d rfl ?_|refine wO rfl rfl ?_)
 refine VS.ret (cx_ok _ _) rfl rfl (fun wz kz bz => ?_)
 refine ⟨_, rfl, ((q1.k).cast ?_).mono ba1.size, bz⟩
 rw [hf_eq]
 simp only [decide_eq_true_iff]
theorem rdFromCents_any (v : Value) (X : Int) (k : Nat) (w : World) (hv : IntIn w v X k) (hk : k ≤ 67108864) :
  Calls Tryz.prog 33 #[v] w fun e w' => ∃ r, e = .returned r ∧ RatOwn w' w.heap.size r (Rat.divInt X 100) ∧ Beh w w' := by
 obtain ⟨s, p, n, c, rfl⟩ := hv.form
 refine calm_enter (C := cxOf Tryz.prog w _) (args := [_]) Tryz.func33 rfl Tryz.ntmps33 (Nat.le_of_ble_eq_true rfl) ?_
 (repeat first|refine wN ?_|refine wP rfl ?_|refine cx_r rfl ?_|refine cx_d rfl ?_|refine wO rfl rfl ?_)
 refine VO.call rfl rfl (fk Tryz.func38) (fun wa1 ka1 ba1 => (bOf_any 100 wa1 (by omega) (by omega)).mono ?_)
 rintro e w1 ⟨r1, rfl, q1, hb1⟩
 obtain ⟨s1, p1, n1, c1, rfl⟩ := q1.form
 refine ⟨_, rfl, hb1, fun kb1 _ bb1 => wV rfl ?_⟩
 (repeat first|refine wN ?_|refine wP rfl ?_|refine cx_r rfl ?_|refine cx_d rfl ?_|refine wO rfl rfl ?_)
 refine VO.call rfl rfl (fk Tryz.func70) (fun wa2 ka2 ba2 => (ratNew_any _ _ X 100 k 1 wa2 hv.k (q1.ki (Sz.small (by decide))) (by omega) (by omega)).mono ?_)
 rintro e w2 ⟨r2, rfl, q2, hb2⟩
 obtain ⟨s2, p2, n2, c2, t2, y2, m2, d2, rfl⟩ := q2.form
 refine ⟨_, rfl, hb2, fun kb2 _ bb2 => wV rfl ?_⟩
 (repeat first|refine wN ?_|refine wP rfl ?_|refine cx_r rfl ?_|refine cx_d rfl ?_|refine wO rfl rfl ?_)
 refine VS.ret (cx_ok _ _) rfl rfl (fun wz kz bz => ?_)
 exact ⟨_, rfl, (q2.k).mono ba2.size, bz⟩
theorem rdCents_any (v : Value) (q : Rat) (k : Nat) (w : World) (hv : RatIn w v q k) (hk : k ≤ 60000000) :
  Calls Tryz.prog 42 #[v] w fun e w' => ∃ r, e = .returned r ∧ IntOwn w' w.heap.size r (hf (q * ((100 : Int) : Rat))) ∧ Beh w w' := by
 obtain ⟨s, p, n, c, t, y, m, d, rfl⟩ := hv.form
 have hs := hv.sz1
 have hu : up1 k ≤ 60000000 := by unfold up1; omega
 have h100 : RSz ((100 : Int) : Rat) 1 := ⟨Sz.small (by decide), Sz.small (by decide)⟩
 refine calm_enter (C := cxOf Tryz.prog w _) (args := [_]) Tryz.func42 rfl Tryz.ntmps42 (Nat.le_of_ble_eq_true rfl) ?_
 (repeat first|refine wN ?_|refine wP rfl ?_|refine cx_r rfl ?_|refine cx_d rfl ?_|refine wO rfl rfl ?_)
 refine VO.call rfl rfl (fk Tryz.func28) (fun wa1 ka1 ba1 => (ratWhole_any 100 wa1 (by omega) (by omega)).mono ?_)
 rintro e w1 ⟨r1, rfl, q1, hb1⟩
 obtain ⟨s1, p1, n1, c1, t1, y1, m1, d1, rfl⟩ := q1.form
 refine ⟨_, rfl, hb1, fun kb1 _ bb1 => wV rfl ?_⟩
 (repeat first|refine wN ?_|refine wP rfl ?_|refine cx_r rfl ?_|refine cx_d rfl ?_|refine wO rfl rfl ?_)
 refine VO.call rfl rfl (fk Tryz.func32) (fun wa2 ka2 ba2 => (ratMul_any _ _ q ((100 : Int) : Rat) k 1 wa2 hv.k (q1.ki h100) (by omega) (by omega)).mono ?_)
 rintro e w2 ⟨r2, rfl, q2, hb2⟩
 obtain ⟨s2, p2, n2, c2, t2, y2, m2, d2, rfl⟩ := q2.form
 refine ⟨_, rfl, hb2, fun kb2 _ bb2 => wV rfl ?_⟩
 (repeat first|refine wN ?_|refine wP rfl ?_|refine cx_r rfl ?_|refine cx_d rfl ?_|refine wO rfl rfl ?_)
 refine VO.call rfl rfl (fk Tryz.func77) (fun wa3 ka3 ba3 => (rdHalf_any _ _ (up1 k + 1) wa3 (q2.ki (hs.mul h100)) (by omega)).mono ?_)
 rintro e w3 ⟨r3, rfl, q3, hb3⟩
 obtain ⟨s3, p3, n3, c3, rfl⟩ := q3.form
 refine ⟨_, rfl, hb3, fun kb3 _ bb3 => wV rfl ?_⟩
 (repeat first|refine wN ?_|refine wP rfl ?_|refine cx_r rfl ?_|refine cx_d rfl ?_|refine wO rfl rfl ?_)
 refine VS.ret (cx_ok _ _) rfl rfl (fun wz kz bz => ?_)
 exact ⟨_, rfl, (q3.k).mono ba3.size, bz⟩
end Go.Proofs.YtofdiijioejljaaGreat
