/- What the reference's functions that round compute. -/
import Derived.Test.YtofdiijioejljaaGreatRoundMath
import Derived.Test.YtofdiijioejljaaGreatKeep
set_option linter.all false
set_option maxRecDepth 4000
namespace Go.Proofs.YtofdiijioejljaaGreat
open Go.RowKit
attribute [local irreducible] vcOps VS

theorem RSz.whole {X : Int} {k : Nat} (h : Sz X k) : RSz (X : Rat) (up1 k) := ⟨h.mono (by unfold up1; omega), Sz.mono (Sz.small (by decide) : Sz ((1 : Nat) : Int) 1) (by unfold up1; omega)⟩
theorem Sz.cl {q : Rat} {k : Nat} (h : RSz q k) : Sz (cl q) k := (Sz.floor h.neg).neg
theorem q05Floor_any (v : Value) (q : Rat) (k : Nat) (w : World) (hv : RatIn w v q k) (hk : k ≤ 100000000) :
  Calls Tryz.prog 116 #[v] w fun e w' => ∃ r, e = .returned r ∧ IntOwn w' w.heap.size r q.floor ∧ Beh w w' := by
 have hs := hv.sz1
 obtain ⟨s, xs, t, ys, hraw, rfl, hx, hy⟩ := hv
 have hraw' := hraw
 obtain ⟨p, c, r, d, rfl, _, _⟩ := hraw
 have hu : up1 k ≤ 100000000 := by unfold up1; omega
 refine calm_enter (C := cxOf Tryz.prog w _) (args := [_]) Tryz.func116 rfl Tryz.ntmps116 (Nat.le_of_ble_eq_true rfl) ?_
 (repeat first|refine wN ?_|refine wP rfl ?_|refine cx_r rfl ?_|refine cx_d rfl ?_|refine wO rfl rfl ?_)
 refine VO.call rfl rfl (fk Tryz.func52) (fun wa1 ka1 ba1 => (q04Right_any s t xs ys _ wa1 (hraw'.kp ka1) (by omega) (by omega)).mono ?_)
 rintro e w1 ⟨rfl, hb1⟩
 cases hq : rtB s xs t ys
 ·refine ⟨_, rfl, hb1, fun kb1 _ bb1 => wV rfl ?_⟩
  (repeat first|refine wN ?_|refine wP rfl ?_|refine cx_r rfl ?_|refine cx_d rfl ?_|refine wO rfl rfl ?_)
  refine VS.ret (cx_ok _ _) rfl rfl (fun wz kz bz => ?_)
  rw [rq_wrong hq]
  exact ⟨_, rfl, IntOwn.zero _ _, bz⟩
 ·refine ⟨_, rfl, hb1, fun kb1 _ bb1 => wV rfl ?_⟩
  (repeat first|refine wN ?_|refine wP rfl ?_|refine cx_r rfl ?_|refine cx_d rfl ?_|refine wO rfl rfl ?_)
  have hr := rq_right hraw' hq
  refine VO.call rfl rfl (fk Tryz.func108) (fun wa2 ka2 ba2 => (rdivmod_any _ _ (rq s xs t ys).num ((rq s xs t ys).den : Int) _ _ wa2 (hr.parts.1.ki hs.1) (hr.parts.2.ki hs.2) (by omega) (by omega)).mono ?_)
  rintro e w2 ⟨hd2, hb2⟩
  obtain ⟨v2, u2, rfl, h2, h2'⟩ := floordiv_ok hd2 (by have := den_pos (rq s xs t ys); omega)
  obtain ⟨s2, p2, n2, c2, rfl⟩ := h2.form
  obtain ⟨t2, r2, m2, d2, rfl⟩ := h2'.form
  refine ⟨_, rfl, hb2, fun kb2 _ bb2 => wV rfl ?_⟩
  (repeat first|refine wN ?_|refine wP rfl ?_|refine cx_r rfl ?_|refine cx_d rfl ?_|refine wO rfl rfl ?_)
  refine VS.ret (cx_ok _ _) rfl rfl (fun wz kz bz => ?_)
  exact ⟨_, rfl, ((h2.k).cast (fl_eq _)).mono ba2.size, bz⟩
theorem q05Whole_any (v : Value) (X : Int) (k : Nat) (w : World) (hv : IntIn w v X k) (hk : k ≤ 100000000) :
  Calls Tryz.prog 88 #[v] w fun e w' => ∃ r, e = .returned r ∧ RatOwn w' w.heap.size r (X : Rat) ∧ Beh w w' := by
 obtain ⟨s, p, n, c, rfl⟩ := hv.form
 refine calm_enter (C := cxOf Tryz.prog w _) (args := [_]) Tryz.func88 rfl Tryz.ntmps88 (Nat.le_of_ble_eq_true rfl) ?_
 (repeat first|refine wN ?_|refine wP rfl ?_|refine cx_r rfl ?_|refine cx_d rfl ?_|refine wO rfl rfl ?_)
 refine VO.call rfl rfl (fk Tryz.func79) (fun wa1 ka1 ba1 => (rOf_any 1 wa1 (by omega) (by omega)).mono ?_)
 rintro e w1 ⟨r1, rfl, q1, hb1⟩
 obtain ⟨s1, p1, n1, c1, rfl⟩ := q1.form
 refine ⟨_, rfl, hb1, fun kb1 _ bb1 => wV rfl ?_⟩
 (repeat first|refine wN ?_|refine wP rfl ?_|refine cx_r rfl ?_|refine cx_d rfl ?_|refine wO rfl rfl ?_)
 refine VO.call rfl rfl (fk Tryz.func81) (fun wa2 ka2 ba2 => (q04New_any _ _ X 1 k 1 wa2 hv.k (q1.ki (Sz.small (by decide))) (by omega) (by omega)).mono ?_)
 rintro e w2 ⟨r2, rfl, q2, hb2⟩
 obtain ⟨s2, p2, n2, c2, t2, y2, m2, d2, rfl⟩ := q2.form
 refine ⟨_, rfl, hb2, fun kb2 _ bb2 => wV rfl ?_⟩
 (repeat first|refine wN ?_|refine wP rfl ?_|refine cx_r rfl ?_|refine cx_d rfl ?_|refine wO rfl rfl ?_)
 refine VS.ret (cx_ok _ _) rfl rfl (fun wz kz bz => ?_)
 exact ⟨_, rfl, ((q2.k).cast (whole_div X)).mono ba2.size, bz⟩
theorem q05Ceil_any (v : Value) (q : Rat) (k : Nat) (w : World) (hv : RatIn w v q k) (hk : k ≤ 100000000) :
  Calls Tryz.prog 117 #[v] w fun e w' => ∃ r, e = .returned r ∧ IntOwn w' w.heap.size r (cl q) ∧ Beh w w' := by
 have hs := hv.sz1
 obtain ⟨s, p, n, c, t, y, m, d, rfl⟩ := hv.form
 have hu : up1 k ≤ 100000000 := by unfold up1; omega
 refine calm_enter (C := cxOf Tryz.prog w _) (args := [_]) Tryz.func117 rfl Tryz.ntmps117 (Nat.le_of_ble_eq_true rfl) ?_
 (repeat first|refine wN ?_|refine wP rfl ?_|refine cx_r rfl ?_|refine cx_d rfl ?_|refine wO rfl rfl ?_)
 refine VO.call rfl rfl (fk Tryz.func115) (fun wa1 ka1 ba1 => (q04Neg_any _ q k wa1 hv.k (by omega)).mono ?_)
 rintro e w1 ⟨r1, rfl, q1, hb1⟩
 obtain ⟨s1, p1, n1, c1, t1, y1, m1, d1, rfl⟩ := q1.form
 refine ⟨_, rfl, hb1, fun kb1 _ bb1 => wV rfl ?_⟩
 (repeat first|refine wN ?_|refine wP rfl ?_|refine cx_r rfl ?_|refine cx_d rfl ?_|refine wO rfl rfl ?_)
 refine VO.call rfl rfl (fk Tryz.func116) (fun wa2 ka2 ba2 => (q05Floor_any _ (-q) (up1 k) wa2 (q1.ki hs.neg) hu).mono ?_)
 rintro e w2 ⟨r2, rfl, q2, hb2⟩
 obtain ⟨s2, p2, n2, c2, rfl⟩ := q2.form
 refine ⟨_, rfl, hb2, fun kb2 _ bb2 => wV rfl ?_⟩
 (repeat first|refine wN ?_|refine wP rfl ?_|refine cx_r rfl ?_|refine cx_d rfl ?_|refine wO rfl rfl ?_)
 refine VO.call rfl rfl (fk Tryz.func89) (fun wa3 ka3 ba3 => (rneg_any _ (-q).floor (up1 k) wa3 (q2.ki (Sz.floor hs.neg)) (by omega)).mono ?_)
 rintro e w3 ⟨r3, rfl, q3, hb3⟩
 obtain ⟨s3, p3, n3, c3, rfl⟩ := q3.form
 refine ⟨_, rfl, hb3, fun kb3 _ bb3 => wV rfl ?_⟩
 (repeat first|refine wN ?_|refine wP rfl ?_|refine cx_r rfl ?_|refine cx_d rfl ?_|refine wO rfl rfl ?_)
 refine VS.ret (cx_ok _ _) rfl rfl (fun wz kz bz => ?_)
 exact ⟨_, rfl, (q3.k).mono ba3.size, bz⟩
theorem rem_two (X : Int) : (X.fmod 2 = 0) ↔ X % 2 = 0 := by rw [Int.fmod_eq_emod_of_nonneg _ (by omega)]
theorem q05Half_any (v : Value) (q : Rat) (k : Nat) (w : World) (hv : RatIn w v q k) (hk : k ≤ 10000000) :
  Calls Tryz.prog 87 #[v] w fun e w' => ∃ r, e = .returned r ∧ IntOwn w' w.heap.size r (hf q) ∧ Beh w w' := by
 have hs := hv.sz1
 obtain ⟨s, p, n, c, t, y, m, d, rfl⟩ := hv.form
 have hu : up1 k ≤ 10000000 := by unfold up1; omega
 have hu2 : up1 (up1 k) = up1 k := by unfold up1; omega
 have hfl : RSz (q.floor : Rat) (up1 k) := hu2 ▸ RSz.whole (Sz.floor hs)
 have hcl : RSz (cl q : Rat) (up1 k) := hu2 ▸ RSz.whole (Sz.cl hs)
 refine calm_enter (C := cxOf Tryz.prog w _) (args := [_]) Tryz.func87 rfl Tryz.ntmps87 (Nat.le_of_ble_eq_true rfl) ?_
 (repeat first|refine wN ?_|refine wP rfl ?_|refine cx_r rfl ?_|refine cx_d rfl ?_|refine wO rfl rfl ?_)
 refine VO.call rfl rfl (fk Tryz.func116) (fun wa1 ka1 ba1 => (q05Floor_any _ q k wa1 hv.k (by omega)).mono ?_)
 rintro e w1 ⟨r1, rfl, q1, hb1⟩
 obtain ⟨s1, p1, n1, c1, rfl⟩ := q1.form
 refine ⟨_, rfl, hb1, fun kb1 _ bb1 => wV rfl ?_⟩
 (repeat first|refine wN ?_|refine wP rfl ?_|refine cx_r rfl ?_|refine cx_d rfl ?_|refine wO rfl rfl ?_)
 refine VO.call rfl rfl (fk Tryz.func117) (fun wa2 ka2 ba2 => (q05Ceil_any _ q k wa2 hv.k (by omega)).mono ?_)
 rintro e w2 ⟨r2, rfl, q2, hb2⟩
 obtain ⟨s2, p2, n2, c2, rfl⟩ := q2.form
 refine ⟨_, rfl, hb2, fun kb2 _ bb2 => wV rfl ?_⟩
 (repeat first|refine wN ?_|refine wP rfl ?_|refine cx_r rfl ?_|refine cx_d rfl ?_|refine wO rfl rfl ?_)
 refine VO.call rfl rfl (fk Tryz.func88) (fun wa3 ka3 ba3 => (q05Whole_any _ q.floor (up1 k) wa3 (q1.ki (Sz.floor hs)) (by omega)).mono ?_)
 rintro e w3 ⟨r3, rfl, q3, hb3⟩
 obtain ⟨s3, p3, n3, c3, t3, y3, m3, d3, rfl⟩ := q3.form
 refine ⟨_, rfl, hb3, fun kb3 _ bb3 => wV rfl ?_⟩
 (repeat first|refine wN ?_|refine wP rfl ?_|refine cx_r rfl ?_|refine cx_d rfl ?_|refine wO rfl rfl ?_)
 refine VO.call rfl rfl (fk Tryz.func86) (fun wa4 ka4 ba4 => (q04Sub_any _ _ q (q.floor : Rat) k (up1 k) wa4 hv.k (q3.ki hfl) (by omega) (by omega)).mono ?_)
 rintro e w4 ⟨r4, rfl, q4, hb4⟩
 obtain ⟨s4, p4, n4, c4, t4, y4, m4, d4, rfl⟩ := q4.form
 refine ⟨_, rfl, hb4, fun kb4 _ bb4 => wV rfl ?_⟩
 (repeat first|refine wN ?_|refine wP rfl ?_|refine cx_r rfl ?_|refine cx_d rfl ?_|refine wO rfl rfl ?_)
 refine VO.call rfl rfl (fk Tryz.func88) (fun wa5 ka5 ba5 => (q05Whole_any _ (cl q) (up1 k) wa5 (q2.ki (Sz.cl hs)) (by omega)).mono ?_)
 rintro e w5 ⟨r5, rfl, q5, hb5⟩
 obtain ⟨s5, p5, n5, c5, t5, y5, m5, d5, rfl⟩ := q5.form
 refine ⟨_, rfl, hb5, fun kb5 _ bb5 => wV rfl ?_⟩
 (repeat first|refine wN ?_|refine wP rfl ?_|refine cx_r rfl ?_|refine cx_d rfl ?_|refine wO rfl rfl ?_)
 refine VO.call rfl rfl (fk Tryz.func86) (fun wa6 ka6 ba6 => (q04Sub_any _ _ (cl q : Rat) q (up1 k) k wa6 (q5.ki hcl) hv.k (by omega) (by omega)).mono ?_)
 rintro e w6 ⟨r6, rfl, q6, hb6⟩
 obtain ⟨s6, p6, n6, c6, t6, y6, m6, d6, rfl⟩ := q6.form
 refine ⟨_, rfl, hb6, fun kb6 _ bb6 => wV rfl ?_⟩
 (repeat first|refine wN ?_|refine wP rfl ?_|refine cx_r rfl ?_|refine cx_d rfl ?_|refine wO rfl rfl ?_)
 refine VO.call rfl rfl (fk Tryz.func50) (fun wa7 ka7 ba7 => (q04Cmp_any _ _ (q - (q.floor : Rat)) ((cl q : Rat) - q) (up1 k + up1 k + 1) (up1 k + up1 k + 1) wa7 (q4.ki (hs.sub hfl)) (q6.ki (hcl.sub hs)) (by omega) (by omega)).mono ?_)
 rintro e w7 ⟨rfl, hb7⟩
 skip
 refine ⟨_, rfl, hb7, fun kb7 _ bb7 => wV rfl ?_⟩
 (repeat first|refine wN ?_|refine wP rfl ?_|refine cx_r rfl ?_|refine cx_d rfl ?_|refine wO rfl rfl ?_)
 have hr := hf_ref q
 obtain ⟨z, hz⟩ : ∃ z, z = rcmp (q - (q.floor : Rat)) ((cl q : Rat) - q) := ⟨_, rfl⟩
 rw [← hz] at hr ⊢
 by_cases h1 : z < 0
 ·rw [if_pos h1] at hr
  refine VS.condY rfl (decide_eq_true h1) ?_
  (repeat first|refine wN ?_|refine wP rfl ?_|refine cx_r rfl ?_|refine cx_d rfl ?_|refine wO rfl rfl ?_)
  refine VS.ret (cx_ok _ _) rfl rfl (fun wz kz bz => ?_)
  exact ⟨_, rfl, ((q1.k).cast hr.symm).mono ba1.size, bz⟩
 refine VS.condN rfl (decide_eq_false h1) ?_
 rw [if_neg h1] at hr
 (repeat first|refine wN ?_|refine wP rfl ?_|refine cx_r rfl ?_|refine cx_d rfl ?_|refine wO rfl rfl ?_)
 by_cases h2 : z > 0
 ·rw [if_pos h2] at hr
  refine VS.condY rfl (decide_eq_true h2) ?_
  (repeat first|refine wN ?_|refine wP rfl ?_|refine cx_r rfl ?_|refine cx_d rfl ?_|refine wO rfl rfl ?_)
  refine VS.ret (cx_ok _ _) rfl rfl (fun wz kz bz => ?_)
  exact ⟨_, rfl, ((q2.k).cast hr.symm).mono ba2.size, bz⟩
 refine VS.condN rfl (decide_eq_false h2) ?_
 rw [if_neg h2] at hr
 (repeat first|refine wN ?_|refine wP rfl ?_|refine cx_r rfl ?_|refine cx_d rfl ?_|refine wO rfl rfl ?_)
 refine VO.call rfl rfl (fk Tryz.func79) (fun wa8 ka8 ba8 => (rOf_any 2 wa8 (by omega) (by omega)).mono ?_)
 rintro e w8 ⟨r8, rfl, q8, hb8⟩
 obtain ⟨s8, p8, n8, c8, rfl⟩ := q8.form
 refine ⟨_, rfl, hb8, fun kb8 _ bb8 => wV rfl ?_⟩
 (repeat first|refine wN ?_|refine wP rfl ?_|refine cx_r rfl ?_|refine cx_d rfl ?_|refine wO rfl rfl ?_)
 refine VO.call rfl rfl (fk Tryz.func108) (fun wa9 ka9 ba9 => (rdivmod_any _ _ q.floor 2 (up1 k) 1 wa9 (q1.ki (Sz.floor hs)) (q8.ki (Sz.small (by decide))) (by omega) (by omega)).mono ?_)
 rintro e w9 ⟨hd9, hb9⟩
 obtain ⟨v9, u9, rfl, h9, h9'⟩ := floordiv_ok hd9 (by omega)
 obtain ⟨s9, p9, n9, c9, rfl⟩ := h9.form
 obtain ⟨t9, r9, m9, d9, rfl⟩ := h9'.form
 refine ⟨_, rfl, hb9, fun kb9 _ bb9 => wV rfl ?_⟩
 (repeat first|refine wN ?_|refine wP rfl ?_|refine cx_r rfl ?_|refine cx_d rfl ?_|refine wO rfl rfl ?_)
 have hm : 0 ≤ q.floor.fmod 2 ∧ q.floor.fmod 2 < 2 := by rw [Int.fmod_eq_emod_of_nonneg _ (by omega)]; omega
 refine VO.call rfl rfl (fk Tryz.func91) (fun wa10 ka10 ba10 => (rsign_any _ (q.floor.fmod 2) 1 wa10 (h9'.ki (Sz.small (by omega))) (by omega)).mono ?_)
 rintro e w10 ⟨rfl, hb10⟩
 skip
 refine ⟨_, rfl, hb10, fun kb10 _ bb10 => wV rfl ?_⟩
 (repeat first|refine wN ?_|refine wP rfl ?_|refine cx_r rfl ?_|refine cx_d rfl ?_|refine wO rfl rfl ?_)
 by_cases h3 : q.floor % 2 = 0
 ·rw [if_pos h3] at hr
  rw [show (q.floor.fmod 2).sign = 0 by rw [(rem_two _).2 h3]; rfl]
  (repeat first|refine wN ?_|refine wP rfl ?_|refine cx_r rfl ?_|refine cx_d rfl ?_|refine wO rfl rfl ?_)
  refine VS.ret (cx_ok _ _) rfl rfl (fun wz kz bz => ?_)
  exact ⟨_, rfl, ((q1.k).cast hr.symm).mono ba1.size, bz⟩
 ·rw [if_neg h3] at hr
  rw [sign_pos (show 0 < q.floor.fmod 2 by have := mt (rem_two _).1 h3; omega)]
  (repeat first|refine wN ?_|refine wP rfl ?_|refine cx_r rfl ?_|refine cx_d rfl ?_|refine wO rfl rfl ?_)
  refine VS.ret (cx_ok _ _) rfl rfl (fun wz kz bz => ?_)
  exact ⟨_, rfl, ((q2.k).cast hr.symm).mono ba2.size, bz⟩
theorem q05Cents_any (v : Value) (q : Rat) (k : Nat) (w : World) (hv : RatIn w v q k) (hk : k ≤ 1000000) :
  Calls Tryz.prog 49 #[v] w fun e w' => ∃ r, e = .returned r ∧ IntOwn w' w.heap.size r (hf (q * ((100 : Int) : Rat))) ∧ Beh w w' := by
 have hs := hv.sz1
 obtain ⟨s, p, n, c, t, y, m, d, rfl⟩ := hv.form
 have hu : up1 k ≤ 1000000 := by unfold up1; omega
 have h100 : RSz ((100 : Int) : Rat) 1 := ⟨Sz.small (by decide), Sz.small (by decide)⟩
 refine calm_enter (C := cxOf Tryz.prog w _) (args := [_]) Tryz.func49 rfl Tryz.ntmps49 (Nat.le_of_ble_eq_true rfl) ?_
 (repeat first|refine wN ?_|refine wP rfl ?_|refine cx_r rfl ?_|refine cx_d rfl ?_|refine wO rfl rfl ?_)
 refine VO.call rfl rfl (fk Tryz.func79) (fun wa1 ka1 ba1 => (rOf_any 100 wa1 (by omega) (by omega)).mono ?_)
 rintro e w1 ⟨r1, rfl, q1, hb1⟩
 obtain ⟨s1, p1, n1, c1, rfl⟩ := q1.form
 refine ⟨_, rfl, hb1, fun kb1 _ bb1 => wV rfl ?_⟩
 (repeat first|refine wN ?_|refine wP rfl ?_|refine cx_r rfl ?_|refine cx_d rfl ?_|refine wO rfl rfl ?_)
 refine VO.call rfl rfl (fk Tryz.func88) (fun wa2 ka2 ba2 => (q05Whole_any _ 100 1 wa2 (q1.ki (Sz.small (by decide))) (by omega)).mono ?_)
 rintro e w2 ⟨r2, rfl, q2, hb2⟩
 obtain ⟨s2, p2, n2, c2, t2, y2, m2, d2, rfl⟩ := q2.form
 refine ⟨_, rfl, hb2, fun kb2 _ bb2 => wV rfl ?_⟩
 (repeat first|refine wN ?_|refine wP rfl ?_|refine cx_r rfl ?_|refine cx_d rfl ?_|refine wO rfl rfl ?_)
 refine VO.call rfl rfl (fk Tryz.func47) (fun wa3 ka3 ba3 => (q04Mul_any _ _ q ((100 : Int) : Rat) k 1 wa3 hv.k (q2.ki h100) (by omega) (by omega)).mono ?_)
 rintro e w3 ⟨r3, rfl, q3, hb3⟩
 obtain ⟨s3, p3, n3, c3, t3, y3, m3, d3, rfl⟩ := q3.form
 refine ⟨_, rfl, hb3, fun kb3 _ bb3 => wV rfl ?_⟩
 (repeat first|refine wN ?_|refine wP rfl ?_|refine cx_r rfl ?_|refine cx_d rfl ?_|refine wO rfl rfl ?_)
 refine VO.call rfl rfl (fk Tryz.func87) (fun wa4 ka4 ba4 => (q05Half_any _ _ (up1 k + 1) wa4 (q3.ki (hs.mul h100)) (by omega)).mono ?_)
 rintro e w4 ⟨r4, rfl, q4, hb4⟩
 obtain ⟨s4, p4, n4, c4, rfl⟩ := q4.form
 refine ⟨_, rfl, hb4, fun kb4 _ bb4 => wV rfl ?_⟩
 (repeat first|refine wN ?_|refine wP rfl ?_|refine cx_r rfl ?_|refine cx_d rfl ?_|refine wO rfl rfl ?_)
 refine VS.ret (cx_ok _ _) rfl rfl (fun wz kz bz => ?_)
 exact ⟨_, rfl, (q4.k).mono ba4.size, bz⟩
end Go.Proofs.YtofdiijioejljaaGreat
