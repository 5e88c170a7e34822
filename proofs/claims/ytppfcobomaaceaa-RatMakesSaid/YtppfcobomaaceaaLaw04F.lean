/- RatMakes: what fraction numbers make. -/
import Derived.Test.YtppfcobomaaceaaLaw04C
namespace Go.Proofs.Ytppfcobomaaceaa
open Go.RowKit
attribute [local irreducible] vcOps VS

theorem q04New_ok (v u : Value) (X Y : Int) (j k : Nat) (w : World) (hv : IntIn w v X j) (hu : IntIn w u Y k) (hj : j ≤ 134217728) (hk : k ≤ 134217728) (c : Int) (hc : dcode Y = c) :
    Calls Try.prog 8 #[v, u] w fun e w' => ∃ r, e = .returned (.tuple #[r, .int .i64 c]) ∧ RatOwn w' w.heap.size r (Rat.divInt X Y) ∧ Beh w w' := hc ▸ q04New_any v u X Y j k w hv hu hj hk
theorem dcode_cases (d : Int) : dcode d = 0 ∨ dcode d = 20 := by
  unfold dcode
  split
  · exact .inr rfl
  · exact .inl rfl

set_option maxRecDepth 4000 in
set_option maxHeartbeats 8000000 in
theorem ratMakes_any (s t : Bool) (xs ys : List Nat) (v u : Value) (n d : Int) (w : World) (hv : NumAt w v s xs) (hu : NumAt w u t ys) (h0 : -9223372036854775808 ≤ n) (h1 : n ≤ 9223372036854775807) (g0 : -9223372036854775808 ≤ d) (g1 : d ≤ 9223372036854775807) :
    Calls Try.prog 3 #[v, u, .int .i64 n, .int .i64 d] w fun e w' => e = .returned (.bool true) ∧ Beh w w' := by
  have hV := hv
  have hU := hu
  obtain ⟨p, c, rfl, _, _⟩ := hv
  obtain ⟨r, m, rfl, _, _⟩ := hu
  refine calm_enter (C := cxOf Try.prog w _) (args := [_, _, _, _]) Try.func3 rfl Try.ntmps3 (Nat.le_of_ble_eq_true rfl) ?_
  (repeat (first | refine wN ?_ | refine wQ ?_ | refine cx_r rfl ?_ | refine cx_d (by kernel_rfl) rfl ?_ | refine wO rfl rfl ?_ | refine wT rfl ?_ | refine wF rfl ?_ | refine wB ?_ | refine wK ?_ | refine wE rfl ?_ | refine wS ?_))
  by_cases hx : xs.length ≤ 4
  · refine VO.fix 22 rfl (congrArg (fun b => AV.val (.bool b)) (decide_eq_false (show ¬ ((xs.length : Int) > 4) by omega))) ?_
    (repeat (first | refine wN ?_ | refine wQ ?_ | refine cx_r rfl ?_ | refine cx_d (by kernel_rfl) rfl ?_ | refine wO rfl rfl ?_ | refine wT rfl ?_ | refine wF rfl ?_ | refine wB ?_ | refine wK ?_ | refine wE rfl ?_ | refine wS ?_))
    by_cases hy : ys.length ≤ 4
    · refine VS.condN rfl (decide_eq_false (show ¬ ((ys.length : Int) > 4) by omega)) ?_
      (repeat (first | refine wN ?_ | refine wQ ?_ | refine cx_r rfl ?_ | refine cx_d (by kernel_rfl) rfl ?_ | refine wO rfl rfl ?_ | refine wT rfl ?_ | refine wF rfl ?_ | refine wB ?_ | refine wK ?_ | refine wE rfl ?_ | refine wS ?_))
      obtain ⟨cY, hcY⟩ : ∃ c, dcode (numOf t ys) = c := ⟨_, rfl⟩
      have hccY : cY = 0 ∨ cY = 20 := hcY ▸ dcode_cases _
      obtain ⟨cD, hcD⟩ : ∃ c, dcode d = c := ⟨_, rfl⟩
      have hccD : cD = 0 ∨ cD = 20 := hcD ▸ dcode_cases _
      refine VO.call rfl rfl ⟨_, Try.func5, by kernel_rfl, by kernel_rfl⟩ (fun wa1 ka1 ba1 => (ratNew_ok _ _ (numOf s xs) (numOf t ys) 4 4 wa1 ((hV.in hx).beh ba1) ((hU.in hy).beh ba1) (by omega) (by omega) cY hcY).mono ?_)
      rintro e w1 ⟨r1, rfl, q1, hb1⟩
      obtain ⟨s1, p1, n1, c1, t1, y1, m1, d1, rfl⟩ := q1.form
      refine ⟨_, rfl, hb1, fun kb1 _ bb1 => wV rfl ?_⟩
      (repeat (first | refine wN ?_ | refine wQ ?_ | refine cx_r rfl ?_ | refine cx_d (by kernel_rfl) rfl ?_ | refine wO rfl rfl ?_ | refine wT rfl ?_ | refine wF rfl ?_ | refine wB ?_ | refine wK ?_ | refine wE rfl ?_ | refine wS ?_))
      refine VO.call rfl rfl ⟨_, Try.func6, by kernel_rfl, by kernel_rfl⟩ (fun wa2 ka2 ba2 => (ratOf_ok n d wa2 h0 h1 g0 g1 cD hcD).mono ?_)
      rintro e w2 ⟨r2, rfl, q2, hb2⟩
      obtain ⟨s2, p2, n2, c2, t2, y2, m2, d2, rfl⟩ := q2.form
      refine ⟨_, rfl, hb2, fun kb2 _ bb2 => wV rfl ?_⟩
      (repeat (first | refine wN ?_ | refine wQ ?_ | refine cx_r rfl ?_ | refine cx_d (by kernel_rfl) rfl ?_ | refine wO rfl rfl ?_ | refine wT rfl ?_ | refine wF rfl ?_ | refine wB ?_ | refine wK ?_ | refine wE rfl ?_ | refine wS ?_))
      refine VO.call rfl rfl ⟨_, Try.func7, by kernel_rfl, by kernel_rfl⟩ (fun wa3 ka3 ba3 => (q04Of_ok n d wa3 h0 h1 g0 g1 cD hcD).mono ?_)
      rintro e w3 ⟨r3, rfl, q3, hb3⟩
      obtain ⟨s3, p3, n3, c3, t3, y3, m3, d3, rfl⟩ := q3.form
      refine ⟨_, rfl, hb3, fun kb3 _ bb3 => wV rfl ?_⟩
      (repeat (first | refine wN ?_ | refine wQ ?_ | refine cx_r rfl ?_ | refine cx_d (by kernel_rfl) rfl ?_ | refine wO rfl rfl ?_ | refine wT rfl ?_ | refine wF rfl ?_ | refine wB ?_ | refine wK ?_ | refine wE rfl ?_ | refine wS ?_))
      refine VO.call rfl rfl ⟨_, Try.func9, by kernel_rfl, by kernel_rfl⟩ (fun wa4 ka4 ba4 => (plain04_any s xs _ wa4 (hV.beh ba4) (by omega)).mono ?_)
      rintro e w4 ⟨r4, rfl, q4, hb4⟩
      obtain ⟨p4, c4, rfl, _⟩ := q4.form'
      refine ⟨_, rfl, hb4, fun kb4 _ bb4 => wV rfl ?_⟩
      (repeat (first | refine wN ?_ | refine wQ ?_ | refine cx_r rfl ?_ | refine cx_d (by kernel_rfl) rfl ?_ | refine wO rfl rfl ?_ | refine wT rfl ?_ | refine wF rfl ?_ | refine wB ?_ | refine wK ?_ | refine wE rfl ?_ | refine wS ?_))
      refine VO.call rfl rfl ⟨_, Try.func9, by kernel_rfl, by kernel_rfl⟩ (fun wa5 ka5 ba5 => (plain04_any t ys _ wa5 (hU.beh ba5) (by omega)).mono ?_)
      rintro e w5 ⟨r5, rfl, q5, hb5⟩
      obtain ⟨p5, c5, rfl, _⟩ := q5.form'
      refine ⟨_, rfl, hb5, fun kb5 _ bb5 => wV rfl ?_⟩
      (repeat (first | refine wN ?_ | refine wQ ?_ | refine cx_r rfl ?_ | refine cx_d (by kernel_rfl) rfl ?_ | refine wO rfl rfl ?_ | refine wT rfl ?_ | refine wF rfl ?_ | refine wB ?_ | refine wK ?_ | refine wE rfl ?_ | refine wS ?_))
      refine VO.call rfl rfl ⟨_, Try.func8, by kernel_rfl, by kernel_rfl⟩ (fun wa6 ka6 ba6 => (q04New_ok _ _ (numOf s xs) (numOf t ys) 4 4 wa6 ((q4.kp (by (with_reducible (repeat (first | assumption | exact kR _ | refine kT ?_ (by assumption)))))).in hx) ((q5.kp (by (with_reducible (repeat (first | assumption | exact kR _ | refine kT ?_ (by assumption)))))).in hy) (by omega) (by omega) cY hcY).mono ?_)
      rintro e w6 ⟨r6, rfl, q6, hb6⟩
      obtain ⟨s6, p6, n6, c6, t6, y6, m6, d6, rfl⟩ := q6.form
      refine ⟨_, rfl, hb6, fun kb6 _ bb6 => wV rfl ?_⟩
      (repeat (first | refine wN ?_ | refine wQ ?_ | refine cx_r rfl ?_ | refine cx_d (by kernel_rfl) rfl ?_ | refine wO rfl rfl ?_ | refine wT rfl ?_ | refine wF rfl ?_ | refine wB ?_ | refine wK ?_ | refine wE rfl ?_ | refine wS ?_))
      refine VO.call rfl rfl ⟨_, Try.func10, by kernel_rfl, by kernel_rfl⟩ (fun wa7 ka7 ba7 => (q04Whole_any n wa7 h0 h1).mono ?_)
      rintro e w7 ⟨r7, rfl, q7, hb7⟩
      obtain ⟨s7, p7, n7, c7, t7, y7, m7, d7, rfl⟩ := q7.form
      refine ⟨_, rfl, hb7, fun kb7 _ bb7 => wV rfl ?_⟩
      (repeat (first | refine wN ?_ | refine wQ ?_ | refine cx_r rfl ?_ | refine cx_d (by kernel_rfl) rfl ?_ | refine wO rfl rfl ?_ | refine wT rfl ?_ | refine wF rfl ?_ | refine wB ?_ | refine wK ?_ | refine wE rfl ?_ | refine wS ?_))
      clear hcY hcD
      refine VO.fix 60 rfl (congrArg (fun b => AV.val (.bool b)) (beq_self_eq_true cY)) ?_
      (repeat (first | refine wN ?_ | refine wQ ?_ | refine cx_r rfl ?_ | refine cx_d (by kernel_rfl) rfl ?_ | refine wO rfl rfl ?_ | refine wT rfl ?_ | refine wF rfl ?_ | refine wB ?_ | refine wK ?_ | refine wE rfl ?_ | refine wS ?_))
      rcases hccY with rfl | rfl
      · (repeat (first | refine wN ?_ | refine wQ ?_ | refine cx_r rfl ?_ | refine cx_d (by kernel_rfl) rfl ?_ | refine wO rfl rfl ?_ | refine wT rfl ?_ | refine wF rfl ?_ | refine wB ?_ | refine wK ?_ | refine wE rfl ?_ | refine wS ?_))
        refine VO.call rfl rfl ⟨_, Try.func11, by kernel_rfl, by kernel_rfl⟩ (fun wa8 ka8 ba8 => (is04_any _ _ _ wa8 (q1.kp (by (with_reducible (repeat (first | assumption | exact kR _ | refine kT ?_ (by assumption)))))).rd (q6.kp (by (with_reducible (repeat (first | assumption | exact kR _ | refine kT ?_ (by assumption)))))).rd).mono ?_)
        rintro e w8 ⟨rfl, hb8⟩
        skip
        refine ⟨_, rfl, hb8, fun kb8 _ bb8 => wV rfl ?_⟩
        (repeat (first | refine wN ?_ | refine wQ ?_ | refine cx_r rfl ?_ | refine cx_d (by kernel_rfl) rfl ?_ | refine wO rfl rfl ?_ | refine wT rfl ?_ | refine wF rfl ?_ | refine wB ?_ | refine wK ?_ | refine wE rfl ?_ | refine wS ?_))
        refine VO.fix 74 rfl (congrArg (fun b => AV.val (.bool b)) (beq_self_eq_true cD)) ?_
        (repeat (first | refine wN ?_ | refine wQ ?_ | refine cx_r rfl ?_ | refine cx_d (by kernel_rfl) rfl ?_ | refine wO rfl rfl ?_ | refine wT rfl ?_ | refine wF rfl ?_ | refine wB ?_ | refine wK ?_ | refine wE rfl ?_ | refine wS ?_))
        rcases hccD with rfl | rfl
        · (repeat (first | refine wN ?_ | refine wQ ?_ | refine cx_r rfl ?_ | refine cx_d (by kernel_rfl) rfl ?_ | refine wO rfl rfl ?_ | refine wT rfl ?_ | refine wF rfl ?_ | refine wB ?_ | refine wK ?_ | refine wE rfl ?_ | refine wS ?_))
          refine VO.call rfl rfl ⟨_, Try.func11, by kernel_rfl, by kernel_rfl⟩ (fun wa9 ka9 ba9 => (is04_any _ _ _ wa9 (q2.kp (by (with_reducible (repeat (first | assumption | exact kR _ | refine kT ?_ (by assumption)))))).rd (q3.kp (by (with_reducible (repeat (first | assumption | exact kR _ | refine kT ?_ (by assumption)))))).rd).mono ?_)
          rintro e w9 ⟨rfl, hb9⟩
          skip
          refine ⟨_, rfl, hb9, fun kb9 _ bb9 => wV rfl ?_⟩
          (repeat (first | refine wN ?_ | refine wQ ?_ | refine cx_r rfl ?_ | refine cx_d (by kernel_rfl) rfl ?_ | refine wO rfl rfl ?_ | refine wT rfl ?_ | refine wF rfl ?_ | refine wB ?_ | refine wK ?_ | refine wE rfl ?_ | refine wS ?_))
          refine VO.call rfl rfl ⟨_, Try.func12, by kernel_rfl, by kernel_rfl⟩ (fun wa10 ka10 ba10 => (ratWhole_any n wa10 h0 h1).mono ?_)
          rintro e w10 ⟨r10, rfl, q10, hb10⟩
          obtain ⟨s10, p10, n10, c10, t10, y10, m10, d10, rfl⟩ := q10.form
          refine ⟨_, rfl, hb10, fun kb10 _ bb10 => wV rfl ?_⟩
          (repeat (first | refine wN ?_ | refine wQ ?_ | refine cx_r rfl ?_ | refine cx_d (by kernel_rfl) rfl ?_ | refine wO rfl rfl ?_ | refine wT rfl ?_ | refine wF rfl ?_ | refine wB ?_ | refine wK ?_ | refine wE rfl ?_ | refine wS ?_))
          refine VO.call rfl rfl ⟨_, Try.func11, by kernel_rfl, by kernel_rfl⟩ (fun wa11 ka11 ba11 => (is04_any _ _ _ wa11 (q10.kp (by (with_reducible (repeat (first | assumption | exact kR _ | refine kT ?_ (by assumption)))))).rd (q7.kp (by (with_reducible (repeat (first | assumption | exact kR _ | refine kT ?_ (by assumption)))))).rd).mono ?_)
          rintro e w11 ⟨rfl, hb11⟩
          skip
          refine ⟨_, rfl, hb11, fun kb11 _ bb11 => wV rfl ?_⟩
          (repeat (first | refine wN ?_ | refine wQ ?_ | refine cx_r rfl ?_ | refine cx_d (by kernel_rfl) rfl ?_ | refine wO rfl rfl ?_ | refine wT rfl ?_ | refine wF rfl ?_ | refine wB ?_ | refine wK ?_ | refine wE rfl ?_ | refine wS ?_))
          refine VO.call rfl rfl ⟨_, Try.func4, by kernel_rfl, by kernel_rfl⟩ (fun wa12 ka12 ba12 => (works04_any wa12).mono ?_)
          rintro e w12 ⟨rfl, hb12⟩
          skip
          refine ⟨_, rfl, hb12, fun kb12 _ bb12 => wV rfl ?_⟩
          (repeat (first | refine wN ?_ | refine wQ ?_ | refine cx_r rfl ?_ | refine cx_d (by kernel_rfl) rfl ?_ | refine wO rfl rfl ?_ | refine wT rfl ?_ | refine wF rfl ?_ | refine wB ?_ | refine wK ?_ | refine wE rfl ?_ | refine wS ?_))
          refine VS.ret (cx_ok _ _) rfl rfl (fun wz kz bz => ?_)
          exact ⟨rfl, bz⟩
        · (repeat (first | refine wN ?_ | refine wQ ?_ | refine cx_r rfl ?_ | refine cx_d (by kernel_rfl) rfl ?_ | refine wO rfl rfl ?_ | refine wT rfl ?_ | refine wF rfl ?_ | refine wB ?_ | refine wK ?_ | refine wE rfl ?_ | refine wS ?_))
          refine VO.call rfl rfl ⟨_, Try.func12, by kernel_rfl, by kernel_rfl⟩ (fun wa9 ka9 ba9 => (ratWhole_any n wa9 h0 h1).mono ?_)
          rintro e w9 ⟨r9, rfl, q9, hb9⟩
          obtain ⟨s9, p9, n9, c9, t9, y9, m9, d9, rfl⟩ := q9.form
          refine ⟨_, rfl, hb9, fun kb9 _ bb9 => wV rfl ?_⟩
          (repeat (first | refine wN ?_ | refine wQ ?_ | refine cx_r rfl ?_ | refine cx_d (by kernel_rfl) rfl ?_ | refine wO rfl rfl ?_ | refine wT rfl ?_ | refine wF rfl ?_ | refine wB ?_ | refine wK ?_ | refine wE rfl ?_ | refine wS ?_))
          refine VO.call rfl rfl ⟨_, Try.func11, by kernel_rfl, by kernel_rfl⟩ (fun wa10 ka10 ba10 => (is04_any _ _ _ wa10 (q9.kp (by (with_reducible (repeat (first | assumption | exact kR _ | refine kT ?_ (by assumption)))))).rd (q7.kp (by (with_reducible (repeat (first | assumption | exact kR _ | refine kT ?_ (by assumption)))))).rd).mono ?_)
          rintro e w10 ⟨rfl, hb10⟩
          skip
          refine ⟨_, rfl, hb10, fun kb10 _ bb10 => wV rfl ?_⟩
          (repeat (first | refine wN ?_ | refine wQ ?_ | refine cx_r rfl ?_ | refine cx_d (by kernel_rfl) rfl ?_ | refine wO rfl rfl ?_ | refine wT rfl ?_ | refine wF rfl ?_ | refine wB ?_ | refine wK ?_ | refine wE rfl ?_ | refine wS ?_))
          refine VO.call rfl rfl ⟨_, Try.func4, by kernel_rfl, by kernel_rfl⟩ (fun wa11 ka11 ba11 => (works04_any wa11).mono ?_)
          rintro e w11 ⟨rfl, hb11⟩
          skip
          refine ⟨_, rfl, hb11, fun kb11 _ bb11 => wV rfl ?_⟩
          (repeat (first | refine wN ?_ | refine wQ ?_ | refine cx_r rfl ?_ | refine cx_d (by kernel_rfl) rfl ?_ | refine wO rfl rfl ?_ | refine wT rfl ?_ | refine wF rfl ?_ | refine wB ?_ | refine wK ?_ | refine wE rfl ?_ | refine wS ?_))
          refine VS.ret (cx_ok _ _) rfl rfl (fun wz kz bz => ?_)
          exact ⟨rfl, bz⟩
      · (repeat (first | refine wN ?_ | refine wQ ?_ | refine cx_r rfl ?_ | refine cx_d (by kernel_rfl) rfl ?_ | refine wO rfl rfl ?_ | refine wT rfl ?_ | refine wF rfl ?_ | refine wB ?_ | refine wK ?_ | refine wE rfl ?_ | refine wS ?_))
        refine VO.fix 74 rfl (congrArg (fun b => AV.val (.bool b)) (beq_self_eq_true cD)) ?_
        (repeat (first | refine wN ?_ | refine wQ ?_ | refine cx_r rfl ?_ | refine cx_d (by kernel_rfl) rfl ?_ | refine wO rfl rfl ?_ | refine wT rfl ?_ | refine wF rfl ?_ | refine wB ?_ | refine wK ?_ | refine wE rfl ?_ | refine wS ?_))
        rcases hccD with rfl | rfl
        · (repeat (first | refine wN ?_ | refine wQ ?_ | refine cx_r rfl ?_ | refine cx_d (by kernel_rfl) rfl ?_ | refine wO rfl rfl ?_ | refine wT rfl ?_ | refine wF rfl ?_ | refine wB ?_ | refine wK ?_ | refine wE rfl ?_ | refine wS ?_))
          refine VO.call rfl rfl ⟨_, Try.func11, by kernel_rfl, by kernel_rfl⟩ (fun wa8 ka8 ba8 => (is04_any _ _ _ wa8 (q2.kp (by (with_reducible (repeat (first | assumption | exact kR _ | refine kT ?_ (by assumption)))))).rd (q3.kp (by (with_reducible (repeat (first | assumption | exact kR _ | refine kT ?_ (by assumption)))))).rd).mono ?_)
          rintro e w8 ⟨rfl, hb8⟩
          skip
          refine ⟨_, rfl, hb8, fun kb8 _ bb8 => wV rfl ?_⟩
          (repeat (first | refine wN ?_ | refine wQ ?_ | refine cx_r rfl ?_ | refine cx_d (by kernel_rfl) rfl ?_ | refine wO rfl rfl ?_ | refine wT rfl ?_ | refine wF rfl ?_ | refine wB ?_ | refine wK ?_ | refine wE rfl ?_ | refine wS ?_))
          refine VO.call rfl rfl ⟨_, Try.func12, by kernel_rfl, by kernel_rfl⟩ (fun wa9 ka9 ba9 => (ratWhole_any n wa9 h0 h1).mono ?_)
          rintro e w9 ⟨r9, rfl, q9, hb9⟩
          obtain ⟨s9, p9, n9, c9, t9, y9, m9, d9, rfl⟩ := q9.form
          refine ⟨_, rfl, hb9, fun kb9 _ bb9 => wV rfl ?_⟩
          (repeat (first | refine wN ?_ | refine wQ ?_ | refine cx_r rfl ?_ | refine cx_d (by kernel_rfl) rfl ?_ | refine wO rfl rfl ?_ | refine wT rfl ?_ | refine wF rfl ?_ | refine wB ?_ | refine wK ?_ | refine wE rfl ?_ | refine wS ?_))
          refine VO.call rfl rfl ⟨_, Try.func11, by kernel_rfl, by kernel_rfl⟩ (fun wa10 ka10 ba10 => (is04_any _ _ _ wa10 (q9.kp (by (with_reducible (repeat (first | assumption | exact kR _ | refine kT ?_ (by assumption)))))).rd (q7.kp (by (with_reducible (repeat (first | assumption | exact kR _ | refine kT ?_ (by assumption)))))).rd).mono ?_)
          rintro e w10 ⟨rfl, hb10⟩
          skip
          refine ⟨_, rfl, hb10, fun kb10 _ bb10 => wV rfl ?_⟩
          (repeat (first | refine wN ?_ | refine wQ ?_ | refine cx_r rfl ?_ | refine cx_d (by kernel_rfl) rfl ?_ | refine wO rfl rfl ?_ | refine wT rfl ?_ | refine wF rfl ?_ | refine wB ?_ | refine wK ?_ | refine wE rfl ?_ | refine wS ?_))
          refine VO.call rfl rfl ⟨_, Try.func4, by kernel_rfl, by kernel_rfl⟩ (fun wa11 ka11 ba11 => (works04_any wa11).mono ?_)
          rintro e w11 ⟨rfl, hb11⟩
          skip
          refine ⟨_, rfl, hb11, fun kb11 _ bb11 => wV rfl ?_⟩
          (repeat (first | refine wN ?_ | refine wQ ?_ | refine cx_r rfl ?_ | refine cx_d (by kernel_rfl) rfl ?_ | refine wO rfl rfl ?_ | refine wT rfl ?_ | refine wF rfl ?_ | refine wB ?_ | refine wK ?_ | refine wE rfl ?_ | refine wS ?_))
          refine VS.ret (cx_ok _ _) rfl rfl (fun wz kz bz => ?_)
          exact ⟨rfl, bz⟩
        · (repeat (first | refine wN ?_ | refine wQ ?_ | refine cx_r rfl ?_ | refine cx_d (by kernel_rfl) rfl ?_ | refine wO rfl rfl ?_ | refine wT rfl ?_ | refine wF rfl ?_ | refine wB ?_ | refine wK ?_ | refine wE rfl ?_ | refine wS ?_))
          refine VO.call rfl rfl ⟨_, Try.func12, by kernel_rfl, by kernel_rfl⟩ (fun wa8 ka8 ba8 => (ratWhole_any n wa8 h0 h1).mono ?_)
          rintro e w8 ⟨r8, rfl, q8, hb8⟩
          obtain ⟨s8, p8, n8, c8, t8, y8, m8, d8, rfl⟩ := q8.form
          refine ⟨_, rfl, hb8, fun kb8 _ bb8 => wV rfl ?_⟩
          (repeat (first | refine wN ?_ | refine wQ ?_ | refine cx_r rfl ?_ | refine cx_d (by kernel_rfl) rfl ?_ | refine wO rfl rfl ?_ | refine wT rfl ?_ | refine wF rfl ?_ | refine wB ?_ | refine wK ?_ | refine wE rfl ?_ | refine wS ?_))
          refine VO.call rfl rfl ⟨_, Try.func11, by kernel_rfl, by kernel_rfl⟩ (fun wa9 ka9 ba9 => (is04_any _ _ _ wa9 (q8.kp (by (with_reducible (repeat (first | assumption | exact kR _ | refine kT ?_ (by assumption)))))).rd (q7.kp (by (with_reducible (repeat (first | assumption | exact kR _ | refine kT ?_ (by assumption)))))).rd).mono ?_)
          rintro e w9 ⟨rfl, hb9⟩
          skip
          refine ⟨_, rfl, hb9, fun kb9 _ bb9 => wV rfl ?_⟩
          (repeat (first | refine wN ?_ | refine wQ ?_ | refine cx_r rfl ?_ | refine cx_d (by kernel_rfl) rfl ?_ | refine wO rfl rfl ?_ | refine wT rfl ?_ | refine wF rfl ?_ | refine wB ?_ | refine wK ?_ | refine wE rfl ?_ | refine wS ?_))
          refine VO.call rfl rfl ⟨_, Try.func4, by kernel_rfl, by kernel_rfl⟩ (fun wa10 ka10 ba10 => (works04_any wa10).mono ?_)
          rintro e w10 ⟨rfl, hb10⟩
          skip
          refine ⟨_, rfl, hb10, fun kb10 _ bb10 => wV rfl ?_⟩
          (repeat (first | refine wN ?_ | refine wQ ?_ | refine cx_r rfl ?_ | refine cx_d (by kernel_rfl) rfl ?_ | refine wO rfl rfl ?_ | refine wT rfl ?_ | refine wF rfl ?_ | refine wB ?_ | refine wK ?_ | refine wE rfl ?_ | refine wS ?_))
          refine VS.ret (cx_ok _ _) rfl rfl (fun wz kz bz => ?_)
          exact ⟨rfl, bz⟩
    · refine VS.condY rfl (decide_eq_true (show ((ys.length : Int) > 4) by omega)) ?_
      (repeat (first | refine wN ?_ | refine wQ ?_ | refine cx_r rfl ?_ | refine cx_d (by kernel_rfl) rfl ?_ | refine wO rfl rfl ?_ | refine wT rfl ?_ | refine wF rfl ?_ | refine wB ?_ | refine wK ?_ | refine wE rfl ?_ | refine wS ?_))
      refine VO.call rfl rfl ⟨_, Try.func4, by kernel_rfl, by kernel_rfl⟩ (fun wa1 ka1 ba1 => (works04_any wa1).mono ?_)
      rintro e w1 ⟨rfl, hb1⟩
      skip
      refine ⟨_, rfl, hb1, fun kb1 _ bb1 => wV rfl ?_⟩
      (repeat (first | refine wN ?_ | refine wQ ?_ | refine cx_r rfl ?_ | refine cx_d (by kernel_rfl) rfl ?_ | refine wO rfl rfl ?_ | refine wT rfl ?_ | refine wF rfl ?_ | refine wB ?_ | refine wK ?_ | refine wE rfl ?_ | refine wS ?_))
      refine VS.ret (cx_ok _ _) rfl rfl (fun wz kz bz => ?_)
      exact ⟨rfl, bz⟩
  · refine VO.fix 22 rfl (congrArg (fun b => AV.val (.bool b)) (decide_eq_true (show ((xs.length : Int) > 4) by omega))) ?_
    (repeat (first | refine wN ?_ | refine wQ ?_ | refine cx_r rfl ?_ | refine cx_d (by kernel_rfl) rfl ?_ | refine wO rfl rfl ?_ | refine wT rfl ?_ | refine wF rfl ?_ | refine wB ?_ | refine wK ?_ | refine wE rfl ?_ | refine wS ?_))
    refine VO.call rfl rfl ⟨_, Try.func4, by kernel_rfl, by kernel_rfl⟩ (fun wa1 ka1 ba1 => (works04_any wa1).mono ?_)
    rintro e w1 ⟨rfl, hb1⟩
    skip
    refine ⟨_, rfl, hb1, fun kb1 _ bb1 => wV rfl ?_⟩
    (repeat (first | refine wN ?_ | refine wQ ?_ | refine cx_r rfl ?_ | refine cx_d (by kernel_rfl) rfl ?_ | refine wO rfl rfl ?_ | refine wT rfl ?_ | refine wF rfl ?_ | refine wB ?_ | refine wK ?_ | refine wE rfl ?_ | refine wS ?_))
    refine VS.ret (cx_ok _ _) rfl rfl (fun wz kz bz => ?_)
    exact ⟨rfl, bz⟩
end Go.Proofs.Ytppfcobomaaceaa
