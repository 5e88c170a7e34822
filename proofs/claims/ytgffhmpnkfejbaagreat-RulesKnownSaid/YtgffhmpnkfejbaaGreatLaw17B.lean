/- RulesCount, RulesBounds: what these statements' functions answer. -/
import Derived.Test.YtgffhmpnkfejbaaGreatLaw17A
set_option linter.all false
namespace Go.Proofs.YtgffhmpnkfejbaaGreat
open Go.RowKit
attribute [local irreducible] vcOps VS

/-- circumstances in which the rows of the reference's items are never written -/
abbrev cx17 (P : Program) (w : World) (N : Nat) : Cx := { P := P, w0 := w, N := N, K := ⟨UU, fun _ => True, fun t => Nat.beq t 70⟩, SU := fun t => Nat.beq t 25, ti := table, keep := fun _ _ => trivial }
theorem cx17_ok (w : World) (N : Nat) : (cx17 Tryz.prog w N).Ok := table_ok
theorem cx17_mixed (w : World) (N : Nat) : (cx17 Tryz.prog w N).P.follows .mixedOrders = true := by show Tryz.prog.follows .mixedOrders = true; kernel_rfl
section
variable {F F' : Fr} {H H' : Hp} {w w1 : World} {N : Nat} {l' : List Oper} {Q : Exit → Act → World → Prop} {k : List It} {id : Nat} {ops : Array Oper}
theorem cx17_r (e : runD (cx17 Tryz.prog w1 N) ops 80 ops.toList F H = (l', F', H')) (h : vcOps (cx17 Tryz.prog w1 N) none ops l' (VS (cx17 Tryz.prog w1 N) Q k) F' H' w) : VS (cx17 Tryz.prog w1 N) Q (.code (.region id ops false) :: k) F H w := VS.region (cx17_ok _ _) (VO.run 80 e h)
theorem cx17_d (hchk : drawOk (cx17 Tryz.prog w1 N).SU [] ops = true) (e : runD (cx17 Tryz.prog w1 N) ops 80 ops.toList F H = (l', F', H')) (h : vcOps (cx17 Tryz.prog w1 N) (some []) ops l' (VS (cx17 Tryz.prog w1 N) Q k) F' H' w) : VS (cx17 Tryz.prog w1 N) Q (.code (.region id ops true) :: k) F H w := VS.draw (cx17_ok _ _) (cx17_mixed _ _) [] hchk (VO.run 80 e h)
end
set_option maxRecDepth 4000 in
set_option maxHeartbeats 4000000 in
theorem rulesCount_any (v : Value) (l : List Itm) (kk : Nat) (w : World) (hv : SlIn (ItmE kk) 9 w v l) :
    Calls Tryz.prog 3 #[v] w fun e w' => e = .returned (.bool true) ∧ Beh w w' := by
  obtain ⟨p, c, rfl, hnc, hcm⟩ := hv.form
  refine calm_enter (C := cx17 Tryz.prog w _) (args := [_]) Tryz.func3 rfl Tryz.ntmps3 (Nat.le_of_ble_eq_true rfl) ?_
  (repeat (first | refine wN ?_ | refine wP rfl ?_ | refine cx17_r rfl ?_ | refine cx17_d (by kernel_rfl) rfl ?_ | refine wO rfl rfl ?_))
  refine VO.call rfl rfl (fk Tryz.func8) (fun wa1 ka1 ba1 => (few17_any w _ l kk wa1 hv ba1).mono ?_)
  rintro e w1 ⟨b1, rfl, hs1, hb1⟩
  cases b1 with
  | false =>
    refine ⟨_, rfl, hb1, fun kb1 _ bb1 => wV rfl ?_⟩
    (repeat (first | refine wN ?_ | refine wP rfl ?_ | refine cx17_r rfl ?_ | refine cx17_d (by kernel_rfl) rfl ?_ | refine wO rfl rfl ?_))
    refine VO.call rfl rfl (fk Tryz.func9) (fun wa2 ka2 ba2 => (works17_any wa2).mono ?_)
    rintro e w2 ⟨rfl, hb2⟩
    skip
    refine ⟨_, rfl, hb2, fun kb2 _ bb2 => wV rfl ?_⟩
    (repeat (first | refine wN ?_ | refine wP rfl ?_ | refine cx17_r rfl ?_ | refine cx17_d (by kernel_rfl) rfl ?_ | refine wO rfl rfl ?_))
    refine VS.ret (cx17_ok _ _) rfl rfl (fun wz kz bz => ?_)
    exact ⟨rfl, bz⟩
  | true =>
    refine ⟨_, rfl, hb1, fun kb1 _ bb1 => wV rfl ?_⟩
    (repeat (first | refine wN ?_ | refine wP rfl ?_ | refine cx17_r rfl ?_ | refine cx17_d (by kernel_rfl) rfl ?_ | refine wO rfl rfl ?_))
    obtain ⟨h6, h15⟩ := hs1 rfl
    have hz := few_sz h6 h15
    have hrs : ruleSz 6 l.length ≤ 30000000 := Nat.le_trans (ruleSz_le h15) (by decide)
    refine VO.call rfl rfl (fk Tryz.func11) (fun wa2 ka2 ba2 => (refs17_any _ l 6 wa2 (h6.beh (itm_ok 6) ba2) (by omega) (by omega)).mono ?_)
    rintro e w2 ⟨r2, rfl, q2, hb2⟩
    obtain ⟨p2, c2, rfl⟩ := q2.form
    refine ⟨_, rfl, hb2, fun kb2 _ bb2 => wV rfl ?_⟩
    (repeat (first | refine wN ?_ | refine wP rfl ?_ | refine cx17_r rfl ?_ | refine cx17_d (by kernel_rfl) rfl ?_ | refine wO rfl rfl ?_))
    refine VO.call rfl rfl (fk Tryz.func10) (fun wa3 ka3 ba3 => (qOf17_any _ l 6 wa3 ((q2.kp (itm_ok 6) (by (with_reducible (repeat (first | assumption | exact kU _ | exact kR _ | refine kT ?_ (by assumption))))) rfl).sl (itm_ok 6)) (by omega) (by omega) hrs).mono ?_)
    rintro e w3 ⟨r3, rfl, q3, hb3⟩
    have q3' := q3; obtain ⟨s3a, p3a, n3a, c3a, t3a, y3a, m3a, d3a, s3b, p3b, n3b, c3b, t3b, y3b, m3b, d3b, s3c, p3c, n3c, c3c, t3c, y3c, m3c, d3c, s3d, p3d, n3d, c3d, t3d, y3d, m3d, d3d, rfl, _⟩ := q3'
    refine ⟨_, rfl, hb3, fun kb3 _ bb3 => wV rfl ?_⟩
    (repeat (first | refine wN ?_ | refine wP rfl ?_ | refine cx17_r rfl ?_ | refine cx17_d (by kernel_rfl) rfl ?_ | refine wO rfl rfl ?_))
    refine VO.call rfl rfl (fk Tryz.func12) (fun wa4 ka4 ba4 => (rOf17_any _ l 6 wa4 (h6.beh (itm_ok 6) ba4) (by omega) (by omega) (by omega)).mono ?_)
    rintro e w4 ⟨r4, rfl, q4, hb4⟩
    have q4' := q4; obtain ⟨s4a, p4a, n4a, c4a, t4a, y4a, m4a, d4a, s4b, p4b, n4b, c4b, t4b, y4b, m4b, d4b, s4c, p4c, n4c, c4c, t4c, y4c, m4c, d4c, s4d, p4d, n4d, c4d, t4d, y4d, m4d, d4d, rfl, _⟩ := q4'
    refine ⟨_, rfl, hb4, fun kb4 _ bb4 => wV rfl ?_⟩
    (repeat (first | refine wN ?_ | refine wP rfl ?_ | refine cx17_r rfl ?_ | refine cx17_d (by kernel_rfl) rfl ?_ | refine wO rfl rfl ?_))
    refine VO.call rfl rfl (fk Tryz.func13) (fun wa5 ka5 ba5 => (is17_any (rulesOf l) _ _ wa5 (q4.kp (by (with_reducible (repeat (first | assumption | exact kU _ | exact kR _ | refine kT ?_ (by assumption)))))) (q3.kp (by (with_reducible (repeat (first | assumption | exact kU _ | exact kR _ | refine kT ?_ (by assumption))))))).mono ?_)
    rintro e w5 ⟨rfl, hb5⟩
    skip
    refine ⟨_, rfl, hb5, fun kb5 _ bb5 => wV rfl ?_⟩
    (repeat (first | refine wN ?_ | refine wP rfl ?_ | refine cx17_r rfl ?_ | refine cx17_d (by kernel_rfl) rfl ?_ | refine wO rfl rfl ?_))
    refine VO.call rfl rfl (fk Tryz.func15) (fun wa6 ka6 ba6 => (rdiff_any _ (rulesOf l) 301 wa6 (q4.kp (by (with_reducible (repeat (first | assumption | exact kU _ | exact kR _ | refine kT ?_ (by assumption)))))) hz (by omega)).mono ?_)
    rintro e w6 ⟨r6, rfl, q6, hb6⟩
    obtain ⟨s6, p6, n6, c6, t6, y6, m6, d6, rfl⟩ := q6.form
    refine ⟨_, rfl, hb6, fun kb6 _ bb6 => wV rfl ?_⟩
    (repeat (first | refine wN ?_ | refine wP rfl ?_ | refine cx17_r rfl ?_ | refine cx17_d (by kernel_rfl) rfl ?_ | refine wO rfl rfl ?_))
    refine VO.call rfl rfl (fk Tryz.func16) (fun wa7 ka7 ba7 => (qdiff_any _ (rulesOf l) 301 wa7 (q3.kp (by (with_reducible (repeat (first | assumption | exact kU _ | exact kR _ | refine kT ?_ (by assumption)))))) hz (by omega)).mono ?_)
    rintro e w7 ⟨r7, rfl, q7, hb7⟩
    obtain ⟨s7, p7, n7, c7, t7, y7, m7, d7, rfl⟩ := q7.form
    refine ⟨_, rfl, hb7, fun kb7 _ bb7 => wV rfl ?_⟩
    (repeat (first | refine wN ?_ | refine wP rfl ?_ | refine cx17_r rfl ?_ | refine cx17_d (by kernel_rfl) rfl ?_ | refine wO rfl rfl ?_))
    refine VO.call rfl rfl (fk Tryz.func14) (fun wa8 ka8 ba8 => (filIs_any _ _ _ wa8 (q6.kp (by (with_reducible (repeat (first | assumption | exact kU _ | exact kR _ | refine kT ?_ (by assumption)))))).rd (q7.kp (by (with_reducible (repeat (first | assumption | exact kU _ | exact kR _ | refine kT ?_ (by assumption)))))).rd).mono ?_)
    rintro e w8 ⟨rfl, hb8⟩
    skip
    refine ⟨_, rfl, hb8, fun kb8 _ bb8 => wV rfl ?_⟩
    (repeat (first | refine wN ?_ | refine wP rfl ?_ | refine cx17_r rfl ?_ | refine cx17_d (by kernel_rfl) rfl ?_ | refine wO rfl rfl ?_))
    refine VO.call rfl rfl (fk Tryz.func17) (fun wa9 ka9 ba9 => (rebitda_any _ (rulesOf l) 301 wa9 (q4.kp (by (with_reducible (repeat (first | assumption | exact kU _ | exact kR _ | refine kT ?_ (by assumption)))))) hz (by omega)).mono ?_)
    rintro e w9 ⟨r9, rfl, q9, hb9⟩
    obtain ⟨s9, p9, n9, c9, t9, y9, m9, d9, rfl⟩ := q9.form
    refine ⟨_, rfl, hb9, fun kb9 _ bb9 => wV rfl ?_⟩
    (repeat (first | refine wN ?_ | refine wP rfl ?_ | refine cx17_r rfl ?_ | refine cx17_d (by kernel_rfl) rfl ?_ | refine wO rfl rfl ?_))
    refine VO.call rfl rfl (fk Tryz.func18) (fun wa10 ka10 ba10 => (qebitda_any _ (rulesOf l) 301 wa10 (q3.kp (by (with_reducible (repeat (first | assumption | exact kU _ | exact kR _ | refine kT ?_ (by assumption)))))) hz (by omega)).mono ?_)
    rintro e w10 ⟨r10, rfl, q10, hb10⟩
    obtain ⟨s10, p10, n10, c10, t10, y10, m10, d10, rfl⟩ := q10.form
    refine ⟨_, rfl, hb10, fun kb10 _ bb10 => wV rfl ?_⟩
    (repeat (first | refine wN ?_ | refine wP rfl ?_ | refine cx17_r rfl ?_ | refine cx17_d (by kernel_rfl) rfl ?_ | refine wO rfl rfl ?_))
    refine VO.call rfl rfl (fk Tryz.func14) (fun wa11 ka11 ba11 => (filIs_any _ _ _ wa11 (q9.kp (by (with_reducible (repeat (first | assumption | exact kU _ | exact kR _ | refine kT ?_ (by assumption)))))).rd (q10.kp (by (with_reducible (repeat (first | assumption | exact kU _ | exact kR _ | refine kT ?_ (by assumption)))))).rd).mono ?_)
    rintro e w11 ⟨rfl, hb11⟩
    skip
    refine ⟨_, rfl, hb11, fun kb11 _ bb11 => wV rfl ?_⟩
    (repeat (first | refine wN ?_ | refine wP rfl ?_ | refine cx17_r rfl ?_ | refine cx17_d (by kernel_rfl) rfl ?_ | refine wO rfl rfl ?_))
    refine VO.call rfl rfl (fk Tryz.func9) (fun wa12 ka12 ba12 => (works17_any wa12).mono ?_)
    rintro e w12 ⟨rfl, hb12⟩
    skip
    refine ⟨_, rfl, hb12, fun kb12 _ bb12 => wV rfl ?_⟩
    (repeat (first | refine wN ?_ | refine wP rfl ?_ | refine cx17_r rfl ?_ | refine cx17_d (by kernel_rfl) rfl ?_ | refine wO rfl rfl ?_))
    refine VS.ret (cx17_ok _ _) rfl rfl (fun wz kz bz => ?_)
    exact ⟨rfl, bz⟩
theorem one_base (x : Itm) : rulesOf [x] = itmP x := by show Pt.zero.add (itmP x) = _; exact zero_add' _
theorem min_eq (A : Rat) (q : Rat) : rbest rless A [q] = if q < A then q else A := by
  have e : rbest rless A [q] = if rless q A = true then q else A := rfl
  rw [e]
  by_cases h : q < A
  · rw [if_pos h, if_pos (rless_iff.2 h)]
  · rw [if_neg h, if_neg (fun e => h (rless_iff.1 e))]
theorem bound_d {T A : Rat} (hT : 0 ≤ T) (hA : 0 ≤ A) : rcmp (-(rulesOf [(4, rbest rless A [((1 : Int) : Rat)], T)]).s) 0 ≥ 0 ∧ rcmp (-(rulesOf [(4, rbest rless A [((1 : Int) : Rat)], T)]).s) T ≤ 0 := by
  rw [one_base, show (itmP (4, rbest rless A [((1 : Int) : Rat)], T)).s = T * rbest rless A [((1 : Int) : Rat)] - T from rfl, min_eq]
  obtain ⟨m, hm⟩ : ∃ m, m = (if ((1 : Int) : Rat) < A then ((1 : Int) : Rat) else A) := ⟨_, rfl⟩
  rw [← hm]
  have h1 : ((1 : Int) : Rat) = 1 := rfl
  have h0 : 0 ≤ m := by rw [hm]; split <;> first | assumption | (rw [h1]; decide)
  have h2 : m ≤ 1 := by
    rw [hm]
    split
    · rw [h1]; exact Rat.le_refl
    · rename_i h; rw [h1] at h; exact Rat.not_lt.1 h
  have h3 : 0 ≤ T * m := Rat.mul_nonneg hT h0
  have h4 : 0 ≤ T * (1 - m) := Rat.mul_nonneg hT (by grind)
  exact ⟨rcmp_ge.2 (by grind), rcmp_le.2 (by grind)⟩
theorem bound_c {T A : Rat} (hT : 0 ≤ T) (hA : 0 ≤ A) : ∃ C, C = -(rulesOf [(5, A, T)]).s ∧ rcmp C 0 ≥ 0 ∧ rcmp C T ≤ 0 ∧ rcmp C A ≤ 0 ∧ (C = T ∨ C = A) := by
  refine ⟨_, rfl, ?_⟩
  rw [one_base, show (itmP (5, A, T)).s = if rcmp T A > 0 then -A else -T from rfl]
  by_cases h : rcmp T A > 0
  · rw [if_pos h]
    have h1 : A < T := rmore_iff.1 (decide_eq_true h)
    have h2 : A ≤ T := Rat.le_of_lt h1
    have e : -(-A) = A := by grind
    rw [e]
    exact ⟨rcmp_ge.2 hA, rcmp_le.2 h2, rcmp_le.2 Rat.le_refl, .inr rfl⟩
  · rw [if_neg h]
    have h2 : T ≤ A := rcmp_le.1 (by omega)
    have e : -(-T) = T := by grind
    rw [e]
    exact ⟨rcmp_ge.2 hT, rcmp_le.2 Rat.le_refl, rcmp_le.2 h2, .inl rfl⟩
set_option maxRecDepth 4000 in
set_option maxHeartbeats 4000000 in
theorem rulesBounds_any (v u : Value) (T A : Rat) (k : Nat) (w : World) (hv : RatIn w v T k) (hu : RatIn w u A k) (hk : k ≤ 9223372036854775807) :
    Calls Tryz.prog 4 #[v, u] w fun e w' => e = .returned (.bool true) ∧ Beh w w' := by
  obtain ⟨s8, p8, n8, c8, t8, y8, m8, d8, rfl⟩ := hv.form
  obtain ⟨s9, p9, n9, c9, t9, y9, m9, d9, rfl⟩ := hu.form
  refine calm_enter (C := cxOf Tryz.prog w _) (args := [_, _]) Tryz.func4 rfl Tryz.ntmps4 (Nat.le_of_ble_eq_true rfl) ?_
  (repeat (first | refine wN ?_ | refine wP rfl ?_ | refine cx_r rfl ?_ | refine cx_d (by kernel_rfl) rfl ?_ | refine wO rfl rfl ?_))
  refine VO.call rfl rfl (fk Tryz.func19) (fun wa1 ka1 ba1 => (short17_any _ T k wa1 (hv.kp (Kp.of (U := UU) ba1))).mono ?_)
  rintro e w1 ⟨b1, rfl, hs1, hb1⟩
  cases b1 with
  | false =>
    refine ⟨_, rfl, hb1, fun kb1 _ bb1 => wV rfl ?_⟩
    (repeat (first | refine wN ?_ | refine wP rfl ?_ | refine cx_r rfl ?_ | refine cx_d (by kernel_rfl) rfl ?_ | refine wO rfl rfl ?_))
    refine VO.call rfl rfl (fk Tryz.func9) (fun wa2 ka2 ba2 => (works17_any wa2).mono ?_)
    rintro e w2 ⟨rfl, hb2⟩
    skip
    refine ⟨_, rfl, hb2, fun kb2 _ bb2 => wV rfl ?_⟩
    (repeat (first | refine wN ?_ | refine wP rfl ?_ | refine cx_r rfl ?_ | refine cx_d (by kernel_rfl) rfl ?_ | refine wO rfl rfl ?_))
    refine VS.ret (cx_ok _ _) rfl rfl (fun wz kz bz => ?_)
    exact ⟨rfl, bz⟩
  | true =>
  refine ⟨_, rfl, hb1, fun kb1 _ bb1 => wV rfl ?_⟩
  (repeat (first | refine wN ?_ | refine wP rfl ?_ | refine cx_r rfl ?_ | refine cx_d (by kernel_rfl) rfl ?_ | refine wO rfl rfl ?_))
  have hT := hv.le (hs1 rfl)
  refine VO.call rfl rfl (fk Tryz.func19) (fun wa2 ka2 ba2 => (short17_any _ A k wa2 (hu.kp (Kp.of (U := UU) ba2))).mono ?_)
  rintro e w2 ⟨b2, rfl, hs2, hb2⟩
  cases b2 with
  | false =>
    refine ⟨_, rfl, hb2, fun kb2 _ bb2 => wV rfl ?_⟩
    (repeat (first | refine wN ?_ | refine wP rfl ?_ | refine cx_r rfl ?_ | refine cx_d (by kernel_rfl) rfl ?_ | refine wO rfl rfl ?_))
    refine VO.call rfl rfl (fk Tryz.func9) (fun wa3 ka3 ba3 => (works17_any wa3).mono ?_)
    rintro e w3 ⟨rfl, hb3⟩
    skip
    refine ⟨_, rfl, hb3, fun kb3 _ bb3 => wV rfl ?_⟩
    (repeat (first | refine wN ?_ | refine wP rfl ?_ | refine cx_r rfl ?_ | refine cx_d (by kernel_rfl) rfl ?_ | refine wO rfl rfl ?_))
    refine VS.ret (cx_ok _ _) rfl rfl (fun wz kz bz => ?_)
    exact ⟨rfl, bz⟩
  | true =>
  refine ⟨_, rfl, hb2, fun kb2 _ bb2 => wV rfl ?_⟩
  (repeat (first | refine wN ?_ | refine wP rfl ?_ | refine cx_r rfl ?_ | refine cx_d (by kernel_rfl) rfl ?_ | refine wO rfl rfl ?_))
  have hA := hu.le (hs2 rfl)
  refine VO.call rfl rfl (fk Tryz.func20) (fun wa3 ka3 ba3 => (ratSign_any _ T 6 wa3 (hT.kp (Kp.of (U := UU) ba3)) (by omega)).mono ?_)
  rintro e w3 ⟨rfl, hb3⟩
  skip
  refine ⟨_, rfl, hb3, fun kb3 _ bb3 => wV rfl ?_⟩
  (repeat (first | refine wN ?_ | refine wP rfl ?_ | refine cx_r rfl ?_ | refine cx_d (by kernel_rfl) rfl ?_ | refine wO rfl rfl ?_))
  by_cases hT0 : rcmp T 0 < 0
  · refine VO.fix 20 rfl (congrArg (fun b => AV.val (.bool b)) (decide_eq_true hT0)) ?_
    (repeat (first | refine wN ?_ | refine wP rfl ?_ | refine cx_r rfl ?_ | refine cx_d (by kernel_rfl) rfl ?_ | refine wO rfl rfl ?_))
    refine VO.call rfl rfl (fk Tryz.func9) (fun wa4 ka4 ba4 => (works17_any wa4).mono ?_)
    rintro e w4 ⟨rfl, hb4⟩
    skip
    refine ⟨_, rfl, hb4, fun kb4 _ bb4 => wV rfl ?_⟩
    (repeat (first | refine wN ?_ | refine wP rfl ?_ | refine cx_r rfl ?_ | refine cx_d (by kernel_rfl) rfl ?_ | refine wO rfl rfl ?_))
    refine VS.ret (cx_ok _ _) rfl rfl (fun wz kz bz => ?_)
    exact ⟨rfl, bz⟩
  refine VO.fix 20 rfl (congrArg (fun b => AV.val (.bool b)) (decide_eq_false hT0)) ?_
  (repeat (first | refine wN ?_ | refine wP rfl ?_ | refine cx_r rfl ?_ | refine cx_d (by kernel_rfl) rfl ?_ | refine wO rfl rfl ?_))
  refine VO.call rfl rfl (fk Tryz.func20) (fun wa4 ka4 ba4 => (ratSign_any _ A 6 wa4 (hA.kp (Kp.of (U := UU) ba4)) (by omega)).mono ?_)
  rintro e w4 ⟨rfl, hb4⟩
  skip
  refine ⟨_, rfl, hb4, fun kb4 _ bb4 => wV rfl ?_⟩
  (repeat (first | refine wN ?_ | refine wP rfl ?_ | refine cx_r rfl ?_ | refine cx_d (by kernel_rfl) rfl ?_ | refine wO rfl rfl ?_))
  by_cases hA0 : rcmp A 0 < 0
  · refine VS.condY rfl (decide_eq_true hA0) ?_
    (repeat (first | refine wN ?_ | refine wP rfl ?_ | refine cx_r rfl ?_ | refine cx_d (by kernel_rfl) rfl ?_ | refine wO rfl rfl ?_))
    refine VO.call rfl rfl (fk Tryz.func9) (fun wa5 ka5 ba5 => (works17_any wa5).mono ?_)
    rintro e w5 ⟨rfl, hb5⟩
    skip
    refine ⟨_, rfl, hb5, fun kb5 _ bb5 => wV rfl ?_⟩
    (repeat (first | refine wN ?_ | refine wP rfl ?_ | refine cx_r rfl ?_ | refine cx_d (by kernel_rfl) rfl ?_ | refine wO rfl rfl ?_))
    refine VS.ret (cx_ok _ _) rfl rfl (fun wz kz bz => ?_)
    exact ⟨rfl, bz⟩
  refine VS.condN rfl (decide_eq_false hA0) ?_
  (repeat (first | refine wN ?_ | refine wP rfl ?_ | refine cx_r rfl ?_ | refine cx_d (by kernel_rfl) rfl ?_ | refine wO rfl rfl ?_))
  have gT : 0 ≤ T := rcmp_ge.1 (by omega)
  have gA : 0 ≤ A := rcmp_ge.1 (by omega)
  have zT : RSz T 6 := hT.sz (by omega)
  have zA : RSz A 6 := hA.sz (by omega)
  obtain ⟨D1, D2⟩ := bound_d gT gA
  obtain ⟨C, hC, C1, C2, C3, C4⟩ := bound_c gT gA
  refine VO.call rfl rfl (fk Tryz.func23) (fun wa5 ka5 ba5 => (ratWhole_any 1 wa5 (by omega) (by omega)).mono ?_)
  rintro e w5 ⟨r5, rfl, q5, hb5⟩
  obtain ⟨s5, p5, n5, c5, t5, y5, m5, d5, rfl⟩ := q5.form
  refine ⟨_, rfl, hb5, fun kb5 _ bb5 => wV rfl ?_⟩
  (repeat (first | refine wN ?_ | refine wP rfl ?_ | refine cx_r rfl ?_ | refine cx_d (by kernel_rfl) rfl ?_ | refine wO rfl rfl ?_))
  have z5 : RSz ((1 : Int) : Rat) 6 := RSz.one.mono (by omega)
  refine VO.callF rfl (fk Tryz.func22) (fun wa6 β ka6 ba6 ho => (ratMin_any _ _ A [((1 : Int) : Rat)] 6 wa6 (hA.kp (Kp.of (U := UU) ba6)) (ownV_rats (ho.own 28 (.base (List.mem_singleton.2 rfl)) _ _ rfl) [] (vs := [[.bool s5, .slice p5 n5 c5, .bool t5, .slice y5 m5 d5]]) (by rfl) rfl (RatRow.cons ((q5.kp (by (with_reducible (repeat (first | assumption | exact kU _ | exact kR _ | refine kT ?_ (by assumption)))))).in z5) RatRow.nil) (Nat.le_of_ble_eq_true rfl) (by decide)) (by omega) (Nat.le_of_ble_eq_true rfl)).mono ?_)
  rintro e w6 ⟨r6, rfl, q6, z6, hb6⟩
  obtain ⟨s6, p6, n6, c6, t6, y6, m6, d6, rfl⟩ := q6.form
  refine ⟨_, rfl, hb6, fun kb6 _ bb6 => wV rfl ?_⟩
  (repeat (first | refine wN ?_ | refine wP rfl ?_ | refine cx_r rfl ?_ | refine cx_d (by kernel_rfl) rfl ?_ | refine wO rfl rfl ?_))
  have z6' : RSz (rbest rless A [((1 : Int) : Rat)]) 6 := z6
  refine VO.callF rfl (fk Tryz.func12) (fun wa7 β ka7 ba7 ho => (rOf17_any _ [(4, rbest rless A [((1 : Int) : Rat)], T)] 6 wa7 (ownV_sl (itm_ok 6) (ho.own 32 (.base (List.mem_singleton.2 rfl)) _ _ rfl) [] (vs := [[.int .u8 4, .bool s6, .slice p6 n6 c6, .bool t6, .slice y6 m6 d6, .bool s8, .slice p8 n8 c8, .bool t8, .slice y8 m8 d8]]) (by rfl) (RowE.cons (ItmE.mk (by decide) ((q6.kp (by (with_reducible (repeat (first | assumption | exact kU _ | exact kR _ | refine kT ?_ (by assumption)))))).in z6') (hT.kp (Kp.of (U := UU) ba7))) (RowE.nil)) rfl (Nat.le_of_ble_eq_true rfl) (by decide)) (by omega) (by omega) (Nat.le_of_ble_eq_true rfl)).mono ?_)
  rintro e w7 ⟨r7, rfl, q7, hb7⟩
  have q7' := q7
  obtain ⟨s7a, p7a, n7a, c7a, t7a, y7a, m7a, d7a, s7b, p7b, n7b, c7b, t7b, y7b, m7b, d7b, s7c, p7c, n7c, c7c, t7c, y7c, m7c, d7c, s7d, p7d, n7d, c7d, t7d, y7d, m7d, d7d, rfl, q7A, q7B, q7C, q7D⟩ := q7'
  refine ⟨_, rfl, hb7, fun kb7 _ bb7 => wV rfl ?_⟩
  (repeat (first | refine wN ?_ | refine wP rfl ?_ | refine cx_r rfl ?_ | refine cx_d (by kernel_rfl) rfl ?_ | refine wO rfl rfl ?_))
  have z7 : PSz (rulesOf [(4, rbest rless A [((1 : Int) : Rat)], T)]) 21 := (rulesOf_sz (j := 6) (by omega) _ (by intro x hx; simp only [List.mem_singleton] at hx; subst hx; exact ⟨z6', zT⟩)).mono (Nat.le_of_ble_eq_true rfl)
  refine VO.call rfl rfl (fk Tryz.func21) (fun wa8 ka8 ba8 => (ratNeg_any _ (rulesOf [(4, rbest rless A [((1 : Int) : Rat)], T)]).s 21 wa8 ((q7B.kp (by (with_reducible (repeat (first | assumption | exact kU _ | exact kR _ | refine kT ?_ (by assumption)))))).to z7.s) (by omega)).mono ?_)
  rintro e w8 ⟨r8, rfl, q8, hb8⟩
  obtain ⟨s10, p10, n10, c10, t10, y10, m10, d10, rfl⟩ := q8.form
  refine ⟨_, rfl, hb8, fun kb8 _ bb8 => wV rfl ?_⟩
  (repeat (first | refine wN ?_ | refine wP rfl ?_ | refine cx_r rfl ?_ | refine cx_d (by kernel_rfl) rfl ?_ | refine wO rfl rfl ?_))
  refine VO.callF rfl (fk Tryz.func12) (fun wa9 β ka9 ba9 ho => (rOf17_any _ [(5, A, T)] 6 wa9 (ownV_sl (itm_ok 6) (ho.own 39 (.base (List.mem_singleton.2 rfl)) _ _ rfl) [] (vs := [[.int .u8 5, .bool s9, .slice p9 n9 c9, .bool t9, .slice y9 m9 d9, .bool s8, .slice p8 n8 c8, .bool t8, .slice y8 m8 d8]]) (by rfl) (RowE.cons (ItmE.mk (by decide) (hA.kp (Kp.of (U := UU) ba9)) (hT.kp (Kp.of (U := UU) ba9))) (RowE.nil)) rfl (Nat.le_of_ble_eq_true rfl) (by decide)) (by omega) (by omega) (Nat.le_of_ble_eq_true rfl)).mono ?_)
  rintro e w9 ⟨r9, rfl, q9, hb9⟩
  have q9' := q9
  obtain ⟨s9a, p9a, n9a, c9a, t9a, y9a, m9a, d9a, s9b, p9b, n9b, c9b, t9b, y9b, m9b, d9b, s9c, p9c, n9c, c9c, t9c, y9c, m9c, d9c, s9d, p9d, n9d, c9d, t9d, y9d, m9d, d9d, rfl, q9A, q9B, q9C, q9D⟩ := q9'
  refine ⟨_, rfl, hb9, fun kb9 _ bb9 => wV rfl ?_⟩
  (repeat (first | refine wN ?_ | refine wP rfl ?_ | refine cx_r rfl ?_ | refine cx_d (by kernel_rfl) rfl ?_ | refine wO rfl rfl ?_))
  have z9 : PSz (rulesOf [(5, A, T)]) 21 := (rulesOf_sz (j := 6) (by omega) _ (by intro x hx; simp only [List.mem_singleton] at hx; subst hx; exact ⟨zA, zT⟩)).mono (Nat.le_of_ble_eq_true rfl)
  refine VO.call rfl rfl (fk Tryz.func21) (fun wa10 ka10 ba10 => (ratNeg_any _ (rulesOf [(5, A, T)]).s 21 wa10 ((q9B.kp (by (with_reducible (repeat (first | assumption | exact kU _ | exact kR _ | refine kT ?_ (by assumption)))))).to z9.s) (by omega)).mono ?_)
  rintro e w10 ⟨r10, rfl, q10, hb10⟩
  obtain ⟨s11, p11, n11, c11, t11, y11, m11, d11, rfl⟩ := q10.form
  refine ⟨_, rfl, hb10, fun kb10 _ bb10 => wV rfl ?_⟩
  (repeat (first | refine wN ?_ | refine wP rfl ?_ | refine cx_r rfl ?_ | refine cx_d (by kernel_rfl) rfl ?_ | refine wO rfl rfl ?_))
  have zD := z7.s.neg
  have zC := z9.s.neg
  rw [← hC] at q10 zC
  obtain ⟨D, hD⟩ : ∃ D, D = -(rulesOf [(4, rbest rless A [((1 : Int) : Rat)], T)]).s := ⟨_, rfl⟩
  rw [← hD] at D1 D2 q8 zD
  refine VO.call rfl rfl (fk Tryz.func20) (fun wa11 ka11 ba11 => (ratSign_any _ D 21 wa11 ((q8.kp (by (with_reducible (repeat (first | assumption | exact kU _ | exact kR _ | refine kT ?_ (by assumption)))))).in zD) (by omega)).mono ?_)
  rintro e w11 ⟨rfl, hb11⟩
  skip
  refine ⟨_, rfl, hb11, fun kb11 _ bb11 => wV rfl ?_⟩
  (repeat (first | refine wN ?_ | refine wP rfl ?_ | refine cx_r rfl ?_ | refine cx_d (by kernel_rfl) rfl ?_ | refine wO rfl rfl ?_))
  refine VO.fix 46 rfl (congrArg (fun b => AV.val (.bool b)) (decide_eq_true D1)) ?_
  (repeat (first | refine wN ?_ | refine wP rfl ?_ | refine cx_r rfl ?_ | refine cx_d (by kernel_rfl) rfl ?_ | refine wO rfl rfl ?_))
  refine VO.call rfl rfl (fk Tryz.func24) (fun wa12 ka12 ba12 => (ratCmp_any _ _ D T 21 6 wa12 ((q8.kp (by (with_reducible (repeat (first | assumption | exact kU _ | exact kR _ | refine kT ?_ (by assumption)))))).in zD) (hT.kp (Kp.of (U := UU) ba12)) (by omega) (by omega)).mono ?_)
  rintro e w12 ⟨rfl, hb12⟩
  skip
  refine ⟨_, rfl, hb12, fun kb12 _ bb12 => wV rfl ?_⟩
  (repeat (first | refine wN ?_ | refine wP rfl ?_ | refine cx_r rfl ?_ | refine cx_d (by kernel_rfl) rfl ?_ | refine wO rfl rfl ?_))
  refine VO.fix 52 rfl (congrArg (fun b => AV.val (.bool b)) (decide_eq_true D2)) ?_
  (repeat (first | refine wN ?_ | refine wP rfl ?_ | refine cx_r rfl ?_ | refine cx_d (by kernel_rfl) rfl ?_ | refine wO rfl rfl ?_))
  refine VO.call rfl rfl (fk Tryz.func20) (fun wa13 ka13 ba13 => (ratSign_any _ C 21 wa13 ((q10.kp (by (with_reducible (repeat (first | assumption | exact kU _ | exact kR _ | refine kT ?_ (by assumption)))))).in zC) (by omega)).mono ?_)
  rintro e w13 ⟨rfl, hb13⟩
  skip
  refine ⟨_, rfl, hb13, fun kb13 _ bb13 => wV rfl ?_⟩
  (repeat (first | refine wN ?_ | refine wP rfl ?_ | refine cx_r rfl ?_ | refine cx_d (by kernel_rfl) rfl ?_ | refine wO rfl rfl ?_))
  refine VO.fix 57 rfl (congrArg (fun b => AV.val (.bool b)) (decide_eq_true C1)) ?_
  (repeat (first | refine wN ?_ | refine wP rfl ?_ | refine cx_r rfl ?_ | refine cx_d (by kernel_rfl) rfl ?_ | refine wO rfl rfl ?_))
  refine VO.call rfl rfl (fk Tryz.func24) (fun wa14 ka14 ba14 => (ratCmp_any _ _ C T 21 6 wa14 ((q10.kp (by (with_reducible (repeat (first | assumption | exact kU _ | exact kR _ | refine kT ?_ (by assumption)))))).in zC) (hT.kp (Kp.of (U := UU) ba14)) (by omega) (by omega)).mono ?_)
  rintro e w14 ⟨rfl, hb14⟩
  skip
  refine ⟨_, rfl, hb14, fun kb14 _ bb14 => wV rfl ?_⟩
  (repeat (first | refine wN ?_ | refine wP rfl ?_ | refine cx_r rfl ?_ | refine cx_d (by kernel_rfl) rfl ?_ | refine wO rfl rfl ?_))
  refine VO.fix 63 rfl (congrArg (fun b => AV.val (.bool b)) (decide_eq_true C2)) ?_
  (repeat (first | refine wN ?_ | refine wP rfl ?_ | refine cx_r rfl ?_ | refine cx_d (by kernel_rfl) rfl ?_ | refine wO rfl rfl ?_))
  refine VO.call rfl rfl (fk Tryz.func24) (fun wa15 ka15 ba15 => (ratCmp_any _ _ C A 21 6 wa15 ((q10.kp (by (with_reducible (repeat (first | assumption | exact kU _ | exact kR _ | refine kT ?_ (by assumption)))))).in zC) (hA.kp (Kp.of (U := UU) ba15)) (by omega) (by omega)).mono ?_)
  rintro e w15 ⟨rfl, hb15⟩
  skip
  refine ⟨_, rfl, hb15, fun kb15 _ bb15 => wV rfl ?_⟩
  (repeat (first | refine wN ?_ | refine wP rfl ?_ | refine cx_r rfl ?_ | refine cx_d (by kernel_rfl) rfl ?_ | refine wO rfl rfl ?_))
  refine VO.fix 69 rfl (congrArg (fun b => AV.val (.bool b)) (decide_eq_true C3)) ?_
  (repeat (first | refine wN ?_ | refine wP rfl ?_ | refine cx_r rfl ?_ | refine cx_d (by kernel_rfl) rfl ?_ | refine wO rfl rfl ?_))
  by_cases hCT : C = T
  · refine VO.call rfl rfl (fk Tryz.func25) (fun wa16 ka16 ba16 => (ratSame_ok _ _ C T 21 6 wa16 ((q10.kp (by (with_reducible (repeat (first | assumption | exact kU _ | exact kR _ | refine kT ?_ (by assumption)))))).in zC) (hT.kp (Kp.of (U := UU) ba16)) (by omega) (by omega) true (decide_eq_true hCT)).mono ?_)
    rintro e w16 ⟨rfl, hb16⟩
    skip
    refine ⟨_, rfl, hb16, fun kb16 _ bb16 => wV rfl ?_⟩
    (repeat (first | refine wN ?_ | refine wP rfl ?_ | refine cx_r rfl ?_ | refine cx_d (by kernel_rfl) rfl ?_ | refine wO rfl rfl ?_))
    refine VO.call rfl rfl (fk Tryz.func9) (fun wa17 ka17 ba17 => (works17_any wa17).mono ?_)
    rintro e w17 ⟨rfl, hb17⟩
    skip
    refine ⟨_, rfl, hb17, fun kb17 _ bb17 => wV rfl ?_⟩
    (repeat (first | refine wN ?_ | refine wP rfl ?_ | refine cx_r rfl ?_ | refine cx_d (by kernel_rfl) rfl ?_ | refine wO rfl rfl ?_))
    refine VS.ret (cx_ok _ _) rfl rfl (fun wz kz bz => ?_)
    exact ⟨rfl, bz⟩
  · have hCA : C = A := C4.resolve_left hCT
    refine VO.call rfl rfl (fk Tryz.func25) (fun wa16 ka16 ba16 => (ratSame_ok _ _ C T 21 6 wa16 ((q10.kp (by (with_reducible (repeat (first | assumption | exact kU _ | exact kR _ | refine kT ?_ (by assumption)))))).in zC) (hT.kp (Kp.of (U := UU) ba16)) (by omega) (by omega) false (decide_eq_false hCT)).mono ?_)
    rintro e w16 ⟨rfl, hb16⟩
    skip
    refine ⟨_, rfl, hb16, fun kb16 _ bb16 => wV rfl ?_⟩
    (repeat (first | refine wN ?_ | refine wP rfl ?_ | refine cx_r rfl ?_ | refine cx_d (by kernel_rfl) rfl ?_ | refine wO rfl rfl ?_))
    refine VO.call rfl rfl (fk Tryz.func25) (fun wa17 ka17 ba17 => (ratSame_ok _ _ C A 21 6 wa17 ((q10.kp (by (with_reducible (repeat (first | assumption | exact kU _ | exact kR _ | refine kT ?_ (by assumption)))))).in zC) (hA.kp (Kp.of (U := UU) ba17)) (by omega) (by omega) true (decide_eq_true hCA)).mono ?_)
    rintro e w17 ⟨rfl, hb17⟩
    skip
    refine ⟨_, rfl, hb17, fun kb17 _ bb17 => wV rfl ?_⟩
    (repeat (first | refine wN ?_ | refine wP rfl ?_ | refine cx_r rfl ?_ | refine cx_d (by kernel_rfl) rfl ?_ | refine wO rfl rfl ?_))
    refine VO.call rfl rfl (fk Tryz.func9) (fun wa18 ka18 ba18 => (works17_any wa18).mono ?_)
    rintro e w18 ⟨rfl, hb18⟩
    skip
    refine ⟨_, rfl, hb18, fun kb18 _ bb18 => wV rfl ?_⟩
    (repeat (first | refine wN ?_ | refine wP rfl ?_ | refine cx_r rfl ?_ | refine cx_d (by kernel_rfl) rfl ?_ | refine wO rfl rfl ?_))
    refine VS.ret (cx_ok _ _) rfl rfl (fun wz kz bz => ?_)
    exact ⟨rfl, bz⟩
end Go.Proofs.YtgffhmpnkfejbaaGreat
