/- What the rules' functions compute: the table, add, Of, Sum, Same, Difference, EBITDA. -/
import Derived.Test.YtgffhmpnkfejbaaGreatRuleA
set_option linter.all false
namespace Go.Proofs.YtgffhmpnkfejbaaGreat
open Go.RowKit
attribute [local irreducible] vcOps VS

def ruleKvs : List (Value × FuncId) := [(.int .u8 1, 73), (.int .u8 10, 73), (.int .u8 2, 74), (.int .u8 6, 75), (.int .u8 11, 75), (.int .u8 3, 76), (.int .u8 4, 78), (.int .u8 5, 80), (.int .u8 7, 81), (.int .u8 8, 82), (.int .u8 9, 83)]
abbrev ruleEnts : List MapEntry := entsOf 0 ruleKvs
theorem rtable_any (w : World) : Calls Tryz.prog 42 #[] w fun e w' => ∃ b, e = .returned (.map (some b)) ∧ w'.heap[b]? = some (.map ruleEnts.toArray 11) ∧ Beh w w' := by
  refine calm_enter (C := cxOf Tryz.prog w _) (args := []) Tryz.func42 rfl Tryz.ntmps42 (Nat.le_of_ble_eq_true rfl) ?_
  refine wQ ?_
  refine cx_r rfl ?_
  refine wN ?_
  refine wQ ?_
  refine VS.mapLitN (cx_ok _ _) (t := 76) (kt := 5) (d := .int .u8) 11 ruleKvs (by rfl) (by rfl) (by rfl) (by rfl) (by exact Nat.le_of_ble_eq_true rfl) Tryz.underlying76 Tryz.underlying5 ?_ ?_ (fun w1 b k1 b1 h1 => wV rfl ?_)
  · repeat' (first | exact trivial | refine ⟨rfl, rfl, rfl, ?_⟩)
  · repeat' (first | exact trivial | refine ⟨rfl, rfl, ?_⟩)
  (repeat (first | refine wN ?_ | refine wP rfl ?_ | refine cx_r rfl ?_ | refine cx_d (by kernel_rfl) rfl ?_ | refine wO rfl rfl ?_))
  refine VS.ret (cx_ok _ _) rfl rfl (fun wz kz bz => ?_)
  exact ⟨b, rfl, kz.map b _ _ h1, bz⟩
/-- what a kind's function counts -/
def RuleFn (g : FuncId) (k : Nat) : Prop := ∀ (v u : Value) (T A : Rat) (j : Nat) (w : World), RatRd w v T → RatRd w u A → RSz T j → RSz A j → j ≤ 1000000 →
    Calls Tryz.prog g #[v, u] w fun e w' => ∃ r, e = .returned r ∧ PtRd w' r (ruleP k T A) ∧ Beh w w'
theorem RuleFn.of {g : FuncId} {k : Nat} (P : Rat → Rat → Pt) (e : ∀ T A, P T A = ruleP k T A) (h : ∀ (v u : Value) (T A : Rat) (j : Nat) (w : World), RatRd w v T → RatRd w u A → RSz T j → RSz A j → j ≤ 1000000 →
    Calls Tryz.prog g #[v, u] w fun e w' => ∃ r, e = .returned r ∧ PtRd w' r (P T A) ∧ Beh w w') : RuleFn g k := fun v u T A j w h1 h2 h3 h4 h5 => by rw [← e]; exact h v u T A j w h1 h2 h3 h4 h5
theorem denied_eq (T A : Rat) : -(T * (1 - A)) = T * A - T := by grind
theorem capped_eq (T A : Rat) : -(rbest rless T [A]) = if rcmp T A > 0 then -A else -T := by
  have e : rbest rless T [A] = if rless A T = true then A else T := rfl
  rw [e]
  by_cases h : A < T
  · have h2 : rcmp T A > 0 := rmore_iff.1 (show rmore T A = true from rmore_iff.2 h) |> fun _ => of_decide_eq_true (rmore_iff.2 h)
    rw [if_pos (rless_iff.2 h), if_pos h2]
  · have h2 : ¬ rcmp T A > 0 := fun e => h (rmore_iff.1 (decide_eq_true e))
    rw [if_neg (fun e => h (rless_iff.1 e)), if_neg h2]
/-- a kind is in the table, with its function, or counts nothing -/
theorem rule_find (k : Nat) : (∃ idx g, Instr.findNow (.int .u8) (.int .u8 (k : Int)) ruleEnts.toArray.toList 0 = some (some (idx, .func (.func g) #[] #[])) ∧ FnOk Tryz.prog g ∧ RuleFn g k) ∨ (Instr.findNow (.int .u8) (.int .u8 (k : Int)) ruleEnts.toArray.toList 0 = some none ∧ ∀ t a, ruleP k t a = Pt.zero) := by
  have h : k = 1 ∨ k = 10 ∨ k = 2 ∨ k = 6 ∨ k = 11 ∨ k = 3 ∨ k = 4 ∨ k = 5 ∨ k = 7 ∨ k = 8 ∨ k = 9 ∨ ¬ (k = 1 ∨ k = 10 ∨ k = 2 ∨ k = 6 ∨ k = 11 ∨ k = 3 ∨ k = 4 ∨ k = 5 ∨ k = 7 ∨ k = 8 ∨ k = 9) := by omega
  rcases h with rfl | rfl | rfl | rfl | rfl | rfl | rfl | rfl | rfl | rfl | rfl | h
  · exact .inl ⟨_, _, rfl, (fk Tryz.func73), RuleFn.of (fun T A => ⟨T, T, 0, 0⟩) (fun T A => rfl) rearned_any⟩
  · exact .inl ⟨_, _, rfl, (fk Tryz.func73), RuleFn.of (fun T A => ⟨T, T, 0, 0⟩) (fun T A => rfl) rearned_any⟩
  · exact .inl ⟨_, _, rfl, (fk Tryz.func74), RuleFn.of (fun T A => ⟨-T, -T, 0, 0⟩) (fun T A => rfl) rspent_any⟩
  · exact .inl ⟨_, _, rfl, (fk Tryz.func75), RuleFn.of (fun T A => ⟨-T, 0, 0, 0⟩) (fun T A => rfl) rbooked_any⟩
  · exact .inl ⟨_, _, rfl, (fk Tryz.func75), RuleFn.of (fun T A => ⟨-T, 0, 0, 0⟩) (fun T A => rfl) rbooked_any⟩
  · exact .inl ⟨_, _, rfl, (fk Tryz.func76), RuleFn.of (fun T A => ⟨T, 0, 0, 0⟩) (fun T A => rfl) rexempt_any⟩
  · exact .inl ⟨_, _, rfl, (fk Tryz.func78), RuleFn.of (fun T A => ⟨-T, -(T * (1 - A)), 0, 0⟩) (fun T A => Pt.ext' rfl (denied_eq T A) rfl rfl) rdenied_any⟩
  · exact .inl ⟨_, _, rfl, (fk Tryz.func80), RuleFn.of (fun T A => ⟨-T, -(rbest rless T [A]), 0, 0⟩) (fun T A => Pt.ext' rfl (capped_eq T A) rfl rfl) rcapped_any⟩
  · exact .inl ⟨_, _, rfl, (fk Tryz.func81), RuleFn.of (fun T A => ⟨-T, -T, T, 0⟩) (fun T A => rfl) rdep_any⟩
  · exact .inl ⟨_, _, rfl, (fk Tryz.func82), RuleFn.of (fun T A => ⟨T, 0, 0, -T⟩) (fun T A => rfl) rintin_any⟩
  · exact .inl ⟨_, _, rfl, (fk Tryz.func83), RuleFn.of (fun T A => ⟨-T, 0, 0, T⟩) (fun T A => rfl) rintout_any⟩
  · refine .inr ⟨?_, fun t a => ?_⟩
    · have n1 : ((k : Int) == 1) = false := by rw [beq_eq_false_iff_ne]; omega
      have n2 : ((k : Int) == 2) = false := by rw [beq_eq_false_iff_ne]; omega
      have n3 : ((k : Int) == 3) = false := by rw [beq_eq_false_iff_ne]; omega
      have n4 : ((k : Int) == 4) = false := by rw [beq_eq_false_iff_ne]; omega
      have n5 : ((k : Int) == 5) = false := by rw [beq_eq_false_iff_ne]; omega
      have n6 : ((k : Int) == 6) = false := by rw [beq_eq_false_iff_ne]; omega
      have n7 : ((k : Int) == 7) = false := by rw [beq_eq_false_iff_ne]; omega
      have n8 : ((k : Int) == 8) = false := by rw [beq_eq_false_iff_ne]; omega
      have n9 : ((k : Int) == 9) = false := by rw [beq_eq_false_iff_ne]; omega
      have n10 : ((k : Int) == 10) = false := by rw [beq_eq_false_iff_ne]; omega
      have n11 : ((k : Int) == 11) = false := by rw [beq_eq_false_iff_ne]; omega
      simp only [ruleEnts, ruleKvs, entsOf, List.toList_toArray, Instr.findNow, Instr.sameNow, if_true, n1, n2, n3, n4, n5, n6, n7, n8, n9, n10, n11]
    · refine Pt.ext' ?_ ?_ ?_ ?_
      · show bookP k t = 0; unfold bookP; rw [if_neg (by omega), if_neg (by omega)]
      · show baseP k t a = 0; unfold baseP; rw [if_neg (by omega), if_neg (by omega), if_neg (by omega), if_neg (by omega), if_neg (by omega), if_neg (by omega)]
      · show depP k t = 0; unfold depP; rw [if_neg (by omega)]
      · show intP k t = 0; unfold intP; rw [if_neg (by omega), if_neg (by omega)]
theorem agg_list {cs l : List Value} (h : Value.agg cs.toArray = .agg l.toArray) : cs = l := by
  injection h with h
  simpa using congrArg Array.toList h
set_option maxRecDepth 4000 in
set_option maxHeartbeats 1000000 in
theorem radd17_any (g : Nat) (cs : List Value) (v : Value) (A P : Pt) (k l : Nat) (w : World) (hc : Cls w g 75 cs.toArray) (hA : PtRd w (.agg cs.toArray) A) (hP : PtIn w v P l) (hs : PSz A k) (hk : k ≤ 67108864) (hl : l ≤ 67108864) :
    Calls Tryz.prog 43 #[.pointer (some ⟨g, 0, none⟩), v] w fun e w' => ∃ ds : List Value, e = .returned (.tuple #[]) ∧ But [g] w w' ∧ Cls w' g 75 ds.toArray ∧ ds.all okCell = true ∧ PtRd w' (.agg ds.toArray) (A.add P) := by
  obtain ⟨s8a, p8a, n8a, c8a, t8a, y8a, m8a, d8a, s8b, p8b, n8b, c8b, t8b, y8b, m8b, d8b, s8c, p8c, n8c, c8c, t8c, y8c, m8c, d8c, s8d, p8d, n8d, c8d, t8d, y8d, m8d, d8d, hcs, q8A, q8B, q8C, q8D⟩ := hA
  obtain rfl := agg_list hcs
  obtain ⟨s9a, p9a, n9a, c9a, t9a, y9a, m9a, d9a, s9b, p9b, n9b, c9b, t9b, y9b, m9b, d9b, s9c, p9c, n9c, c9c, t9c, y9c, m9c, d9c, s9d, p9d, n9d, c9d, t9d, y9d, m9d, d9d, rfl, q9A, q9B, q9C, q9D⟩ := hP
  refine calm_enter1 Tryz.prog w _ (KU UU) (fun t => Nat.beq t 25) table (fun _ _ => trivial) (us := [_]) Tryz.func43 rfl Tryz.ntmps43 (Nat.le_of_ble_eq_true rfl) hc rfl rfl ?_
  (repeat (first | refine wN ?_ | refine wP rfl ?_ | refine cxA_r rfl ?_ | refine cxA_d (by kernel_rfl) rfl ?_ | refine wO rfl rfl ?_))
  refine VO.call rfl rfl (fk Tryz.func44) (fun wa1 ka1 ba1 => (ratAdd_any _ _ A.b P.b k l wa1 ((q8A.kp (by (with_reducible (repeat (first | assumption | exact kU _ | exact kR _ | refine kT ?_ (by assumption)))))).to hs.b) (q9A.kp (by (with_reducible (repeat (first | assumption | exact kU _ | exact kR _ | refine kT ?_ (by assumption)))))) hk hl).mono ?_)
  rintro e w1 ⟨r1, rfl, q1, hb1⟩
  obtain ⟨s1, p1, n1, c1, t1, y1, m1, d1, rfl⟩ := q1.form
  refine ⟨_, rfl, hb1, fun kb1 _ bb1 => wV rfl ?_⟩
  (repeat (first | refine wN ?_ | refine wP rfl ?_ | refine cxA_r rfl ?_ | refine cxA_d (by kernel_rfl) rfl ?_ | refine wO rfl rfl ?_))
  refine VO.call rfl rfl (fk Tryz.func44) (fun wa2 ka2 ba2 => (ratAdd_any _ _ A.s P.s k l wa2 ((q8B.kp (by (with_reducible (repeat (first | assumption | exact kU _ | exact kR _ | refine kT ?_ (by assumption)))))).to hs.s) (q9B.kp (by (with_reducible (repeat (first | assumption | exact kU _ | exact kR _ | refine kT ?_ (by assumption)))))) hk hl).mono ?_)
  rintro e w2 ⟨r2, rfl, q2, hb2⟩
  obtain ⟨s2, p2, n2, c2, t2, y2, m2, d2, rfl⟩ := q2.form
  refine ⟨_, rfl, hb2, fun kb2 _ bb2 => wV rfl ?_⟩
  (repeat (first | refine wN ?_ | refine wP rfl ?_ | refine cxA_r rfl ?_ | refine cxA_d (by kernel_rfl) rfl ?_ | refine wO rfl rfl ?_))
  refine VO.call rfl rfl (fk Tryz.func44) (fun wa3 ka3 ba3 => (ratAdd_any _ _ A.d P.d k l wa3 ((q8C.kp (by (with_reducible (repeat (first | assumption | exact kU _ | exact kR _ | refine kT ?_ (by assumption)))))).to hs.d) (q9C.kp (by (with_reducible (repeat (first | assumption | exact kU _ | exact kR _ | refine kT ?_ (by assumption)))))) hk hl).mono ?_)
  rintro e w3 ⟨r3, rfl, q3, hb3⟩
  obtain ⟨s3, p3, n3, c3, t3, y3, m3, d3, rfl⟩ := q3.form
  refine ⟨_, rfl, hb3, fun kb3 _ bb3 => wV rfl ?_⟩
  (repeat (first | refine wN ?_ | refine wP rfl ?_ | refine cxA_r rfl ?_ | refine cxA_d (by kernel_rfl) rfl ?_ | refine wO rfl rfl ?_))
  refine VO.call rfl rfl (fk Tryz.func44) (fun wa4 ka4 ba4 => (ratAdd_any _ _ A.i P.i k l wa4 ((q8D.kp (by (with_reducible (repeat (first | assumption | exact kU _ | exact kR _ | refine kT ?_ (by assumption)))))).to hs.i) (q9D.kp (by (with_reducible (repeat (first | assumption | exact kU _ | exact kR _ | refine kT ?_ (by assumption)))))) hk hl).mono ?_)
  rintro e w4 ⟨r4, rfl, q4, hb4⟩
  obtain ⟨s4, p4, n4, c4, t4, y4, m4, d4, rfl⟩ := q4.form
  refine ⟨_, rfl, hb4, fun kb4 _ bb4 => wV rfl ?_⟩
  (repeat (first | refine wN ?_ | refine wP rfl ?_ | refine cxA_r rfl ?_ | refine cxA_d (by kernel_rfl) rfl ?_ | refine wO rfl rfl ?_))
  refine VS.fin (cxA_ok _ _) rfl (fun wz β kz oz en => ?_)
  exact ⟨_, rfl, oz.1, own1 (en.own 104 _ _ rfl) rfl, rfl, PtRd.mk (q1.kp (by (with_reducible (repeat (first | assumption | exact kU _ | exact kR _ | refine kT ?_ (by assumption)))))).rd (q2.kp (by (with_reducible (repeat (first | assumption | exact kU _ | exact kR _ | refine kT ?_ (by assumption)))))).rd (q3.kp (by (with_reducible (repeat (first | assumption | exact kU _ | exact kR _ | refine kT ?_ (by assumption)))))).rd (q4.kp (by (with_reducible (repeat (first | assumption | exact kU _ | exact kR _ | refine kT ?_ (by assumption)))))).rd⟩
end Go.Proofs.YtgffhmpnkfejbaaGreat
