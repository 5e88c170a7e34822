/- RulesKnown: what this statement's function answers. -/
import Derived.Test.YtgffhmpnkfejbaaGreatLaw17B
import Derived.Test.YtgffhmpnkfejbaaGreatLaw17C
import Derived.Test.YtgffhmpnkfejbaaGreatLaw17D
set_option linter.all false
namespace Go.Proofs.YtgffhmpnkfejbaaGreat
open Go.RowKit
attribute [local irreducible] vcOps VS

theorem NumAt.nil (w : World) : NumAt w (.agg #[.bool false, .slice none 0 0]) false [] := ⟨none, 0, rfl, Rd.nil w 1, Lim.nil⟩
theorem RatIn.nul (w : World) (k : Nat) : RatIn w (.agg #[.bool false, .slice none 0 0, .bool false, .slice none 0 0]) 0 k :=
  ⟨false, [], false, [], ⟨none, 0, none, 0, rfl, NumAt.nil w, NumAt.nil w⟩, rfl, Nat.zero_le _, Nat.zero_le _⟩
theorem PtE.nul (w : World) (k : Nat) : PtE k w [.bool false, .slice none 0 0, .bool false, .slice none 0 0, .bool false, .slice none 0 0, .bool false, .slice none 0 0, .bool false, .slice none 0 0, .bool false, .slice none 0 0, .bool false, .slice none 0 0, .bool false, .slice none 0 0] Pt.zero := PtIn.mk (RatIn.nul w k) (RatIn.nul w k) (RatIn.nul w k) (RatIn.nul w k)
theorem u8_step {k : Nat} (h : k < 14) : IntKind.u8.wrap ((k : Int) + 1) = ((k + 1 : Nat) : Int) := by
  have : k + 1 ≤ 14 := by omega
  simp only [IntKind.wrap, IntKind.bits, IntKind.signed]
  first | omega | (simp; omega)
theorem t_step {i : Nat} (h : i < 7) : IntKind.i64.wrap ((i : Int) - 3 + 1) = ((i + 1 : Nat) : Int) - 3 := by rw [IntWalk.i64_in _ (by omega)]; omega
theorem a_step {i : Nat} (h : i < 7) : IntKind.i64.wrap ((i : Int) - 2 + 1) = ((i + 1 : Nat) : Int) - 2 := by rw [IntWalk.i64_in _ (by omega)]; omega
theorem t_kind {i : Nat} (h : i < 7) : IntKind.u8.wrap (IntKind.i64.wrap ((i : Int) - 3 + 4)) = ((i + 1 : Nat) : Int) := by
  rw [IntWalk.i64_in _ (by omega)]
  have : (i : Int) - 3 + 4 = ((i + 1 : Nat) : Int) := by omega
  rw [this]
  simp only [IntKind.wrap, IntKind.bits, IntKind.signed]
  first | omega | (simp; omega)
set_option maxRecDepth 8000 in
set_option maxHeartbeats 16000000 in
theorem rulesKnown_any (w : World) : Calls Tryz.prog 7 #[] w fun e w' => e = .returned (.bool true) ∧ Beh w w' := by
  refine calm_enter (C := cxOf Tryz.prog w _) (args := []) Tryz.func7 rfl Tryz.ntmps7 (Nat.le_of_ble_eq_true rfl) ?_
  (repeat (first | refine wN ?_ | refine wP rfl ?_ | refine cx_r rfl ?_ | refine cx_d (by kernel_rfl) rfl ?_ | refine wO rfl rfl ?_))
  refine VS.loop (J := fun m L M w' => ∃ k : Nat, k ≤ 14 ∧ m = 14 - k ∧ L = [(1, .val (.int .u8 (k : Int)))] ∧ M = []) 14 ⟨_, _, ?_, ?_, ?_, ?_, ⟨0, by omega, rfl, rfl, rfl⟩⟩ ?_
  · (repeat (first | exact trivial | refine ⟨rfl, ?_⟩))
  · (repeat (first | exact trivial | refine ⟨rfl, ?_⟩))
  · rfl
  · (repeat (first | exact trivial | refine ⟨ClosedC.lit rfl, ?_⟩ | refine ⟨ClosedC.vals _, ?_⟩))
  rintro m L M w1 ⟨k, hk, rfl, rfl, rfl⟩
  (repeat (first | refine wN ?_ | refine wP rfl ?_ | refine cx_r rfl ?_ | refine cx_d (by kernel_rfl) rfl ?_ | refine wO rfl rfl ?_))
  by_cases hk14 : k < 14
  · refine VS.condY rfl (decide_eq_true (by omega)) ?_
    (repeat (first | refine wN ?_ | refine wP rfl ?_ | refine cx_r rfl ?_ | refine cx_d (by kernel_rfl) rfl ?_ | refine wO rfl rfl ?_))
    refine VS.loop (J := fun m L M w' => ∃ i : Nat, i ≤ 7 ∧ m = 7 - i ∧ L = [(1, .val (.int .u8 (k : Int))), (2, .val (.int .i64 ((i : Int) - 3)))] ∧ M = []) 7 ⟨_, _, ?_, ?_, ?_, ?_, ⟨0, by omega, rfl, rfl, rfl⟩⟩ ?_
    · (repeat (first | exact trivial | refine ⟨rfl, ?_⟩))
    · (repeat (first | exact trivial | refine ⟨rfl, ?_⟩))
    · rfl
    · (repeat (first | exact trivial | refine ⟨ClosedC.lit rfl, ?_⟩ | refine ⟨ClosedC.vals _, ?_⟩))
    rintro m L M w2 ⟨i, hi, rfl, rfl, rfl⟩
    (repeat (first | refine wN ?_ | refine wP rfl ?_ | refine cx_r rfl ?_ | refine cx_d (by kernel_rfl) rfl ?_ | refine wO rfl rfl ?_))
    by_cases hi7 : i < 7
    · refine VS.condY rfl (decide_eq_true (by omega)) ?_
      (repeat (first | refine wN ?_ | refine wP rfl ?_ | refine cx_r rfl ?_ | refine cx_d (by kernel_rfl) rfl ?_ | refine wO rfl rfl ?_))
      refine VS.loop (J := fun m L M w' => ∃ j : Nat, j ≤ 7 ∧ m = 7 - j ∧ L = [(1, .val (.int .u8 (k : Int))), (2, .val (.int .i64 ((i : Int) - 3))), (3, .val (.int .i64 ((j : Int) - 2)))] ∧ M = []) 7 ⟨_, _, ?_, ?_, ?_, ?_, ⟨0, by omega, rfl, rfl, rfl⟩⟩ ?_
      · (repeat (first | exact trivial | refine ⟨rfl, ?_⟩))
      · (repeat (first | exact trivial | refine ⟨rfl, ?_⟩))
      · rfl
      · (repeat (first | exact trivial | refine ⟨ClosedC.lit rfl, ?_⟩ | refine ⟨ClosedC.vals _, ?_⟩))
      rintro m L M w3 ⟨j, hj, rfl, rfl, rfl⟩
      (repeat (first | refine wN ?_ | refine wP rfl ?_ | refine cx_r rfl ?_ | refine cx_d (by kernel_rfl) rfl ?_ | refine wO rfl rfl ?_))
      by_cases hj7 : j < 7
      · refine VS.condY rfl (decide_eq_true (by omega)) ?_
        (repeat (first | refine wN ?_ | refine wP rfl ?_ | refine cx_r rfl ?_ | refine cx_d (by kernel_rfl) rfl ?_ | refine wO rfl rfl ?_))
        refine VO.call rfl rfl (fk Tryz.func31) (fun wa10 ka10 ba10 => (item17_any k ((i : Int) - 3) ((j : Int) - 2) (2) wa10 (by omega) (by omega) (by omega) (by omega) (by omega) (by omega) (by omega)).mono ?_)
        rintro e w10 ⟨r10, rfl, q10, hb10⟩
        obtain ⟨cs10, rfl, s10a, p10a, n10a, c10a, t10a, y10a, m10a, d10a, s10b, p10b, n10b, c10b, t10b, y10b, m10b, d10b, rfl, q10z, q10a, q10b⟩ := q10
        refine ⟨_, rfl, hb10, fun kb10 _ bb10 => wV rfl ?_⟩
        (repeat (first | refine wN ?_ | refine wP rfl ?_ | refine cx_r rfl ?_ | refine cx_d (by kernel_rfl) rfl ?_ | refine wO rfl rfl ?_))
        refine VO.callF rfl (fk Tryz.func3) (fun wa11 β ka11 ba11 ho => (rulesCount_any _ [(k, Rat.divInt ((j : Int) - 2) 2, Rat.divInt ((i : Int) - 3) 1)] 2 wa11 (ownV_sl (itm_ok 2) (ho.own 22 (.base (List.mem_singleton.2 rfl)) _ _ rfl) [] (vs := [[.int .u8 (k : Int), .bool s10a, .slice p10a n10a c10a, .bool t10a, .slice y10a m10a d10a, .bool s10b, .slice p10b n10b c10b, .bool t10b, .slice y10b m10b d10b]]) (by rfl) (RowE.cons (ItmE.mk (by omega) (q10a.kp (by (with_reducible (repeat (first | assumption | exact kU _ | exact kR _ | refine kT ?_ (by assumption)))))) (q10b.kp (by (with_reducible (repeat (first | assumption | exact kU _ | exact kR _ | refine kT ?_ (by assumption))))))) (RowE.nil)) rfl (Nat.le_of_ble_eq_true rfl) (by decide))).mono ?_)
        rintro e w11 ⟨rfl, hb11⟩
        refine ⟨_, rfl, hb11, fun kb11 _ bb11 => wV rfl ?_⟩
        (repeat (first | refine wN ?_ | refine wP rfl ?_ | refine cx_r rfl ?_ | refine cx_d (by kernel_rfl) rfl ?_ | refine wO rfl rfl ?_))
        refine VO.call rfl rfl (fk Tryz.func31) (fun wa12 ka12 ba12 => (item17_any k ((j : Int) - 2) ((i : Int) - 3) (3) wa12 (by omega) (by omega) (by omega) (by omega) (by omega) (by omega) (by omega)).mono ?_)
        rintro e w12 ⟨r12, rfl, q12, hb12⟩
        obtain ⟨cs12, rfl, s12a, p12a, n12a, c12a, t12a, y12a, m12a, d12a, s12b, p12b, n12b, c12b, t12b, y12b, m12b, d12b, rfl, q12z, q12a, q12b⟩ := q12
        refine ⟨_, rfl, hb12, fun kb12 _ bb12 => wV rfl ?_⟩
        (repeat (first | refine wN ?_ | refine wP rfl ?_ | refine cx_r rfl ?_ | refine cx_d (by kernel_rfl) rfl ?_ | refine wO rfl rfl ?_))
        refine VO.callF rfl (fk Tryz.func3) (fun wa13 β ka13 ba13 ho => (rulesCount_any _ [(k, Rat.divInt ((j : Int) - 2) 2, Rat.divInt ((i : Int) - 3) 1), (k, Rat.divInt ((i : Int) - 3) 3, Rat.divInt ((j : Int) - 2) 1)] 2 wa13 (ownV_sl (itm_ok 2) (ho.own 31 (.base (List.mem_singleton.2 rfl)) _ _ rfl) [] (vs := [[.int .u8 (k : Int), .bool s10a, .slice p10a n10a c10a, .bool t10a, .slice y10a m10a d10a, .bool s10b, .slice p10b n10b c10b, .bool t10b, .slice y10b m10b d10b], [.int .u8 (k : Int), .bool s12a, .slice p12a n12a c12a, .bool t12a, .slice y12a m12a d12a, .bool s12b, .slice p12b n12b c12b, .bool t12b, .slice y12b m12b d12b]]) (by rfl) (RowE.cons (ItmE.mk (by omega) (q10a.kp (by (with_reducible (repeat (first | assumption | exact kU _ | exact kR _ | refine kT ?_ (by assumption)))))) (q10b.kp (by (with_reducible (repeat (first | assumption | exact kU _ | exact kR _ | refine kT ?_ (by assumption))))))) (RowE.cons (ItmE.mk (by omega) (q12a.kp (by (with_reducible (repeat (first | assumption | exact kU _ | exact kR _ | refine kT ?_ (by assumption)))))) (q12b.kp (by (with_reducible (repeat (first | assumption | exact kU _ | exact kR _ | refine kT ?_ (by assumption))))))) (RowE.nil))) rfl (Nat.le_of_ble_eq_true rfl) (by decide))).mono ?_)
        rintro e w13 ⟨rfl, hb13⟩
        refine ⟨_, rfl, hb13, fun kb13 _ bb13 => wV rfl ?_⟩
        (repeat (first | refine wN ?_ | refine wP rfl ?_ | refine cx_r rfl ?_ | refine cx_d (by kernel_rfl) rfl ?_ | refine wO rfl rfl ?_))
        refine VO.fix 40 rfl (congrArg (fun z => AV.val (.int .u8 z)) (t_kind hi7)) ?_
        (repeat (first | refine wN ?_ | refine wP rfl ?_ | refine cx_r rfl ?_ | refine cx_d (by kernel_rfl) rfl ?_ | refine wO rfl rfl ?_))
        refine VO.call rfl rfl (fk Tryz.func31) (fun wa14 ka14 ba14 => (item17_any (i + 1) ((j : Int) - 2) (1) (2) wa14 (by omega) (by omega) (by omega) (by omega) (by omega) (by omega) (by omega)).mono ?_)
        rintro e w14 ⟨r14, rfl, q14, hb14⟩
        obtain ⟨cs14, rfl, s14a, p14a, n14a, c14a, t14a, y14a, m14a, d14a, s14b, p14b, n14b, c14b, t14b, y14b, m14b, d14b, rfl, q14z, q14a, q14b⟩ := q14
        refine ⟨_, rfl, hb14, fun kb14 _ bb14 => wV rfl ?_⟩
        (repeat (first | refine wN ?_ | refine wP rfl ?_ | refine cx_r rfl ?_ | refine cx_d (by kernel_rfl) rfl ?_ | refine wO rfl rfl ?_))
        refine VO.callF rfl (fk Tryz.func6) (fun wa15 β ka15 ba15 ho => (rulesParts_any _ _ [(k, Rat.divInt ((j : Int) - 2) 2, Rat.divInt ((i : Int) - 3) 1)] [(i + 1, Rat.divInt 1 2, Rat.divInt ((j : Int) - 2) 1)] 2 wa15 (ownV_sl (itm_ok 2) (ho.own 37 (.base (List.mem_append_left _ (List.mem_singleton.2 rfl))) _ _ rfl) [] (vs := [[.int .u8 (k : Int), .bool s10a, .slice p10a n10a c10a, .bool t10a, .slice y10a m10a d10a, .bool s10b, .slice p10b n10b c10b, .bool t10b, .slice y10b m10b d10b]]) (by rfl) (RowE.cons (ItmE.mk (by omega) (q10a.kp (by (with_reducible (repeat (first | assumption | exact kU _ | exact kR _ | refine kT ?_ (by assumption)))))) (q10b.kp (by (with_reducible (repeat (first | assumption | exact kU _ | exact kR _ | refine kT ?_ (by assumption))))))) (RowE.nil)) rfl (Nat.le_of_ble_eq_true rfl) (by decide)) (ownV_sl (itm_ok 2) (ho.own 43 (.base (List.mem_append_right _ (List.mem_singleton.2 rfl))) _ _ rfl) [] (vs := [[.int .u8 ((i + 1 : Nat) : Int), .bool s14a, .slice p14a n14a c14a, .bool t14a, .slice y14a m14a d14a, .bool s14b, .slice p14b n14b c14b, .bool t14b, .slice y14b m14b d14b]]) (by rfl) (RowE.cons (ItmE.mk (by omega) (q14a.kp (by (with_reducible (repeat (first | assumption | exact kU _ | exact kR _ | refine kT ?_ (by assumption)))))) (q14b.kp (by (with_reducible (repeat (first | assumption | exact kU _ | exact kR _ | refine kT ?_ (by assumption))))))) (RowE.nil)) rfl (Nat.le_of_ble_eq_true rfl) (by decide))).mono ?_)
        rintro e w15 ⟨rfl, hb15⟩
        refine ⟨_, rfl, hb15, fun kb15 _ bb15 => wV rfl ?_⟩
        (repeat (first | refine wN ?_ | refine wP rfl ?_ | refine cx_r rfl ?_ | refine cx_d (by kernel_rfl) rfl ?_ | refine wO rfl rfl ?_))
        refine VO.call rfl rfl (fk Tryz.func4) (fun wa16 ka16 ba16 => (rulesBounds_any _ _ (Rat.divInt ((i : Int) - 3) 1) (Rat.divInt ((j : Int) - 2) 2) 2 wa16 (q10b.kp (by (with_reducible (repeat (first | assumption | exact kU _ | exact kR _ | refine kT ?_ (by assumption)))))) (q10a.kp (by (with_reducible (repeat (first | assumption | exact kU _ | exact kR _ | refine kT ?_ (by assumption)))))) (by omega)).mono ?_)
        rintro e w16 ⟨rfl, hb16⟩
        skip
        refine ⟨_, rfl, hb16, fun kb16 _ bb16 => wV rfl ?_⟩
        (repeat (first | refine wN ?_ | refine wP rfl ?_ | refine cx_r rfl ?_ | refine cx_d (by kernel_rfl) rfl ?_ | refine wO rfl rfl ?_))
        refine VO.callF rfl (fk Tryz.func12) (fun wa17 β ka17 ba17 ho => (rOf17_any _ [(k, Rat.divInt ((j : Int) - 2) 2, Rat.divInt ((i : Int) - 3) 1)] 2 wa17 (ownV_sl (itm_ok 2) (ho.own 57 (.base (List.mem_singleton.2 rfl)) _ _ rfl) [] (vs := [[.int .u8 (k : Int), .bool s10a, .slice p10a n10a c10a, .bool t10a, .slice y10a m10a d10a, .bool s10b, .slice p10b n10b c10b, .bool t10b, .slice y10b m10b d10b]]) (by rfl) (RowE.cons (ItmE.mk (by omega) (q10a.kp (by (with_reducible (repeat (first | assumption | exact kU _ | exact kR _ | refine kT ?_ (by assumption)))))) (q10b.kp (by (with_reducible (repeat (first | assumption | exact kU _ | exact kR _ | refine kT ?_ (by assumption))))))) (RowE.nil)) rfl (Nat.le_of_ble_eq_true rfl) (by decide)) (by omega) (by omega) (Nat.le_of_ble_eq_true rfl)).mono ?_)
        rintro e w17 ⟨r17, rfl, q17, hb17⟩
        have q17' := q17; obtain ⟨s17a, p17a, n17a, c17a, t17a, y17a, m17a, d17a, s17b, p17b, n17b, c17b, t17b, y17b, m17b, d17b, s17c, p17c, n17c, c17c, t17c, y17c, m17c, d17c, s17d, p17d, n17d, c17d, t17d, y17d, m17d, d17d, rfl, _⟩ := q17'
        refine ⟨_, rfl, hb17, fun kb17 _ bb17 => wV rfl ?_⟩
        (repeat (first | refine wN ?_ | refine wP rfl ?_ | refine cx_r rfl ?_ | refine cx_d (by kernel_rfl) rfl ?_ | refine wO rfl rfl ?_))
        refine VO.call rfl rfl (fk Tryz.func31) (fun wa18 ka18 ba18 => (item17_any k (1) (1) (1) wa18 (by omega) (by omega) (by omega) (by omega) (by omega) (by omega) (by omega)).mono ?_)
        rintro e w18 ⟨r18, rfl, q18, hb18⟩
        obtain ⟨cs18, rfl, s18a, p18a, n18a, c18a, t18a, y18a, m18a, d18a, s18b, p18b, n18b, c18b, t18b, y18b, m18b, d18b, rfl, q18z, q18a, q18b⟩ := q18
        refine ⟨_, rfl, hb18, fun kb18 _ bb18 => wV rfl ?_⟩
        (repeat (first | refine wN ?_ | refine wP rfl ?_ | refine cx_r rfl ?_ | refine cx_d (by kernel_rfl) rfl ?_ | refine wO rfl rfl ?_))
        refine VO.callF rfl (fk Tryz.func12) (fun wa19 β ka19 ba19 ho => (rOf17_any _ [(k, Rat.divInt 1 1, Rat.divInt 1 1)] 2 wa19 (ownV_sl (itm_ok 2) (ho.own 61 (.base (List.mem_singleton.2 rfl)) _ _ rfl) [] (vs := [[.int .u8 (k : Int), .bool s18a, .slice p18a n18a c18a, .bool t18a, .slice y18a m18a d18a, .bool s18b, .slice p18b n18b c18b, .bool t18b, .slice y18b m18b d18b]]) (by rfl) (RowE.cons (ItmE.mk (by omega) (q18a.kp (by (with_reducible (repeat (first | assumption | exact kU _ | exact kR _ | refine kT ?_ (by assumption)))))) (q18b.kp (by (with_reducible (repeat (first | assumption | exact kU _ | exact kR _ | refine kT ?_ (by assumption))))))) (RowE.nil)) rfl (Nat.le_of_ble_eq_true rfl) (by decide)) (by omega) (by omega) (Nat.le_of_ble_eq_true rfl)).mono ?_)
        rintro e w19 ⟨r19, rfl, q19, hb19⟩
        have q19' := q19; obtain ⟨s19a, p19a, n19a, c19a, t19a, y19a, m19a, d19a, s19b, p19b, n19b, c19b, t19b, y19b, m19b, d19b, s19c, p19c, n19c, c19c, t19c, y19c, m19c, d19c, s19d, p19d, n19d, c19d, t19d, y19d, m19d, d19d, rfl, _⟩ := q19'
        refine ⟨_, rfl, hb19, fun kb19 _ bb19 => wV rfl ?_⟩
        (repeat (first | refine wN ?_ | refine wP rfl ?_ | refine cx_r rfl ?_ | refine cx_d (by kernel_rfl) rfl ?_ | refine wO rfl rfl ?_))
        have z17 : PSz (rulesOf [(k, Rat.divInt ((j : Int) - 2) 2, Rat.divInt ((i : Int) - 3) 1)]) 9 := (rulesOf_sz (j := 2) (by omega) _ (by intro x hx; simp only [List.mem_singleton] at hx; subst hx; exact ⟨i64_rsz (by omega) (by omega) (by omega) (by omega), i64_rsz (by omega) (by omega) (by omega) (by omega)⟩)).mono (Nat.le_of_ble_eq_true rfl)
        have z19 : PSz (rulesOf [(k, Rat.divInt 1 1, Rat.divInt 1 1)]) 9 := (rulesOf_sz (j := 2) (by omega) _ (by intro x hx; simp only [List.mem_singleton] at hx; subst hx; exact ⟨i64_rsz (by omega) (by omega) (by omega) (by omega), i64_rsz (by omega) (by omega) (by omega) (by omega)⟩)).mono (Nat.le_of_ble_eq_true rfl)
        refine VO.callF rfl (fk Tryz.func5) (fun wa20 β ka20 ba20 ho => (rulesSums_any _ [rulesOf [(k, Rat.divInt ((j : Int) - 2) 2, Rat.divInt ((i : Int) - 3) 1)], rulesOf [(k, Rat.divInt 1 1, Rat.divInt 1 1)]] 9 wa20 (ownV_sl (pt_ok 9) (ho.own 63 (.base (List.mem_singleton.2 rfl)) _ _ rfl) [] (vs := [[.bool s17a, .slice p17a n17a c17a, .bool t17a, .slice y17a m17a d17a, .bool s17b, .slice p17b n17b c17b, .bool t17b, .slice y17b m17b d17b, .bool s17c, .slice p17c n17c c17c, .bool t17c, .slice y17c m17c d17c, .bool s17d, .slice p17d n17d c17d, .bool t17d, .slice y17d m17d d17d], [.bool s19a, .slice p19a n19a c19a, .bool t19a, .slice y19a m19a d19a, .bool s19b, .slice p19b n19b c19b, .bool t19b, .slice y19b m19b d19b, .bool s19c, .slice p19c n19c c19c, .bool t19c, .slice y19c m19c d19c, .bool s19d, .slice p19d n19d c19d, .bool t19d, .slice y19d m19d d19d]]) (by rfl) (RowE.cons ((q17.kp (by (with_reducible (repeat (first | assumption | exact kU _ | exact kR _ | refine kT ?_ (by assumption)))))).to z17) (RowE.cons ((q19.kp (by (with_reducible (repeat (first | assumption | exact kU _ | exact kR _ | refine kT ?_ (by assumption)))))).to z19) (RowE.nil))) rfl (Nat.le_of_ble_eq_true rfl) (by decide))).mono ?_)
        rintro e w20 ⟨rfl, hb20⟩
        refine ⟨_, rfl, hb20, fun kb20 _ bb20 => wV rfl ?_⟩
        (repeat (first | refine wN ?_ | refine wP rfl ?_ | refine cx_r rfl ?_ | refine cx_d (by kernel_rfl) rfl ?_ | refine wO rfl rfl ?_))
        refine VS.back (7 - (j + 1)) (by omega) ⟨_, _, ?_, ?_, ?_, ?_, ⟨j + 1, by omega, rfl, rfl, rfl⟩⟩
        · refine ⟨rfl, rfl, ?_, trivial⟩
          rw [← a_step hj7]; rfl
        · (repeat (first | exact trivial | refine ⟨rfl, ?_⟩))
        · rfl
        · (repeat (first | exact trivial | refine ⟨ClosedC.lit rfl, ?_⟩ | refine ⟨ClosedC.vals _, ?_⟩))
      · refine VS.condN rfl (decide_eq_false (by omega)) ?_
        (repeat (first | refine wN ?_ | refine wP rfl ?_ | refine cx_r rfl ?_ | refine cx_d (by kernel_rfl) rfl ?_ | refine wO rfl rfl ?_))
        refine VS.back (7 - (i + 1)) (by omega) ⟨_, _, ?_, ?_, ?_, ?_, ⟨i + 1, by omega, rfl, rfl, rfl⟩⟩
        · refine ⟨rfl, ?_, trivial⟩
          rw [← t_step hi7]; rfl
        · (repeat (first | exact trivial | refine ⟨rfl, ?_⟩))
        · rfl
        · (repeat (first | exact trivial | refine ⟨ClosedC.lit rfl, ?_⟩ | refine ⟨ClosedC.vals _, ?_⟩))
    · refine VS.condN rfl (decide_eq_false (by omega)) ?_
      (repeat (first | refine wN ?_ | refine wP rfl ?_ | refine cx_r rfl ?_ | refine cx_d (by kernel_rfl) rfl ?_ | refine wO rfl rfl ?_))
      refine VO.call rfl rfl (fk Tryz.func32) (fun wa30 ka30 ba30 => (filBy_any 3 1 wa30 (by omega) (by omega) (by omega) (by omega)).mono ?_)
      rintro e w30 ⟨r30, rfl, q30, hb30⟩
      obtain ⟨s30, p30, n30, c30, t30, y30, m30, d30, rfl⟩ := q30.form
      refine ⟨_, rfl, hb30, fun kb30 _ bb30 => wV rfl ?_⟩
      (repeat (first | refine wN ?_ | refine wP rfl ?_ | refine cx_r rfl ?_ | refine cx_d (by kernel_rfl) rfl ?_ | refine wO rfl rfl ?_))
      refine VO.callF rfl (fk Tryz.func3) (fun wa31 β ka31 ba31 ho => (rulesCount_any _ [(k, 0, 0), (k, 0, Rat.divInt 3 1)] 2 wa31 (ownV_sl (itm_ok 2) (ho.own 72 (.base (List.mem_singleton.2 rfl)) _ _ rfl) [] (vs := [[.int .u8 (k : Int), .bool false, .slice none 0 0, .bool false, .slice none 0 0, .bool false, .slice none 0 0, .bool false, .slice none 0 0], [.int .u8 (k : Int), .bool false, .slice none 0 0, .bool false, .slice none 0 0, .bool s30, .slice p30 n30 c30, .bool t30, .slice y30 m30 d30]]) (by rfl) (RowE.cons (ItmE.mk (by omega) (RatIn.nul _ _) (RatIn.nul _ _)) (RowE.cons (ItmE.mk (by omega) (RatIn.nul _ _) ((q30.kp (by (with_reducible (repeat (first | assumption | exact kU _ | exact kR _ | refine kT ?_ (by assumption)))))).in (i64_rsz (by omega) (by omega) (by omega) (by omega)))) (RowE.nil))) rfl (Nat.le_of_ble_eq_true rfl) (by decide))).mono ?_)
      rintro e w31 ⟨rfl, hb31⟩
      refine ⟨_, rfl, hb31, fun kb31 _ bb31 => wV rfl ?_⟩
      (repeat (first | refine wN ?_ | refine wP rfl ?_ | refine cx_r rfl ?_ | refine cx_d (by kernel_rfl) rfl ?_ | refine wO rfl rfl ?_))
      refine VS.back (14 - (k + 1)) (by omega) ⟨_, _, ?_, ?_, ?_, ?_, ⟨k + 1, by omega, rfl, rfl, rfl⟩⟩
      · refine ⟨?_, trivial⟩
        rw [← u8_step hk14]; rfl
      · (repeat (first | exact trivial | refine ⟨rfl, ?_⟩))
      · rfl
      · (repeat (first | exact trivial | refine ⟨ClosedC.lit rfl, ?_⟩ | refine ⟨ClosedC.vals _, ?_⟩))
  · refine VS.condN rfl (decide_eq_false (by omega)) ?_
    (repeat (first | refine wN ?_ | refine wP rfl ?_ | refine cx_r rfl ?_ | refine cx_d (by kernel_rfl) rfl ?_ | refine wO rfl rfl ?_))
    refine VO.call rfl rfl (fk Tryz.func3) (fun wa40 ka40 ba40 => (rulesCount_any _ [] 2 wa40 (SlIn.nil _ _ _)).mono ?_)
    rintro e w40 ⟨rfl, hb40⟩
    skip
    refine ⟨_, rfl, hb40, fun kb40 _ bb40 => wV rfl ?_⟩
    (repeat (first | refine wN ?_ | refine wP rfl ?_ | refine cx_r rfl ?_ | refine cx_d (by kernel_rfl) rfl ?_ | refine wO rfl rfl ?_))
    refine VO.callF rfl (fk Tryz.func5) (fun wa41 β ka41 ba41 ho => (rulesSums_any _ [Pt.zero, Pt.zero] 2 wa41 (ownV_sl (pt_ok 2) (ho.own 79 (.base (List.mem_singleton.2 rfl)) _ _ rfl) [] (vs := [[.bool false, .slice none 0 0, .bool false, .slice none 0 0, .bool false, .slice none 0 0, .bool false, .slice none 0 0, .bool false, .slice none 0 0, .bool false, .slice none 0 0, .bool false, .slice none 0 0, .bool false, .slice none 0 0], [.bool false, .slice none 0 0, .bool false, .slice none 0 0, .bool false, .slice none 0 0, .bool false, .slice none 0 0, .bool false, .slice none 0 0, .bool false, .slice none 0 0, .bool false, .slice none 0 0, .bool false, .slice none 0 0]]) (by rfl) (RowE.cons (PtE.nul _ _) (RowE.cons (PtE.nul _ _) (RowE.nil))) rfl (Nat.le_of_ble_eq_true rfl) (by decide))).mono ?_)
    rintro e w41 ⟨rfl, hb41⟩
    refine ⟨_, rfl, hb41, fun kb41 _ bb41 => wV rfl ?_⟩
    (repeat (first | refine wN ?_ | refine wP rfl ?_ | refine cx_r rfl ?_ | refine cx_d (by kernel_rfl) rfl ?_ | refine wO rfl rfl ?_))
    refine VO.call rfl rfl (fk Tryz.func6) (fun wa42 ka42 ba42 => (rulesParts_any _ _ [] [] 2 wa42 (SlIn.nil _ _ _) (SlIn.nil _ _ _)).mono ?_)
    rintro e w42 ⟨rfl, hb42⟩
    skip
    refine ⟨_, rfl, hb42, fun kb42 _ bb42 => wV rfl ?_⟩
    (repeat (first | refine wN ?_ | refine wP rfl ?_ | refine cx_r rfl ?_ | refine cx_d (by kernel_rfl) rfl ?_ | refine wO rfl rfl ?_))
    refine VO.call rfl rfl (fk Tryz.func9) (fun wa43 ka43 ba43 => (works17_any wa43).mono ?_)
    rintro e w43 ⟨rfl, hb43⟩
    skip
    refine ⟨_, rfl, hb43, fun kb43 _ bb43 => wV rfl ?_⟩
    (repeat (first | refine wN ?_ | refine wP rfl ?_ | refine cx_r rfl ?_ | refine cx_d (by kernel_rfl) rfl ?_ | refine wO rfl rfl ?_))
    refine VS.ret (cx_ok _ _) rfl rfl (fun wz kz bz => ?_)
    exact ⟨rfl, bz⟩
end Go.Proofs.YtgffhmpnkfejbaaGreat
