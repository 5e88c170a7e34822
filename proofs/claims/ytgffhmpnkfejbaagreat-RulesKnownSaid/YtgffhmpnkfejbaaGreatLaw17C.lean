/- RulesSums: what this statement's function answers. -/
import Derived.Test.YtgffhmpnkfejbaaGreatLaw17A
set_option linter.all false
namespace Go.Proofs.YtgffhmpnkfejbaaGreat
open Go.RowKit
attribute [local irreducible] vcOps VS

theorem lpt_sz {w : World} {v : Value} {l : List Pt} (h : SlIn (PtE 6) 16 w v l) (hl : l.length ≤ 6) : sumSz 6 l.length ≤ 30000000 := Nat.le_trans (sumSz_le hl) (by decide)
set_option maxRecDepth 8000 in
set_option maxHeartbeats 8000000 in
theorem rulesSums_any (v : Value) (l : List Pt) (kk : Nat) (w : World) (hv : SlIn (PtE kk) 16 w v l) :
    Calls Tryz.prog 5 #[v] w fun e w' => e = .returned (.bool true) ∧ Beh w w' := by
  obtain ⟨p, c, rfl, hnc, hcm⟩ := hv.form
  obtain ⟨N, hN⟩ : ∃ N, N = l.length := ⟨_, rfl⟩
  rw [← hN] at hv hnc ⊢
  refine calm_enter (C := cxOf Tryz.prog w _) (args := [_]) Tryz.func5 rfl Tryz.ntmps5 (Nat.le_of_ble_eq_true rfl) ?_
  (repeat (first | refine wN ?_ | refine wP rfl ?_ | refine cx_r rfl ?_ | refine cx_d (by kernel_rfl) rfl ?_ | refine wO rfl rfl ?_))
  refine VS.loop (J := fun m L M w' => ∃ z : Nat, z ≤ N ∧ m = N - z ∧ z ≤ 6 ∧ SlUp (PtE 6) 16 w p l z ∧
      ((z = 0 ∧ L = [(0, .val (.slice p N c)), (3, .val (.slice none 0 0)), (4, .val (.int .i64 (z : Int)))] ∧ M = []) ∨
       (0 < z ∧ ∃ vs spare cap, L = [(0, .val (.slice p N c)), (3, .row 59 0 z cap), (4, .val (.int .i64 (z : Int)))] ∧ M = [(59, (31, vs.flatten.map .val ++ spare))] ∧
          RowE (PtE 6) w' (l.take z) vs ∧ (vs.flatten.map AV.val ++ spare).length = cap * 16 ∧ z ≤ cap ∧ cap ≤ 9223372036854775807 ∧ spare.all okLeaf = true ∧ lidsOf spare = []))) N ⟨_, _, ?_, ?_, ?_, ?_, ⟨0, by omega, rfl, by omega, SlUp.zero, .inl ⟨rfl, rfl, rfl⟩⟩⟩ ?_
  · (repeat (first | exact trivial | refine ⟨rfl, ?_⟩))
  · (repeat (first | exact trivial | refine ⟨rfl, ?_⟩))
  · rfl
  · (repeat (first | exact trivial | refine ⟨ClosedC.lit rfl, ?_⟩ | refine ⟨ClosedC.vals _, ?_⟩))
  rintro m L M wJ ⟨z, hz, rfl, hz6, hup, ⟨rfl, rfl, rfl⟩ | ⟨hz0, vs, spare, cap, rfl, rfl, hrow, hlen', hzc, hcc, hsok, hsl⟩⟩
  · (repeat (first | refine wN ?_ | refine wP rfl ?_ | refine cx_r rfl ?_ | refine cx_d (by kernel_rfl) rfl ?_ | refine wO rfl rfl ?_))
    by_cases hlt : (0 : Nat) < N
    · obtain ⟨x, hx⟩ : ∃ x, l[(0 : Nat)]? = some x := ⟨_, List.getElem?_eq_getElem (by omega)⟩
      obtain ⟨b, off, cs', rfl, hc, he⟩ := hv.at hx
      obtain ⟨s9a, p9a, n9a, c9a, t9a, y9a, m9a, d9a, s9b, p9b, n9b, c9b, t9b, y9b, m9b, d9b, s9c, p9c, n9c, c9c, t9c, y9c, m9c, d9c, s9d, p9d, n9d, c9d, t9d, y9d, m9d, d9d, rfl, q9A, q9B, q9C, q9D⟩ := he.form
      replace hc : ∀ (j : Nat) (u : Value), [.bool s9a, .slice p9a n9a c9a, .bool t9a, .slice y9a m9a d9a, .bool s9b, .slice p9b n9b c9b, .bool t9b, .slice y9b m9b d9b, .bool s9c, .slice p9c n9c c9c, .bool t9c, .slice y9c m9c d9c, .bool s9d, .slice p9d n9d c9d, .bool t9d, .slice y9d m9d d9d][j]? = some u → w.cell? ⟨b, off + (0 : Nat) * 16 + j, none⟩ = some u := hc
      refine VS.condY rfl (decide_eq_true (Int.ofNat_lt.2 hlt)) ?_
      (repeat (first | refine wN ?_ | refine wP rfl ?_ | refine cx_r rfl ?_ | refine cx_d (by kernel_rfl) rfl ?_ | refine wO rfl rfl ?_))
      refine VO.cond rfl ⟨by omega, by omega⟩ ?_
      refine wV rfl ?_
      (repeat (first | refine wN ?_ | refine wP rfl ?_ | refine cx_r rfl ?_ | refine cx_d (by kernel_rfl) rfl ?_ | refine wO rfl rfl ?_))
      refine VO.read rfl [.bool s9a, .slice p9a n9a c9a, .bool t9a, .slice y9a m9a d9a] rfl (cells_sub (o := off + (0 : Nat) * 16) hc 0 _ ⟨_, rfl⟩) (wV rfl ?_)
      (repeat (first | refine wN ?_ | refine wP rfl ?_ | refine cx_r rfl ?_ | refine cx_d (by kernel_rfl) rfl ?_ | refine wO rfl rfl ?_))
      refine VO.call rfl rfl (fk Tryz.func19) (fun wa2 ka2 ba2 => (short17_any _ _ kk wa2 (q9A.kp (Kp.of (U := UU) ba2))).mono ?_)
      rintro e w2 ⟨b2, rfl, hs2, hb2⟩
      cases b2 with
      | false =>
        refine ⟨_, rfl, hb2, fun kb2 _ bb2 => wV rfl ?_⟩
        (repeat (first | refine wN ?_ | refine wP rfl ?_ | refine cx_r rfl ?_ | refine cx_d (by kernel_rfl) rfl ?_ | refine wO rfl rfl ?_))
        refine VO.call rfl rfl (fk Tryz.func9) (fun wa3 ka3 ba3 => (works17_any wa3).mono ?_)
        rintro e w3 ⟨rfl, hb3⟩
        skip
        refine ⟨_, rfl, hb3, fun kb3 _ bb3 => wV rfl ?_⟩
        (repeat (first | refine wN ?_ | refine wP rfl ?_ | refine cx_r rfl ?_ | refine cx_d (by kernel_rfl) rfl ?_ | refine wO rfl rfl ?_))
        refine VS.ret (cx_ok _ _) rfl rfl (fun wz kz bz => ?_)
        exact ⟨rfl, bz⟩
      | true =>
      refine ⟨_, rfl, hb2, fun kb2 _ bb2 => wV rfl ?_⟩
      (repeat (first | refine wN ?_ | refine wP rfl ?_ | refine cx_r rfl ?_ | refine cx_d (by kernel_rfl) rfl ?_ | refine wO rfl rfl ?_))
      refine VO.cond rfl ⟨by omega, by omega⟩ ?_
      refine wV rfl ?_
      (repeat (first | refine wN ?_ | refine wP rfl ?_ | refine cx_r rfl ?_ | refine cx_d (by kernel_rfl) rfl ?_ | refine wO rfl rfl ?_))
      refine VO.read rfl [.bool s9b, .slice p9b n9b c9b, .bool t9b, .slice y9b m9b d9b] rfl (cells_sub (o := off + (0 : Nat) * 16) hc 4 _ ⟨_, rfl⟩) (wV rfl ?_)
      (repeat (first | refine wN ?_ | refine wP rfl ?_ | refine cx_r rfl ?_ | refine cx_d (by kernel_rfl) rfl ?_ | refine wO rfl rfl ?_))
      refine VO.call rfl rfl (fk Tryz.func19) (fun wa3 ka3 ba3 => (short17_any _ _ kk wa3 (q9B.kp (Kp.of (U := UU) ba3))).mono ?_)
      rintro e w3 ⟨b3, rfl, hs3, hb3⟩
      cases b3 with
      | false =>
        refine ⟨_, rfl, hb3, fun kb3 _ bb3 => wV rfl ?_⟩
        (repeat (first | refine wN ?_ | refine wP rfl ?_ | refine cx_r rfl ?_ | refine cx_d (by kernel_rfl) rfl ?_ | refine wO rfl rfl ?_))
        refine VO.call rfl rfl (fk Tryz.func9) (fun wa4 ka4 ba4 => (works17_any wa4).mono ?_)
        rintro e w4 ⟨rfl, hb4⟩
        skip
        refine ⟨_, rfl, hb4, fun kb4 _ bb4 => wV rfl ?_⟩
        (repeat (first | refine wN ?_ | refine wP rfl ?_ | refine cx_r rfl ?_ | refine cx_d (by kernel_rfl) rfl ?_ | refine wO rfl rfl ?_))
        refine VS.ret (cx_ok _ _) rfl rfl (fun wz kz bz => ?_)
        exact ⟨rfl, bz⟩
      | true =>
      refine ⟨_, rfl, hb3, fun kb3 _ bb3 => wV rfl ?_⟩
      (repeat (first | refine wN ?_ | refine wP rfl ?_ | refine cx_r rfl ?_ | refine cx_d (by kernel_rfl) rfl ?_ | refine wO rfl rfl ?_))
      refine VO.cond rfl ⟨by omega, by omega⟩ ?_
      refine wV rfl ?_
      (repeat (first | refine wN ?_ | refine wP rfl ?_ | refine cx_r rfl ?_ | refine cx_d (by kernel_rfl) rfl ?_ | refine wO rfl rfl ?_))
      refine VO.read rfl [.bool s9c, .slice p9c n9c c9c, .bool t9c, .slice y9c m9c d9c] rfl (cells_sub (o := off + (0 : Nat) * 16) hc 8 _ ⟨_, rfl⟩) (wV rfl ?_)
      (repeat (first | refine wN ?_ | refine wP rfl ?_ | refine cx_r rfl ?_ | refine cx_d (by kernel_rfl) rfl ?_ | refine wO rfl rfl ?_))
      refine VO.call rfl rfl (fk Tryz.func19) (fun wa4 ka4 ba4 => (short17_any _ _ kk wa4 (q9C.kp (Kp.of (U := UU) ba4))).mono ?_)
      rintro e w4 ⟨b4, rfl, hs4, hb4⟩
      cases b4 with
      | false =>
        refine ⟨_, rfl, hb4, fun kb4 _ bb4 => wV rfl ?_⟩
        (repeat (first | refine wN ?_ | refine wP rfl ?_ | refine cx_r rfl ?_ | refine cx_d (by kernel_rfl) rfl ?_ | refine wO rfl rfl ?_))
        refine VO.call rfl rfl (fk Tryz.func9) (fun wa5 ka5 ba5 => (works17_any wa5).mono ?_)
        rintro e w5 ⟨rfl, hb5⟩
        skip
        refine ⟨_, rfl, hb5, fun kb5 _ bb5 => wV rfl ?_⟩
        (repeat (first | refine wN ?_ | refine wP rfl ?_ | refine cx_r rfl ?_ | refine cx_d (by kernel_rfl) rfl ?_ | refine wO rfl rfl ?_))
        refine VS.ret (cx_ok _ _) rfl rfl (fun wz kz bz => ?_)
        exact ⟨rfl, bz⟩
      | true =>
      refine ⟨_, rfl, hb4, fun kb4 _ bb4 => wV rfl ?_⟩
      (repeat (first | refine wN ?_ | refine wP rfl ?_ | refine cx_r rfl ?_ | refine cx_d (by kernel_rfl) rfl ?_ | refine wO rfl rfl ?_))
      refine VO.cond rfl ⟨by omega, by omega⟩ ?_
      refine wV rfl ?_
      (repeat (first | refine wN ?_ | refine wP rfl ?_ | refine cx_r rfl ?_ | refine cx_d (by kernel_rfl) rfl ?_ | refine wO rfl rfl ?_))
      refine VO.read rfl [.bool s9d, .slice p9d n9d c9d, .bool t9d, .slice y9d m9d d9d] rfl (cells_sub (o := off + (0 : Nat) * 16) hc 12 _ ⟨_, rfl⟩) (wV rfl ?_)
      (repeat (first | refine wN ?_ | refine wP rfl ?_ | refine cx_r rfl ?_ | refine cx_d (by kernel_rfl) rfl ?_ | refine wO rfl rfl ?_))
      refine VO.call rfl rfl (fk Tryz.func19) (fun wa5 ka5 ba5 => (short17_any _ _ kk wa5 (q9D.kp (Kp.of (U := UU) ba5))).mono ?_)
      rintro e w5 ⟨b5, rfl, hs5, hb5⟩
      cases b5 with
      | false =>
        refine ⟨_, rfl, hb5, fun kb5 _ bb5 => wV rfl ?_⟩
        (repeat (first | refine wN ?_ | refine wP rfl ?_ | refine cx_r rfl ?_ | refine cx_d (by kernel_rfl) rfl ?_ | refine wO rfl rfl ?_))
        refine VO.call rfl rfl (fk Tryz.func9) (fun wa6 ka6 ba6 => (works17_any wa6).mono ?_)
        rintro e w6 ⟨rfl, hb6⟩
        skip
        refine ⟨_, rfl, hb6, fun kb6 _ bb6 => wV rfl ?_⟩
        (repeat (first | refine wN ?_ | refine wP rfl ?_ | refine cx_r rfl ?_ | refine cx_d (by kernel_rfl) rfl ?_ | refine wO rfl rfl ?_))
        refine VS.ret (cx_ok _ _) rfl rfl (fun wz kz bz => ?_)
        exact ⟨rfl, bz⟩
      | true =>
      refine ⟨_, rfl, hb5, fun kb5 _ bb5 => wV rfl ?_⟩
      (repeat (first | refine wN ?_ | refine wP rfl ?_ | refine cx_r rfl ?_ | refine cx_d (by kernel_rfl) rfl ?_ | refine wO rfl rfl ?_))
      have hE6 : PtE 6 w [.bool s9a, .slice p9a n9a c9a, .bool t9a, .slice y9a m9a d9a, .bool s9b, .slice p9b n9b c9b, .bool t9b, .slice y9b m9b d9b, .bool s9c, .slice p9c n9c c9c, .bool t9c, .slice y9c m9c d9c, .bool s9d, .slice p9d n9d c9d, .bool t9d, .slice y9d m9d d9d] x := PtIn.mk (q9A.le (hs2 rfl)) (q9B.le (hs3 rfl)) (q9C.le (hs4 rfl)) (q9D.le (hs5 rfl))
      refine VO.cond rfl ⟨by omega, by omega⟩ ?_
      refine wV rfl ?_
      (repeat (first | refine wN ?_ | refine wP rfl ?_ | refine cx_r rfl ?_ | refine cx_d (by kernel_rfl) rfl ?_ | refine wO rfl rfl ?_))
      refine VO.read rfl [.bool s9a, .slice p9a n9a c9a, .bool t9a, .slice y9a m9a d9a, .bool s9b, .slice p9b n9b c9b, .bool t9b, .slice y9b m9b d9b, .bool s9c, .slice p9c n9c c9c, .bool t9c, .slice y9c m9c d9c, .bool s9d, .slice p9d n9d c9d, .bool t9d, .slice y9d m9d d9d] rfl (cells_sub (o := off + (0 : Nat) * 16) hc 0 _ ⟨_, rfl⟩) (wV rfl ?_)
      (repeat (first | refine wN ?_ | refine wP rfl ?_ | refine cx_r rfl ?_ | refine cx_d (by kernel_rfl) rfl ?_ | refine wO rfl rfl ?_))
      refine VO.call rfl rfl (fk Tryz.func26) (fun wa6 ka6 ba6 => (ref17_any _ x 6 wa6 ((pt_ok 6).kp hE6 (Kp.of (U := UU) ba6)) (by omega)).mono ?_)
      rintro e w6 ⟨r6, rfl, q6, hb6⟩
      have q6' := q6; obtain ⟨s6a, p6a, n6a, c6a, t6a, y6a, m6a, d6a, s6b, p6b, n6b, c6b, t6b, y6b, m6b, d6b, s6c, p6c, n6c, c6c, t6c, y6c, m6c, d6c, s6d, p6d, n6d, c6d, t6d, y6d, m6d, d6d, rfl, _⟩ := q6'
      refine ⟨_, rfl, hb6, fun kb6 _ bb6 => wV rfl ?_⟩
      (repeat (first | refine wN ?_ | refine wP rfl ?_ | refine cx_r rfl ?_ | refine cx_d (by kernel_rfl) rfl ?_ | refine wO rfl rfl ?_))
      refine VO.app (cx_ok _ _) (t := 55) (e := 31) (sz := 16) (n := 0) (c := 0) (mm := 1) (known := []) (spare := []) (del := none) (news := ([.bool s6a, .slice p6a n6a c6a, .bool t6a, .slice y6a m6a d6a, .bool s6b, .slice p6b n6b c6b, .bool t6b, .slice y6b m6b d6b, .bool s6c, .slice p6c n6c c6c, .bool t6c, .slice y6c m6c d6c, .bool s6d, .slice p6d n6d c6d, .bool t6d, .slice y6d m6d d6d] : List Value).map .val) (dst := 59) rfl rfl rfl rfl rfl rfl rfl rfl (Nat.le_of_ble_eq_true rfl) rfl (.inl ⟨rfl, rfl, rfl, rfl, rfl, rfl, by omega⟩) (.inl rfl) rfl rfl (by omega) (by omega) ⟨rfl, rfl, rfl⟩ ⟨rfl, rfl, rfl⟩ rfl (by omega)
        (fun w1 β k1 b1 ho => ⟨_, _, rfl, .inr ⟨β 58, 0, rfl, own_src (rest := []) (ho.own 58 (.base (List.mem_append_right _ (List.mem_singleton.2 rfl))) _ _ rfl) rfl⟩⟩)
        (fun w13 cap' spare' ρ k13 b13 hρ hc1 hc2 hlen2 hok' hlid' => wV rfl ?_)
      (repeat (first | refine wN ?_ | refine wP rfl ?_ | refine cx_r rfl ?_ | refine cx_d (by kernel_rfl) rfl ?_ | refine wO rfl rfl ?_))
      have hI : PtE 6 w13 [.bool s6a, .slice p6a n6a c6a, .bool t6a, .slice y6a m6a d6a, .bool s6b, .slice p6b n6b c6b, .bool t6b, .slice y6b m6b d6b, .bool s6c, .slice p6c n6c c6c, .bool t6c, .slice y6c m6c d6c, .bool s6d, .slice p6d n6d c6d, .bool t6d, .slice y6d m6d d6d] x := PtIn.kp q6 (by (with_reducible (repeat (first | assumption | exact kU _ | exact kR _ | refine kT ?_ (by assumption)))))
      have hrow' : RowE (PtE 6) w13 (l.take ((0 : Nat) + 1)) ([[.bool s6a, .slice p6a n6a c6a, .bool t6a, .slice y6a m6a d6a, .bool s6b, .slice p6b n6b c6b, .bool t6b, .slice y6b m6b d6b, .bool s6c, .slice p6c n6c c6c, .bool t6c, .slice y6c m6c d6c, .bool s6d, .slice p6d n6d c6d, .bool t6d, .slice y6d m6d d6d]]) := by
        rw [take_snoc_at hx]
        exact .cons hI .nil
      refine VS.back (N - ((0 : Nat) + 1)) (by omega) ⟨_, _, ?_, ?_, ?_, ?_, ⟨(0 : Nat) + 1, by omega, rfl, by omega, hup.snoc hx hc hE6, .inr ⟨by omega, [[.bool s6a, .slice p6a n6a c6a, .bool t6a, .slice y6a m6a d6a, .bool s6b, .slice p6b n6b c6b, .bool t6b, .slice y6b m6b d6b, .bool s6c, .slice p6c n6c c6c, .bool t6c, .slice y6c m6c d6c, .bool s6d, .slice p6d n6d c6d, .bool t6d, .slice y6d m6d d6d]], spare', cap', rfl, rfl, hrow', ?_, by omega, hc2, hok', hlid'⟩⟩⟩
      · refine ⟨rfl, rfl, ?_, trivial⟩
        rfl
      · exact ⟨rfl, trivial⟩
      · rfl
      · exact ⟨.append (.vals _) (.none hlid'), trivial⟩
      · simpa using hlen2
    · refine VS.condN rfl (decide_eq_false (fun e => hlt (Int.ofNat_lt.1 e))) ?_
      obtain rfl : N = 0 := by omega
      have h6 : SlIn (PtE 6) 16 w (.slice p 0 c) l := hup.all hv
      have hl6 : l.length ≤ 6 := by omega
      have hss := lpt_sz h6 hl6
      (repeat (first | refine wN ?_ | refine wP rfl ?_ | refine cx_r rfl ?_ | refine cx_d (by kernel_rfl) rfl ?_ | refine wO rfl rfl ?_))
      refine VO.call rfl rfl (fk Tryz.func27) (fun wa20 ka20 ba20 => (rSum17_any _ l 6 wa20 (h6.beh (pt_ok 6) ba20) (by omega) (by omega) (by omega)).mono ?_)
      rintro e w20 ⟨r20, rfl, q20, hb20⟩
      have q20' := q20; obtain ⟨s20a, p20a, n20a, c20a, t20a, y20a, m20a, d20a, s20b, p20b, n20b, c20b, t20b, y20b, m20b, d20b, s20c, p20c, n20c, c20c, t20c, y20c, m20c, d20c, s20d, p20d, n20d, c20d, t20d, y20d, m20d, d20d, rfl, _⟩ := q20'
      refine ⟨_, rfl, hb20, fun kb20 _ bb20 => wV rfl ?_⟩
      (repeat (first | refine wN ?_ | refine wP rfl ?_ | refine cx_r rfl ?_ | refine cx_d (by kernel_rfl) rfl ?_ | refine wO rfl rfl ?_))
      obtain rfl : l = [] := List.length_eq_zero_iff.1 hN.symm
      refine VO.call rfl rfl (fk Tryz.func28) (fun wa21 ka21 ba21 => (qSum17_any _ [] 6 wa21 (SlIn.nil _ _ _) (by omega) (by omega) (by decide)).mono ?_)
      rintro e w21 ⟨r21, rfl, q21, hb21⟩
      have q21' := q21; obtain ⟨s21a, p21a, n21a, c21a, t21a, y21a, m21a, d21a, s21b, p21b, n21b, c21b, t21b, y21b, m21b, d21b, s21c, p21c, n21c, c21c, t21c, y21c, m21c, d21c, s21d, p21d, n21d, c21d, t21d, y21d, m21d, d21d, rfl, _⟩ := q21'
      refine ⟨_, rfl, hb21, fun kb21 _ bb21 => wV rfl ?_⟩
      (repeat (first | refine wN ?_ | refine wP rfl ?_ | refine cx_r rfl ?_ | refine cx_d (by kernel_rfl) rfl ?_ | refine wO rfl rfl ?_))
      refine VO.call rfl rfl (fk Tryz.func13) (fun wa22 ka22 ba22 => (is17_any _ _ _ wa22 (q20.kp (by (with_reducible (repeat (first | assumption | exact kU _ | exact kR _ | refine kT ?_ (by assumption)))))) (q21.kp (by (with_reducible (repeat (first | assumption | exact kU _ | exact kR _ | refine kT ?_ (by assumption))))))).mono ?_)
      rintro e w22 ⟨rfl, hb22⟩
      skip
      refine ⟨_, rfl, hb22, fun kb22 _ bb22 => wV rfl ?_⟩
      (repeat (first | refine wN ?_ | refine wP rfl ?_ | refine cx_r rfl ?_ | refine cx_d (by kernel_rfl) rfl ?_ | refine wO rfl rfl ?_))
      refine VS.loop (J := fun m L M w' => m = 0 ∧ L = [(0, .val (.slice p 0 c)), (5, .val (.int .i64 ((0 : Nat) : Int)))] ∧ M = []) 0 ⟨_, _, ?_, ?_, ?_, ?_, ⟨rfl, rfl, rfl⟩⟩ ?_
      · (repeat (first | exact trivial | refine ⟨rfl, ?_⟩))
      · (repeat (first | exact trivial | refine ⟨rfl, ?_⟩))
      · rfl
      · (repeat (first | exact trivial | refine ⟨ClosedC.lit rfl, ?_⟩ | refine ⟨ClosedC.vals _, ?_⟩))
      rintro m L M wL ⟨rfl, rfl, rfl⟩
      (repeat (first | refine wN ?_ | refine wP rfl ?_ | refine cx_r rfl ?_ | refine cx_d (by kernel_rfl) rfl ?_ | refine wO rfl rfl ?_))
      refine VO.call rfl rfl (fk Tryz.func9) (fun wa23 ka23 ba23 => (works17_any wa23).mono ?_)
      rintro e w23 ⟨rfl, hb23⟩
      skip
      refine ⟨_, rfl, hb23, fun kb23 _ bb23 => wV rfl ?_⟩
      (repeat (first | refine wN ?_ | refine wP rfl ?_ | refine cx_r rfl ?_ | refine cx_d (by kernel_rfl) rfl ?_ | refine wO rfl rfl ?_))
      refine VS.ret (cx_ok _ _) rfl rfl (fun wz kz bz => ?_)
      exact ⟨rfl, bz⟩
  · (repeat (first | refine wN ?_ | refine wP rfl ?_ | refine cx_r rfl ?_ | refine cx_d (by kernel_rfl) rfl ?_ | refine wO rfl rfl ?_))
    by_cases hlt : z < N
    · obtain ⟨x, hx⟩ : ∃ x, l[z]? = some x := ⟨_, List.getElem?_eq_getElem (by omega)⟩
      obtain ⟨b, off, cs', rfl, hc, he⟩ := hv.at hx
      obtain ⟨s9a, p9a, n9a, c9a, t9a, y9a, m9a, d9a, s9b, p9b, n9b, c9b, t9b, y9b, m9b, d9b, s9c, p9c, n9c, c9c, t9c, y9c, m9c, d9c, s9d, p9d, n9d, c9d, t9d, y9d, m9d, d9d, rfl, q9A, q9B, q9C, q9D⟩ := he.form
      replace hc : ∀ (j : Nat) (u : Value), [.bool s9a, .slice p9a n9a c9a, .bool t9a, .slice y9a m9a d9a, .bool s9b, .slice p9b n9b c9b, .bool t9b, .slice y9b m9b d9b, .bool s9c, .slice p9c n9c c9c, .bool t9c, .slice y9c m9c d9c, .bool s9d, .slice p9d n9d c9d, .bool t9d, .slice y9d m9d d9d][j]? = some u → w.cell? ⟨b, off + z * 16 + j, none⟩ = some u := hc
      refine VS.condY rfl (decide_eq_true (Int.ofNat_lt.2 hlt)) ?_
      (repeat (first | refine wN ?_ | refine wP rfl ?_ | refine cx_r rfl ?_ | refine cx_d (by kernel_rfl) rfl ?_ | refine wO rfl rfl ?_))
      by_cases hz5 : z > 5
      · refine VO.fix 15 rfl (congrArg (fun b => AV.val (.bool b)) (decide_eq_true (show (z : Int) > 5 by omega))) ?_
        (repeat (first | refine wN ?_ | refine wP rfl ?_ | refine cx_r rfl ?_ | refine cx_d (by kernel_rfl) rfl ?_ | refine wO rfl rfl ?_))
        refine VO.call rfl rfl (fk Tryz.func9) (fun wa1 ka1 ba1 => (works17_any wa1).mono ?_)
        rintro e w1 ⟨rfl, hb1⟩
        skip
        refine ⟨_, rfl, hb1, fun kb1 _ bb1 => wV rfl ?_⟩
        (repeat (first | refine wN ?_ | refine wP rfl ?_ | refine cx_r rfl ?_ | refine cx_d (by kernel_rfl) rfl ?_ | refine wO rfl rfl ?_))
        refine VS.ret (cx_ok _ _) rfl rfl (fun wz kz bz => ?_)
        exact ⟨rfl, bz⟩
      refine VO.fix 15 rfl (congrArg (fun b => AV.val (.bool b)) (decide_eq_false (show ¬ (z : Int) > 5 by omega))) ?_
      (repeat (first | refine wN ?_ | refine wP rfl ?_ | refine cx_r rfl ?_ | refine cx_d (by kernel_rfl) rfl ?_ | refine wO rfl rfl ?_))
      refine VO.cond rfl ⟨by omega, by omega⟩ ?_
      refine wV rfl ?_
      (repeat (first | refine wN ?_ | refine wP rfl ?_ | refine cx_r rfl ?_ | refine cx_d (by kernel_rfl) rfl ?_ | refine wO rfl rfl ?_))
      refine VO.read rfl [.bool s9a, .slice p9a n9a c9a, .bool t9a, .slice y9a m9a d9a] rfl (cells_sub (o := off + z * 16) hc 0 _ ⟨_, rfl⟩) (wV rfl ?_)
      (repeat (first | refine wN ?_ | refine wP rfl ?_ | refine cx_r rfl ?_ | refine cx_d (by kernel_rfl) rfl ?_ | refine wO rfl rfl ?_))
      refine VO.call rfl rfl (fk Tryz.func19) (fun wa2 ka2 ba2 => (short17_any _ _ kk wa2 (q9A.kp (Kp.of (U := UU) ba2))).mono ?_)
      rintro e w2 ⟨b2, rfl, hs2, hb2⟩
      cases b2 with
      | false =>
        refine ⟨_, rfl, hb2, fun kb2 _ bb2 => wV rfl ?_⟩
        (repeat (first | refine wN ?_ | refine wP rfl ?_ | refine cx_r rfl ?_ | refine cx_d (by kernel_rfl) rfl ?_ | refine wO rfl rfl ?_))
        refine VO.call rfl rfl (fk Tryz.func9) (fun wa3 ka3 ba3 => (works17_any wa3).mono ?_)
        rintro e w3 ⟨rfl, hb3⟩
        skip
        refine ⟨_, rfl, hb3, fun kb3 _ bb3 => wV rfl ?_⟩
        (repeat (first | refine wN ?_ | refine wP rfl ?_ | refine cx_r rfl ?_ | refine cx_d (by kernel_rfl) rfl ?_ | refine wO rfl rfl ?_))
        refine VS.ret (cx_ok _ _) rfl rfl (fun wz kz bz => ?_)
        exact ⟨rfl, bz⟩
      | true =>
      refine ⟨_, rfl, hb2, fun kb2 _ bb2 => wV rfl ?_⟩
      (repeat (first | refine wN ?_ | refine wP rfl ?_ | refine cx_r rfl ?_ | refine cx_d (by kernel_rfl) rfl ?_ | refine wO rfl rfl ?_))
      refine VO.cond rfl ⟨by omega, by omega⟩ ?_
      refine wV rfl ?_
      (repeat (first | refine wN ?_ | refine wP rfl ?_ | refine cx_r rfl ?_ | refine cx_d (by kernel_rfl) rfl ?_ | refine wO rfl rfl ?_))
      refine VO.read rfl [.bool s9b, .slice p9b n9b c9b, .bool t9b, .slice y9b m9b d9b] rfl (cells_sub (o := off + z * 16) hc 4 _ ⟨_, rfl⟩) (wV rfl ?_)
      (repeat (first | refine wN ?_ | refine wP rfl ?_ | refine cx_r rfl ?_ | refine cx_d (by kernel_rfl) rfl ?_ | refine wO rfl rfl ?_))
      refine VO.call rfl rfl (fk Tryz.func19) (fun wa3 ka3 ba3 => (short17_any _ _ kk wa3 (q9B.kp (Kp.of (U := UU) ba3))).mono ?_)
      rintro e w3 ⟨b3, rfl, hs3, hb3⟩
      cases b3 with
      | false =>
        refine ⟨_, rfl, hb3, fun kb3 _ bb3 => wV rfl ?_⟩
        (repeat (first | refine wN ?_ | refine wP rfl ?_ | refine cx_r rfl ?_ | refine cx_d (by kernel_rfl) rfl ?_ | refine wO rfl rfl ?_))
        refine VO.call rfl rfl (fk Tryz.func9) (fun wa4 ka4 ba4 => (works17_any wa4).mono ?_)
        rintro e w4 ⟨rfl, hb4⟩
        skip
        refine ⟨_, rfl, hb4, fun kb4 _ bb4 => wV rfl ?_⟩
        (repeat (first | refine wN ?_ | refine wP rfl ?_ | refine cx_r rfl ?_ | refine cx_d (by kernel_rfl) rfl ?_ | refine wO rfl rfl ?_))
        refine VS.ret (cx_ok _ _) rfl rfl (fun wz kz bz => ?_)
        exact ⟨rfl, bz⟩
      | true =>
      refine ⟨_, rfl, hb3, fun kb3 _ bb3 => wV rfl ?_⟩
      (repeat (first | refine wN ?_ | refine wP rfl ?_ | refine cx_r rfl ?_ | refine cx_d (by kernel_rfl) rfl ?_ | refine wO rfl rfl ?_))
      refine VO.cond rfl ⟨by omega, by omega⟩ ?_
      refine wV rfl ?_
      (repeat (first | refine wN ?_ | refine wP rfl ?_ | refine cx_r rfl ?_ | refine cx_d (by kernel_rfl) rfl ?_ | refine wO rfl rfl ?_))
      refine VO.read rfl [.bool s9c, .slice p9c n9c c9c, .bool t9c, .slice y9c m9c d9c] rfl (cells_sub (o := off + z * 16) hc 8 _ ⟨_, rfl⟩) (wV rfl ?_)
      (repeat (first | refine wN ?_ | refine wP rfl ?_ | refine cx_r rfl ?_ | refine cx_d (by kernel_rfl) rfl ?_ | refine wO rfl rfl ?_))
      refine VO.call rfl rfl (fk Tryz.func19) (fun wa4 ka4 ba4 => (short17_any _ _ kk wa4 (q9C.kp (Kp.of (U := UU) ba4))).mono ?_)
      rintro e w4 ⟨b4, rfl, hs4, hb4⟩
      cases b4 with
      | false =>
        refine ⟨_, rfl, hb4, fun kb4 _ bb4 => wV rfl ?_⟩
        (repeat (first | refine wN ?_ | refine wP rfl ?_ | refine cx_r rfl ?_ | refine cx_d (by kernel_rfl) rfl ?_ | refine wO rfl rfl ?_))
        refine VO.call rfl rfl (fk Tryz.func9) (fun wa5 ka5 ba5 => (works17_any wa5).mono ?_)
        rintro e w5 ⟨rfl, hb5⟩
        skip
        refine ⟨_, rfl, hb5, fun kb5 _ bb5 => wV rfl ?_⟩
        (repeat (first | refine wN ?_ | refine wP rfl ?_ | refine cx_r rfl ?_ | refine cx_d (by kernel_rfl) rfl ?_ | refine wO rfl rfl ?_))
        refine VS.ret (cx_ok _ _) rfl rfl (fun wz kz bz => ?_)
        exact ⟨rfl, bz⟩
      | true =>
      refine ⟨_, rfl, hb4, fun kb4 _ bb4 => wV rfl ?_⟩
      (repeat (first | refine wN ?_ | refine wP rfl ?_ | refine cx_r rfl ?_ | refine cx_d (by kernel_rfl) rfl ?_ | refine wO rfl rfl ?_))
      refine VO.cond rfl ⟨by omega, by omega⟩ ?_
      refine wV rfl ?_
      (repeat (first | refine wN ?_ | refine wP rfl ?_ | refine cx_r rfl ?_ | refine cx_d (by kernel_rfl) rfl ?_ | refine wO rfl rfl ?_))
      refine VO.read rfl [.bool s9d, .slice p9d n9d c9d, .bool t9d, .slice y9d m9d d9d] rfl (cells_sub (o := off + z * 16) hc 12 _ ⟨_, rfl⟩) (wV rfl ?_)
      (repeat (first | refine wN ?_ | refine wP rfl ?_ | refine cx_r rfl ?_ | refine cx_d (by kernel_rfl) rfl ?_ | refine wO rfl rfl ?_))
      refine VO.call rfl rfl (fk Tryz.func19) (fun wa5 ka5 ba5 => (short17_any _ _ kk wa5 (q9D.kp (Kp.of (U := UU) ba5))).mono ?_)
      rintro e w5 ⟨b5, rfl, hs5, hb5⟩
      cases b5 with
      | false =>
        refine ⟨_, rfl, hb5, fun kb5 _ bb5 => wV rfl ?_⟩
        (repeat (first | refine wN ?_ | refine wP rfl ?_ | refine cx_r rfl ?_ | refine cx_d (by kernel_rfl) rfl ?_ | refine wO rfl rfl ?_))
        refine VO.call rfl rfl (fk Tryz.func9) (fun wa6 ka6 ba6 => (works17_any wa6).mono ?_)
        rintro e w6 ⟨rfl, hb6⟩
        skip
        refine ⟨_, rfl, hb6, fun kb6 _ bb6 => wV rfl ?_⟩
        (repeat (first | refine wN ?_ | refine wP rfl ?_ | refine cx_r rfl ?_ | refine cx_d (by kernel_rfl) rfl ?_ | refine wO rfl rfl ?_))
        refine VS.ret (cx_ok _ _) rfl rfl (fun wz kz bz => ?_)
        exact ⟨rfl, bz⟩
      | true =>
      refine ⟨_, rfl, hb5, fun kb5 _ bb5 => wV rfl ?_⟩
      (repeat (first | refine wN ?_ | refine wP rfl ?_ | refine cx_r rfl ?_ | refine cx_d (by kernel_rfl) rfl ?_ | refine wO rfl rfl ?_))
      have hE6 : PtE 6 w [.bool s9a, .slice p9a n9a c9a, .bool t9a, .slice y9a m9a d9a, .bool s9b, .slice p9b n9b c9b, .bool t9b, .slice y9b m9b d9b, .bool s9c, .slice p9c n9c c9c, .bool t9c, .slice y9c m9c d9c, .bool s9d, .slice p9d n9d c9d, .bool t9d, .slice y9d m9d d9d] x := PtIn.mk (q9A.le (hs2 rfl)) (q9B.le (hs3 rfl)) (q9C.le (hs4 rfl)) (q9D.le (hs5 rfl))
      refine VO.cond rfl ⟨by omega, by omega⟩ ?_
      refine wV rfl ?_
      (repeat (first | refine wN ?_ | refine wP rfl ?_ | refine cx_r rfl ?_ | refine cx_d (by kernel_rfl) rfl ?_ | refine wO rfl rfl ?_))
      refine VO.read rfl [.bool s9a, .slice p9a n9a c9a, .bool t9a, .slice y9a m9a d9a, .bool s9b, .slice p9b n9b c9b, .bool t9b, .slice y9b m9b d9b, .bool s9c, .slice p9c n9c c9c, .bool t9c, .slice y9c m9c d9c, .bool s9d, .slice p9d n9d c9d, .bool t9d, .slice y9d m9d d9d] rfl (cells_sub (o := off + z * 16) hc 0 _ ⟨_, rfl⟩) (wV rfl ?_)
      (repeat (first | refine wN ?_ | refine wP rfl ?_ | refine cx_r rfl ?_ | refine cx_d (by kernel_rfl) rfl ?_ | refine wO rfl rfl ?_))
      refine VO.call rfl rfl (fk Tryz.func26) (fun wa6 ka6 ba6 => (ref17_any _ x 6 wa6 ((pt_ok 6).kp hE6 (Kp.of (U := UU) ba6)) (by omega)).mono ?_)
      rintro e w6 ⟨r6, rfl, q6, hb6⟩
      have q6' := q6; obtain ⟨s6a, p6a, n6a, c6a, t6a, y6a, m6a, d6a, s6b, p6b, n6b, c6b, t6b, y6b, m6b, d6b, s6c, p6c, n6c, c6c, t6c, y6c, m6c, d6c, s6d, p6d, n6d, c6d, t6d, y6d, m6d, d6d, rfl, _⟩ := q6'
      refine ⟨_, rfl, hb6, fun kb6 _ bb6 => wV rfl ?_⟩
      (repeat (first | refine wN ?_ | refine wP rfl ?_ | refine cx_r rfl ?_ | refine cx_d (by kernel_rfl) rfl ?_ | refine wO rfl rfl ?_))
      obtain ⟨hok1, hln1⟩ := hrow.ok (pt_ok 6)
      have htl : (l.take z).length = z := by rw [List.length_take]; omega
      refine VO.app (cx_ok _ _) (t := 55) (e := 31) (sz := 16) (n := z) (c := cap) (mm := 1) (known := vs.flatten.map .val) (spare := spare) (del := some 59) (news := ([.bool s6a, .slice p6a n6a c6a, .bool t6a, .slice y6a m6a d6a, .bool s6b, .slice p6b n6b c6b, .bool t6b, .slice y6b m6b d6b, .bool s6c, .slice p6c n6c c6c, .bool t6c, .slice y6c m6c d6c, .bool s6d, .slice p6d n6d c6d, .bool t6d, .slice y6d m6d d6d] : List Value).map .val) (dst := 59) rfl rfl rfl rfl rfl rfl rfl rfl (Nat.le_of_ble_eq_true rfl) rfl (.inr ⟨59, rfl, rfl, rfl⟩) (.inr rfl) (by rw [List.length_map, hln1, htl]) hlen' hzc hcc ⟨lidsOf_vals _, hsl, rfl⟩ ⟨vals_ok hok1, hsok, rfl⟩ rfl (by omega)
        (fun w1 β k1 b1 ho => ⟨_, _, rfl, .inr ⟨β 58, 0, rfl, own_src (rest := []) (ho.own 58 (.base (List.mem_append_right _ (List.mem_singleton.2 rfl))) _ _ rfl) rfl⟩⟩)
        (fun w13 cap' spare' ρ k13 b13 hρ hc1 hc2 hlen2 hok' hlid' => wV rfl ?_)
      (repeat (first | refine wN ?_ | refine wP rfl ?_ | refine cx_r rfl ?_ | refine cx_d (by kernel_rfl) rfl ?_ | refine wO rfl rfl ?_))
      have hI : PtE 6 w13 [.bool s6a, .slice p6a n6a c6a, .bool t6a, .slice y6a m6a d6a, .bool s6b, .slice p6b n6b c6b, .bool t6b, .slice y6b m6b d6b, .bool s6c, .slice p6c n6c c6c, .bool t6c, .slice y6c m6c d6c, .bool s6d, .slice p6d n6d c6d, .bool t6d, .slice y6d m6d d6d] x := PtIn.kp q6 (by (with_reducible (repeat (first | assumption | exact kU _ | exact kR _ | refine kT ?_ (by assumption)))))
      have hrow' : RowE (PtE 6) w13 (l.take (z + 1)) (vs ++ [[.bool s6a, .slice p6a n6a c6a, .bool t6a, .slice y6a m6a d6a, .bool s6b, .slice p6b n6b c6b, .bool t6b, .slice y6b m6b d6b, .bool s6c, .slice p6c n6c c6c, .bool t6c, .slice y6c m6c d6c, .bool s6d, .slice p6d n6d c6d, .bool t6d, .slice y6d m6d d6d]]) := by
        rw [take_snoc_at hx]
        exact (hrow.kp (pt_ok 6) (by (with_reducible (repeat (first | assumption | exact kU _ | exact kR _ | refine kT ?_ (by assumption)))))).snoc hI
      refine VS.back (N - (z + 1)) (by omega) ⟨_, _, ?_, ?_, ?_, ?_, ⟨z + 1, by omega, rfl, by omega, hup.snoc hx hc hE6, .inr ⟨by omega, vs ++ [[.bool s6a, .slice p6a n6a c6a, .bool t6a, .slice y6a m6a d6a, .bool s6b, .slice p6b n6b c6b, .bool t6b, .slice y6b m6b d6b, .bool s6c, .slice p6c n6c c6c, .bool t6c, .slice y6c m6c d6c, .bool s6d, .slice p6d n6d c6d, .bool t6d, .slice y6d m6d d6d]], spare', cap', rfl, rfl, hrow', ?_, by omega, hc2, hok', hlid'⟩⟩⟩
      · refine ⟨rfl, rfl, ?_, trivial⟩
        rw [← nat_step (by omega)]; rfl
      · exact ⟨congrArg (fun l => some (_, l ++ spare')) (by simp), trivial⟩
      · rfl
      · exact ⟨.append (.vals _) (.none hlid'), trivial⟩
      · simpa using hlen2
    · refine VS.condN rfl (decide_eq_false (fun e => hlt (Int.ofNat_lt.1 e))) ?_
      obtain rfl : z = N := by omega
      have h6 : SlIn (PtE 6) 16 w (.slice p z c) l := hup.all hv
      have hl6 : l.length ≤ 6 := by omega
      have hss := lpt_sz h6 hl6
      (repeat (first | refine wN ?_ | refine wP rfl ?_ | refine cx_r rfl ?_ | refine cx_d (by kernel_rfl) rfl ?_ | refine wO rfl rfl ?_))
      refine VO.call rfl rfl (fk Tryz.func27) (fun wa20 ka20 ba20 => (rSum17_any _ l 6 wa20 (h6.beh (pt_ok 6) ba20) (by omega) (by omega) (by omega)).mono ?_)
      rintro e w20 ⟨r20, rfl, q20, hb20⟩
      have q20' := q20; obtain ⟨s20a, p20a, n20a, c20a, t20a, y20a, m20a, d20a, s20b, p20b, n20b, c20b, t20b, y20b, m20b, d20b, s20c, p20c, n20c, c20c, t20c, y20c, m20c, d20c, s20d, p20d, n20d, c20d, t20d, y20d, m20d, d20d, rfl, _⟩ := q20'
      refine ⟨_, rfl, hb20, fun kb20 _ bb20 => wV rfl ?_⟩
      (repeat (first | refine wN ?_ | refine wP rfl ?_ | refine cx_r rfl ?_ | refine cx_d (by kernel_rfl) rfl ?_ | refine wO rfl rfl ?_))
      rw [List.take_of_length_le (by omega)] at hrow
      refine VO.callF rfl (fk Tryz.func28) (fun wa21 β ka21 ba21 ho => (qSum17_any _ l 6 wa21 (ownV_sl (pt_ok 6) (ho.own 59 (.base (List.mem_singleton.2 rfl)) _ _ rfl) spare rfl (hrow.kp (pt_ok 6) (by (with_reducible (repeat (first | assumption | exact kU _ | exact kR _ | refine kT ?_ (by assumption)))))) hN hzc hcc) (by omega) (by omega) hss).mono ?_)
      rintro e w21 ⟨r21, rfl, q21, hb21⟩
      have q21' := q21; obtain ⟨s21a, p21a, n21a, c21a, t21a, y21a, m21a, d21a, s21b, p21b, n21b, c21b, t21b, y21b, m21b, d21b, s21c, p21c, n21c, c21c, t21c, y21c, m21c, d21c, s21d, p21d, n21d, c21d, t21d, y21d, m21d, d21d, rfl, _⟩ := q21'
      refine ⟨_, rfl, hb21, fun kb21 _ bb21 => wV rfl ?_⟩
      (repeat (first | refine wN ?_ | refine wP rfl ?_ | refine cx_r rfl ?_ | refine cx_d (by kernel_rfl) rfl ?_ | refine wO rfl rfl ?_))
      refine VO.call rfl rfl (fk Tryz.func13) (fun wa22 ka22 ba22 => (is17_any _ _ _ wa22 (q20.kp (by (with_reducible (repeat (first | assumption | exact kU _ | exact kR _ | refine kT ?_ (by assumption)))))) (q21.kp (by (with_reducible (repeat (first | assumption | exact kU _ | exact kR _ | refine kT ?_ (by assumption))))))).mono ?_)
      rintro e w22 ⟨rfl, hb22⟩
      skip
      refine ⟨_, rfl, hb22, fun kb22 _ bb22 => wV rfl ?_⟩
      (repeat (first | refine wN ?_ | refine wP rfl ?_ | refine cx_r rfl ?_ | refine cx_d (by kernel_rfl) rfl ?_ | refine wO rfl rfl ?_))
      have hrow1 := hrow.kp (pt_ok 6) (w' := w22) (by (with_reducible (repeat (first | assumption | exact kU _ | exact kR _ | refine kT ?_ (by assumption)))))
      refine VS.loop (J := fun m L M w' => ∃ i : Nat, i ≤ z ∧ m = z - i ∧ L = [(0, .val (.slice p z c)), (3, .row 59 0 z cap), (5, .val (.int .i64 (i : Int)))] ∧ M = [(59, (31, vs.flatten.map .val ++ spare))] ∧ RowE (PtE 6) w' l vs) z ⟨_, _, ?_, ?_, ?_, ?_, ⟨0, by omega, rfl, rfl, rfl, hrow1⟩⟩ ?_
      · (repeat (first | exact trivial | refine ⟨rfl, ?_⟩))
      · (repeat (first | exact trivial | refine ⟨rfl, ?_⟩))
      · rfl
      · exact ⟨.append (.vals _) (.none hsl), trivial⟩
      clear hrow hrow1
      rintro m L M w3 ⟨i, hi, rfl, rfl, rfl, hrow⟩
      (repeat (first | refine wN ?_ | refine wP rfl ?_ | refine cx_r rfl ?_ | refine cx_d (by kernel_rfl) rfl ?_ | refine wO rfl rfl ?_))
      by_cases hil : i < z
      · refine VS.condY rfl (decide_eq_true (Int.ofNat_lt.2 hil)) ?_
        (repeat (first | refine wN ?_ | refine wP rfl ?_ | refine cx_r rfl ?_ | refine cx_d (by kernel_rfl) rfl ?_ | refine wO rfl rfl ?_))
        refine VS.loop (J := fun m L M w' => ∃ k : Nat, k ≤ z ∧ m = z - k ∧ L = [(0, .val (.slice p z c)), (3, .row 59 0 z cap), (5, .val (.int .i64 (i : Int))), (6, .val (.int .i64 (k : Int)))] ∧ M = [(59, (31, vs.flatten.map .val ++ spare))] ∧ RowE (PtE 6) w' l vs) z ⟨_, _, ?_, ?_, ?_, ?_, ⟨0, by omega, rfl, rfl, rfl, hrow⟩⟩ ?_
        · (repeat (first | exact trivial | refine ⟨rfl, ?_⟩))
        · (repeat (first | exact trivial | refine ⟨rfl, ?_⟩))
        · rfl
        · exact ⟨.append (.vals _) (.none hsl), trivial⟩
        clear hrow
        rintro m L M w4 ⟨k, hk, rfl, rfl, rfl, hrow⟩
        (repeat (first | refine wN ?_ | refine wP rfl ?_ | refine cx_r rfl ?_ | refine cx_d (by kernel_rfl) rfl ?_ | refine wO rfl rfl ?_))
        by_cases hkl : k < z
        · refine VS.condY rfl (decide_eq_true (Int.ofNat_lt.2 hkl)) ?_
          (repeat (first | refine wN ?_ | refine wP rfl ?_ | refine cx_r rfl ?_ | refine wO rfl rfl ?_))
          refine VS.draw (cx_ok _ _) (cx_mixed _ _) [] (by kernel_rfl) ?_
          refine wV rfl ?_
          obtain ⟨xi, hxi⟩ : ∃ x, l[i]? = some x := ⟨_, List.getElem?_eq_getElem (by omega)⟩
          obtain ⟨xk, hxk⟩ : ∃ x, l[k]? = some x := ⟨_, List.getElem?_eq_getElem (by omega)⟩
          obtain ⟨b, off, csi, rfl, hci, hei⟩ := h6.at hxi
          obtain ⟨b', off', csk, hbk, hck, hek⟩ := h6.at hxk
          cases hbk
          obtain ⟨s30a, p30a, n30a, c30a, t30a, y30a, m30a, d30a, s30b, p30b, n30b, c30b, t30b, y30b, m30b, d30b, s30c, p30c, n30c, c30c, t30c, y30c, m30c, d30c, s30d, p30d, n30d, c30d, t30d, y30d, m30d, d30d, rfl, _⟩ := hei.form
          obtain ⟨s31a, p31a, n31a, c31a, t31a, y31a, m31a, d31a, s31b, p31b, n31b, c31b, t31b, y31b, m31b, d31b, s31c, p31c, n31c, c31c, t31c, y31c, m31c, d31c, s31d, p31d, n31d, c31d, t31d, y31d, m31d, d31d, rfl, _⟩ := hek.form
          obtain ⟨dsi, hdi, hfi⟩ := hrow.at i xi hxi
          obtain ⟨dsk, hdk, hfk⟩ := hrow.at k xk hxk
          obtain ⟨s32a, p32a, n32a, c32a, t32a, y32a, m32a, d32a, s32b, p32b, n32b, c32b, t32b, y32b, m32b, d32b, s32c, p32c, n32c, c32c, t32c, y32c, m32c, d32c, s32d, p32d, n32d, c32d, t32d, y32d, m32d, d32d, rfl, _⟩ := hfi.form
          obtain ⟨s33a, p33a, n33a, c33a, t33a, y33a, m33a, d33a, s33b, p33b, n33b, c33b, t33b, y33b, m33b, d33b, s33c, p33c, n33c, c33c, t33c, y33c, m33c, d33c, s33d, p33d, n33d, c33d, t33d, y33d, m33d, d33d, rfl, _⟩ := hfk.form
          refine VO.cond rfl ⟨by omega, by omega⟩ ?_
          refine wV rfl ?_
          (repeat (first | refine wN ?_ | refine wP rfl ?_ | refine cx_r rfl ?_ | refine cx_d (by kernel_rfl) rfl ?_ | refine wO rfl rfl ?_))
          refine VO.read rfl [.bool s30a, .slice p30a n30a c30a, .bool t30a, .slice y30a m30a d30a, .bool s30b, .slice p30b n30b c30b, .bool t30b, .slice y30b m30b d30b, .bool s30c, .slice p30c n30c c30c, .bool t30c, .slice y30c m30c d30c, .bool s30d, .slice p30d n30d c30d, .bool t30d, .slice y30d m30d d30d] rfl (cells_sub (o := off + i * 16) hci 0 _ ⟨_, rfl⟩) (wV rfl ?_)
          (repeat (first | refine wN ?_ | refine wP rfl ?_ | refine cx_r rfl ?_ | refine cx_d (by kernel_rfl) rfl ?_ | refine wO rfl rfl ?_))
          refine VO.cond rfl ⟨by omega, by omega⟩ ?_
          refine wV rfl ?_
          (repeat (first | refine wN ?_ | refine wP rfl ?_ | refine cx_r rfl ?_ | refine cx_d (by kernel_rfl) rfl ?_ | refine wO rfl rfl ?_))
          refine VO.read rfl [.bool s31a, .slice p31a n31a c31a, .bool t31a, .slice y31a m31a d31a, .bool s31b, .slice p31b n31b c31b, .bool t31b, .slice y31b m31b d31b, .bool s31c, .slice p31c n31c c31c, .bool t31c, .slice y31c m31c d31c, .bool s31d, .slice p31d n31d c31d, .bool t31d, .slice y31d m31d d31d] rfl (cells_sub (o := off + k * 16) hck 0 _ ⟨_, rfl⟩) (wV rfl ?_)
          (repeat (first | refine wN ?_ | refine wP rfl ?_ | refine cx_r rfl ?_ | refine cx_d (by kernel_rfl) rfl ?_ | refine wO rfl rfl ?_))
          refine VO.call rfl rfl (fk Tryz.func29) (fun wa40 ka40 ba40 => (rSame17_any _ _ xi xk 6 6 wa40 ((pt_ok 6).kp hei (Kp.of (U := UU) ba40)) ((pt_ok 6).kp hek (Kp.of (U := UU) ba40)) (by omega) (by omega)).mono ?_)
          rintro e w40 ⟨rfl, hb40⟩
          skip
          refine ⟨_, rfl, hb40, fun kb40 _ bb40 => wV rfl ?_⟩
          (repeat (first | refine wN ?_ | refine wP rfl ?_ | refine cx_r rfl ?_ | refine cx_d (by kernel_rfl) rfl ?_ | refine wO rfl rfl ?_))
          refine VO.cond rfl ⟨by omega, by omega⟩ ?_
          refine wV rfl ?_
          (repeat (first | refine wN ?_ | refine wP rfl ?_ | refine cx_r rfl ?_ | refine cx_d (by kernel_rfl) rfl ?_ | refine wO rfl rfl ?_))
          refine VO.peek rfl (([.bool s32a, .slice p32a n32a c32a, .bool t32a, .slice y32a m32a d32a, .bool s32b, .slice p32b n32b c32b, .bool t32b, .slice y32b m32b d32b, .bool s32c, .slice p32c n32c c32c, .bool t32c, .slice y32c m32c d32c, .bool s32d, .slice p32d n32d c32d, .bool t32d, .slice y32d m32d d32d] : List Value).map AV.val) rfl (row_peek (pt_ok 6) hrow spare hdi) (wV rfl ?_)
          (repeat (first | refine wN ?_ | refine wP rfl ?_ | refine cx_r rfl ?_ | refine cx_d (by kernel_rfl) rfl ?_ | refine wO rfl rfl ?_))
          refine VO.cond rfl ⟨by omega, by omega⟩ ?_
          refine wV rfl ?_
          (repeat (first | refine wN ?_ | refine wP rfl ?_ | refine cx_r rfl ?_ | refine cx_d (by kernel_rfl) rfl ?_ | refine wO rfl rfl ?_))
          refine VO.peek rfl (([.bool s33a, .slice p33a n33a c33a, .bool t33a, .slice y33a m33a d33a, .bool s33b, .slice p33b n33b c33b, .bool t33b, .slice y33b m33b d33b, .bool s33c, .slice p33c n33c c33c, .bool t33c, .slice y33c m33c d33c, .bool s33d, .slice p33d n33d c33d, .bool t33d, .slice y33d m33d d33d] : List Value).map AV.val) rfl (row_peek (pt_ok 6) hrow spare hdk) (wV rfl ?_)
          (repeat (first | refine wN ?_ | refine wP rfl ?_ | refine cx_r rfl ?_ | refine cx_d (by kernel_rfl) rfl ?_ | refine wO rfl rfl ?_))
          refine VO.call rfl rfl (fk Tryz.func30) (fun wa41 ka41 ba41 => (qSame17_any _ _ xi xk 6 6 wa41 ((pt_ok 6).kp hfi (by (with_reducible (repeat (first | assumption | exact kU _ | exact kR _ | refine kT ?_ (by assumption)))))) ((pt_ok 6).kp hfk (by (with_reducible (repeat (first | assumption | exact kU _ | exact kR _ | refine kT ?_ (by assumption)))))) (by omega) (by omega)).mono ?_)
          rintro e w41 ⟨rfl, hb41⟩
          skip
          refine ⟨_, rfl, hb41, fun kb41 _ bb41 => wV rfl ?_⟩
          (repeat (first | refine wN ?_ | refine wP rfl ?_ | refine cx_r rfl ?_ | refine cx_d (by kernel_rfl) rfl ?_ | refine wO rfl rfl ?_))
          refine VS.condN rfl (bne_self_eq_false (psame xi xk)) ?_
          (repeat (first | refine wN ?_ | refine wP rfl ?_ | refine cx_r rfl ?_ | refine cx_d (by kernel_rfl) rfl ?_ | refine wO rfl rfl ?_))
          refine VS.back (z - (k + 1)) (by omega) ⟨_, _, ?_, ?_, ?_, ?_, ⟨k + 1, by omega, rfl, rfl, rfl, hrow.kp (pt_ok 6) (by (with_reducible (repeat (first | assumption | exact kU _ | exact kR _ | refine kT ?_ (by assumption)))))⟩⟩
          · refine ⟨rfl, rfl, rfl, ?_, trivial⟩
            rw [← nat_step (by omega)]; rfl
          · (repeat (first | exact trivial | refine ⟨rfl, ?_⟩))
          · rfl
          · exact ⟨.append (.vals _) (.none hsl), trivial⟩
        · refine VS.condN rfl (decide_eq_false (fun e => hkl (Int.ofNat_lt.1 e))) ?_
          (repeat (first | refine wN ?_ | refine wP rfl ?_ | refine cx_r rfl ?_ | refine cx_d (by kernel_rfl) rfl ?_ | refine wO rfl rfl ?_))
          refine VS.back (z - (i + 1)) (by omega) ⟨_, _, ?_, ?_, ?_, ?_, ⟨i + 1, by omega, rfl, rfl, rfl, hrow⟩⟩
          · refine ⟨rfl, rfl, ?_, trivial⟩
            rw [← nat_step (by omega)]; rfl
          · (repeat (first | exact trivial | refine ⟨rfl, ?_⟩))
          · rfl
          · exact ⟨.append (.vals _) (.none hsl), trivial⟩
      · refine VS.condN rfl (decide_eq_false (fun e => hil (Int.ofNat_lt.1 e))) ?_
        (repeat (first | refine wN ?_ | refine wP rfl ?_ | refine cx_r rfl ?_ | refine cx_d (by kernel_rfl) rfl ?_ | refine wO rfl rfl ?_))
        refine VO.call rfl rfl (fk Tryz.func9) (fun wa23 ka23 ba23 => (works17_any wa23).mono ?_)
        rintro e w23 ⟨rfl, hb23⟩
        skip
        refine ⟨_, rfl, hb23, fun kb23 _ bb23 => wV rfl ?_⟩
        (repeat (first | refine wN ?_ | refine wP rfl ?_ | refine cx_r rfl ?_ | refine cx_d (by kernel_rfl) rfl ?_ | refine wO rfl rfl ?_))
        refine VS.ret (cx_ok _ _) rfl rfl (fun wz kz bz => ?_)
        exact ⟨rfl, bz⟩
end Go.Proofs.YtgffhmpnkfejbaaGreat
