/- What the rules' functions compute: Of, Sum, Same, Difference, EBITDA. -/
import Derived.Test.YtgffhmpnkfejbaaGreatRuleB
set_option linter.all false
namespace Go.Proofs.YtgffhmpnkfejbaaGreat
open Go.RowKit
attribute [local irreducible] vcOps VS

theorem PtE.form {kk : Nat} {w : World} {cs : List Value} {P : Pt} (h : PtE kk w cs P) : ∃ s1a p1a n1a c1a t1a y1a m1a d1a s1b p1b n1b c1b t1b y1b m1b d1b s1c p1c n1c c1c t1c y1c m1c d1c s1d p1d n1d c1d t1d y1d m1d d1d, cs = [.bool s1a, .slice p1a n1a c1a, .bool t1a, .slice y1a m1a d1a, .bool s1b, .slice p1b n1b c1b, .bool t1b, .slice y1b m1b d1b, .bool s1c, .slice p1c n1c c1c, .bool t1c, .slice y1c m1c d1c, .bool s1d, .slice p1d n1d c1d, .bool t1d, .slice y1d m1d d1d] ∧
  RatIn w (.agg #[.bool s1a, .slice p1a n1a c1a, .bool t1a, .slice y1a m1a d1a]) P.b kk ∧ RatIn w (.agg #[.bool s1b, .slice p1b n1b c1b, .bool t1b, .slice y1b m1b d1b]) P.s kk ∧ RatIn w (.agg #[.bool s1c, .slice p1c n1c c1c, .bool t1c, .slice y1c m1c d1c]) P.d kk ∧ RatIn w (.agg #[.bool s1d, .slice p1d n1d c1d, .bool t1d, .slice y1d m1d d1d]) P.i kk := by
  obtain ⟨s1a, p1a, n1a, c1a, t1a, y1a, m1a, d1a, s1b, p1b, n1b, c1b, t1b, y1b, m1b, d1b, s1c, p1c, n1c, c1c, t1c, y1c, m1c, d1c, s1d, p1d, n1d, c1d, t1d, y1d, m1d, d1d, hv, h1, h2, h3, h4⟩ := h
  exact ⟨_, _, _, _, _, _, _, _, _, _, _, _, _, _, _, _, _, _, _, _, _, _, _, _, _, _, _, _, _, _, _, _, agg_list hv, h1, h2, h3, h4⟩
set_option maxRecDepth 4000 in
set_option maxHeartbeats 2000000 in
theorem rOf17_any (v : Value) (l : List Itm) (kk : Nat) (w : World) (hv : SlIn (ItmE kk) 9 w v l) (hk1 : 1 ≤ kk) (hkk : kk ≤ 1000000) (hsz : ruleSz kk l.length ≤ 60000000) :
    Calls Tryz.prog 12 #[v] w fun e w' => ∃ r, e = .returned r ∧ PtRd w' r (rulesOf l) ∧ Beh w w' := by
  obtain ⟨p, c, rfl, hnc, hcm⟩ := hv.form
  have hszs := slin_sz hv hk1
  obtain ⟨N, hN⟩ : ∃ N, N = l.length := ⟨_, rfl⟩
  rw [← hN] at hv hnc hsz ⊢
  refine calm_enter (C := cxOf Tryz.prog w _) (args := [_]) Tryz.func12 rfl Tryz.ntmps12 (Nat.le_of_ble_eq_true rfl) ?_
  (repeat (first | refine wN ?_ | refine wP rfl ?_ | refine cx_r rfl ?_ | refine cx_d (by kernel_rfl) rfl ?_ | refine wO rfl rfl ?_))
  refine VO.call rfl rfl (fk Tryz.func41) (fun wa1 ka1 ba1 => (rnone_any wa1).mono ?_)
  rintro e w1 ⟨r1, rfl, q1, hb1⟩
  obtain ⟨s1a, p1a, n1a, c1a, t1a, y1a, m1a, d1a, s1b, p1b, n1b, c1b, t1b, y1b, m1b, d1b, s1c, p1c, n1c, c1c, t1c, y1c, m1c, d1c, s1d, p1d, n1d, c1d, t1d, y1d, m1d, d1d, rfl, q1r⟩ := q1; have q1 := PtRd.mk q1r.1 q1r.2.1 q1r.2.2.1 q1r.2.2.2
  refine ⟨_, rfl, hb1, fun kb1 _ bb1 => wV rfl ?_⟩
  (repeat (first | refine wN ?_ | refine wP rfl ?_ | refine cx_r rfl ?_ | refine cx_d (by kernel_rfl) rfl ?_ | refine wO rfl rfl ?_))
  refine VO.call rfl rfl (fk Tryz.func42) (fun wa2 ka2 ba2 => (rtable_any wa2).mono ?_)
  rintro e w2 ⟨b2, rfl, m2, hb2⟩
  skip
  refine ⟨_, rfl, hb2, fun kb2 _ bb2 => wV rfl ?_⟩
  (repeat (first | refine wN ?_ | refine wP rfl ?_ | refine cx_r rfl ?_ | refine cx_d (by kernel_rfl) rfl ?_ | refine wO rfl rfl ?_))
  refine VS.loop (J := fun m L M w' => ∃ (z : Nat) (cs : List Value), z ≤ N ∧ m = N - z ∧ L = [(2, .box 2 0), (3, .box 11 0), (4, .val (.map (some b2))), (13, .val (.slice p N c)), (14, .val (.int .i64 (N : Int))), (15, .val (.int .i64 (z : Int)))] ∧
    M = [(2, (39, ([.bool false, .slice none 0 0, .bool false, .slice none 0 0, .bool false, .slice none 0 0, .bool false, .slice none 0 0, .bool false, .slice none 0 0, .bool false, .slice none 0 0, .bool false, .slice none 0 0, .bool false, .slice none 0 0] : List Value).map .val)), (11, (75, cs.map .val))] ∧ cs.all okCell = true ∧ PtRd w' (.agg cs.toArray) (rulesOf (l.take z)) ∧ w'.heap[b2]? = some (.map ruleEnts.toArray 11)) N
    ⟨_, _, ?_, ?_, ?_, ?_, ⟨0, [.bool s1a, .slice p1a n1a c1a, .bool t1a, .slice y1a m1a d1a, .bool s1b, .slice p1b n1b c1b, .bool t1b, .slice y1b m1b d1b, .bool s1c, .slice p1c n1c c1c, .bool t1c, .slice y1c m1c d1c, .bool s1d, .slice p1d n1d c1d, .bool t1d, .slice y1d m1d d1d], by omega, rfl, rfl, rfl, rfl, q1.kp (by (with_reducible (repeat (first | assumption | exact kU _ | exact kR _ | refine kT ?_ (by assumption))))), m2⟩⟩ ?_
  · (repeat (first | exact trivial | refine ⟨rfl, ?_⟩))
  · (repeat (first | exact trivial | refine ⟨rfl, ?_⟩))
  · rfl
  · (repeat (first | exact trivial | refine ⟨ClosedC.lit rfl, ?_⟩ | refine ⟨ClosedC.vals _, ?_⟩))
  rintro m L M wJ ⟨z, cs, hz, rfl, rfl, rfl, hok, hpt, hmap⟩
  (repeat (first | refine wN ?_ | refine wP rfl ?_ | refine cx_r rfl ?_ | refine cx_d (by kernel_rfl) rfl ?_ | refine wO rfl rfl ?_))
  by_cases hlt : z < N
  · obtain ⟨x, hx⟩ : ∃ x, l[z]? = some x := ⟨_, List.getElem?_eq_getElem (by omega)⟩
    obtain ⟨b, off, cs', rfl, hc, he⟩ := hv.at hx
    obtain ⟨s9a, p9a, n9a, c9a, t9a, y9a, m9a, d9a, s9b, p9b, n9b, c9b, t9b, y9b, m9b, d9b, rfl, hkd, hAr, hTo⟩ := he
    obtain ⟨kd, ar, tx⟩ := x
    replace hAr : RatIn w (.agg #[.bool s9a, .slice p9a n9a c9a, .bool t9a, .slice y9a m9a d9a]) ar kk := hAr
    replace hTo : RatIn w (.agg #[.bool s9b, .slice p9b n9b c9b, .bool t9b, .slice y9b m9b d9b]) tx kk := hTo
    obtain ⟨hsa, hst⟩ := hszs _ (List.mem_of_getElem? hx)
    have hst : RSz tx kk := hst
    have hsa : RSz ar kk := hsa
    have hpsz : PSz (rulesOf (l.take z)) (ruleSz kk N) := (rulesOf_sz hk1 (l.take z) (fun y hy => hszs y (List.mem_of_mem_take hy))).mono (ruleSz_le (by rw [List.length_take]; omega))
    refine VS.condY rfl (decide_eq_true (Int.ofNat_lt.2 hlt)) ?_
    (repeat (first | refine wN ?_ | refine wP rfl ?_ | refine cx_r rfl ?_ | refine cx_d (by kernel_rfl) rfl ?_ | refine wO rfl rfl ?_))
    refine VO.cond rfl ⟨by omega, by omega⟩ (wV rfl ?_)
    refine VO.read rfl [.int .u8 (kd : Int), .bool s9a, .slice p9a n9a c9a, .bool t9a, .slice y9a m9a d9a, .bool s9b, .slice p9b n9b c9b, .bool t9b, .slice y9b m9b d9b] rfl (fun j u hj => by rw [Addr.add_mid, Int.toNat_natCast]; exact hc j u hj) (wV rfl ?_)
    (repeat (first | refine wN ?_ | refine wP rfl ?_ | refine cx_r rfl ?_ | refine cx_d (by kernel_rfl) rfl ?_ | refine wO rfl rfl ?_))
    have hd0 : MapKept.IsKey (.int .u8) (.int .u8 (kd : Int)) := rfl
    rcases rule_find kd with ⟨idx, g, hfind, hg, hrule⟩ | ⟨hfind, hzero⟩
    · refine VO.look (t := 76) (kt := 5) (d := .int .u8) (z := .nilFunc) rfl rfl Tryz.underlying76 Tryz.underlying5 hd0 (fun w => by kernel_rfl) (fun w1 k1 _ => k1.map _ _ _ hmap) hfind (fun w3 kb3 bb3 => wV rfl ?_)
      (repeat (first | refine wN ?_ | refine wP rfl ?_ | refine cx_r rfl ?_ | refine wO rfl rfl ?_))
      refine VS.draw (cx_ok _ _) (cx_mixed _ _) [43] (by kernel_rfl) ?_
      refine wV rfl ?_
      refine VO.call rfl rfl (fk Tryz.func45) (fun wa4 ka4 ba4 => (rzero_any wa4).mono ?_)
      rintro e w4 ⟨r4, rfl, q4, hb4⟩
      obtain ⟨s4, p4, n4, c4, t4, y4, m4, d4, rfl⟩ := q4.form
      refine ⟨_, rfl, hb4, fun kb4 _ bb4 => wV rfl ?_⟩
      (repeat (first | refine wN ?_ | refine wP rfl ?_ | refine cx_r rfl ?_ | refine cx_d (by kernel_rfl) rfl ?_ | refine wO rfl rfl ?_))
      refine VO.call rfl rfl (fk Tryz.func44) (fun wa5 ka5 ba5 => (ratAdd_any _ _ tx 0 kk 1 wa5 (hTo.kp (Kp.of (U := UU) ba5)) ((q4.kp (by (with_reducible (repeat (first | assumption | exact kU _ | exact kR _ | refine kT ?_ (by assumption)))))).in RSz.zero) (by omega) (by omega)).mono ?_)
      rintro e w5 ⟨r5, rfl, q5, hb5⟩
      obtain ⟨s5, p5, n5, c5, t5, y5, m5, d5, rfl⟩ := q5.form
      refine ⟨_, rfl, hb5, fun kb5 _ bb5 => wV rfl ?_⟩
      (repeat (first | refine wN ?_ | refine wP rfl ?_ | refine cx_r rfl ?_ | refine cx_d (by kernel_rfl) rfl ?_ | refine wO rfl rfl ?_))
      refine VO.call rfl rfl (fk Tryz.func45) (fun wa6 ka6 ba6 => (rzero_any wa6).mono ?_)
      rintro e w6 ⟨r6, rfl, q6, hb6⟩
      obtain ⟨s6, p6, n6, c6, t6, y6, m6, d6, rfl⟩ := q6.form
      refine ⟨_, rfl, hb6, fun kb6 _ bb6 => wV rfl ?_⟩
      (repeat (first | refine wN ?_ | refine wP rfl ?_ | refine cx_r rfl ?_ | refine cx_d (by kernel_rfl) rfl ?_ | refine wO rfl rfl ?_))
      refine VO.call rfl rfl (fk Tryz.func44) (fun wa7 ka7 ba7 => (ratAdd_any _ _ ar 0 kk 1 wa7 (hAr.kp (Kp.of (U := UU) ba7)) ((q6.kp (by (with_reducible (repeat (first | assumption | exact kU _ | exact kR _ | refine kT ?_ (by assumption)))))).in RSz.zero) (by omega) (by omega)).mono ?_)
      rintro e w7 ⟨r7, rfl, q7, hb7⟩
      obtain ⟨s7, p7, n7, c7, t7, y7, m7, d7, rfl⟩ := q7.form
      refine ⟨_, rfl, hb7, fun kb7 _ bb7 => wV rfl ?_⟩
      (repeat (first | refine wN ?_ | refine wP rfl ?_ | refine cx_r rfl ?_ | refine cx_d (by kernel_rfl) rfl ?_ | refine wO rfl rfl ?_))
      have q5' := RatRd.cast q5.rd (Rat.add_zero tx).symm
      have q7' := RatRd.cast q7.rd (Rat.add_zero ar).symm
      refine VO.call rfl rfl hg (fun wa8 ka8 ba8 => (hrule _ _ tx ar kk wa8 (q5'.kp (by (with_reducible (repeat (first | assumption | exact kU _ | exact kR _ | refine kT ?_ (by assumption)))))) (q7'.kp (by (with_reducible (repeat (first | assumption | exact kU _ | exact kR _ | refine kT ?_ (by assumption)))))) hst hsa hkk).mono ?_)
      rintro e w8 ⟨r8, rfl, q8, hb8⟩
      have q8' := q8
      obtain ⟨s8a, p8a, n8a, c8a, t8a, y8a, m8a, d8a, s8b, p8b, n8b, c8b, t8b, y8b, m8b, d8b, s8c, p8c, n8c, c8c, t8c, y8c, m8c, d8c, s8d, p8d, n8d, c8d, t8d, y8d, m8d, d8d, rfl, _⟩ := q8'
      refine ⟨_, rfl, hb8, fun kb8 _ bb8 => wV rfl ?_⟩
      (repeat (first | refine wN ?_ | refine wP rfl ?_ | refine cx_r rfl ?_ | refine cx_d (by kernel_rfl) rfl ?_ | refine wO rfl rfl ?_))
      refine VO.callM (i := 11) rfl rfl (List.mem_append_left _ (List.mem_singleton.2 rfl)) (fk Tryz.func43) (Nat.le_of_ble_eq_true rfl) (fun wa9 β ka9 ba9 ho => (radd17_any (β 11) cs _ (rulesOf (l.take z)) (ruleP kd tx ar) (ruleSz kk N) (3 * kk + 1) wa9 ?_ (hpt.kp (by (with_reducible (repeat (first | assumption | exact kU _ | exact kR _ | refine kT ?_ (by assumption)))))) ((q8.kp (by (with_reducible (repeat (first | assumption | exact kU _ | exact kR _ | refine kT ?_ (by assumption)))))).to (rule_sz hst hsa hk1)) hpsz (by omega) (by omega)).mono ?_)
      · have := (ho.own 11 (.base (List.mem_append_left _ (List.mem_singleton.2 rfl))) _ _ rfl).cls
        rw [leaf_vals] at this
        exact this
      rintro e w9 ⟨ds, rfl, hbut, hcls, hokd, hptd⟩
      refine ⟨_, ds, rfl, hbut, hcls, hokd, fun kb9 kc9 bb9 => wV rfl ?_⟩
      (repeat (first | refine wN ?_ | refine wP rfl ?_ | refine cx_r rfl ?_ | refine cx_d (by kernel_rfl) rfl ?_ | refine wO rfl rfl ?_))
      have hpt' : PtRd w9 (.agg ds.toArray) (rulesOf (l.take (z + 1))) := hptd.cast (rulesOf_take hx).symm
      refine VS.back (N - (z + 1)) (by omega) ⟨_, _, ?_, ?_, ?_, ?_, ⟨z + 1, ds, by omega, rfl, rfl, rfl, hokd, hpt', KpS.map (K := KU UU) (w := wJ) (by (with_reducible (repeat (first | assumption | exact kU _ | exact kR _ | refine kT ?_ (by assumption))))) _ _ _ hmap⟩⟩
      · refine ⟨rfl, rfl, rfl, rfl, rfl, ?_, trivial⟩
        rw [← nat_step (by omega)]; rfl
      · (repeat (first | exact trivial | refine ⟨rfl, ?_⟩))
      · rfl
      · (repeat (first | exact trivial | refine ⟨ClosedC.lit rfl, ?_⟩ | refine ⟨ClosedC.vals _, ?_⟩))
    · refine VO.look (t := 76) (kt := 5) (d := .int .u8) (z := .nilFunc) rfl rfl Tryz.underlying76 Tryz.underlying5 hd0 (fun w => by kernel_rfl) (fun w1 k1 _ => k1.map _ _ _ hmap) hfind (fun w3 kb3 bb3 => wV rfl ?_)
      (repeat (first | refine wN ?_ | refine wP rfl ?_ | refine cx_r rfl ?_ | refine cx_d (by kernel_rfl) rfl ?_ | refine wO rfl rfl ?_))
      have hpt' : PtRd w3 (.agg cs.toArray) (rulesOf (l.take (z + 1))) := (hpt.kp kb3).cast (by rw [rulesOf_take hx, show itmP (kd, ar, tx) = Pt.zero from hzero _ _, add_zero'])
      refine VS.back (N - (z + 1)) (by omega) ⟨_, _, ?_, ?_, ?_, ?_, ⟨z + 1, cs, by omega, rfl, rfl, rfl, hok, hpt', kb3.map _ _ _ hmap⟩⟩
      · refine ⟨rfl, rfl, rfl, rfl, rfl, ?_, trivial⟩
        rw [← nat_step (by omega)]; rfl
      · (repeat (first | exact trivial | refine ⟨rfl, ?_⟩))
      · rfl
      · (repeat (first | exact trivial | refine ⟨ClosedC.lit rfl, ?_⟩ | refine ⟨ClosedC.vals _, ?_⟩))
  · refine VS.condN rfl (decide_eq_false (fun e => hlt (Int.ofNat_lt.1 e))) ?_
    obtain rfl : z = N := by omega
    have hpt0 := hpt
    obtain ⟨s3a, p3a, n3a, c3a, t3a, y3a, m3a, d3a, s3b, p3b, n3b, c3b, t3b, y3b, m3b, d3b, s3c, p3c, n3c, c3c, t3c, y3c, m3c, d3c, s3d, p3d, n3d, c3d, t3d, y3d, m3d, d3d, hcs, _⟩ := hpt0
    obtain rfl := agg_list hcs
    (repeat (first | refine wN ?_ | refine wP rfl ?_ | refine cx_r rfl ?_ | refine cx_d (by kernel_rfl) rfl ?_ | refine wO rfl rfl ?_))
    refine VS.ret (cx_ok _ _) rfl rfl (fun wz kz bz => ?_)
    exact ⟨_, rfl, (hpt.kp kz).cast (by rw [List.take_of_length_le (by omega)]), bz⟩
set_option maxRecDepth 4000 in
set_option maxHeartbeats 2000000 in
theorem rSum17_any (v : Value) (l : List Pt) (kk : Nat) (w : World) (hv : SlIn (PtE kk) 16 w v l) (hk1 : 1 ≤ kk) (hkk : kk ≤ 1000000) (hsz : sumSz kk l.length ≤ 60000000) :
    Calls Tryz.prog 27 #[v] w fun e w' => ∃ r, e = .returned r ∧ PtRd w' r (psum l) ∧ Beh w w' := by
  obtain ⟨p, c, rfl, hnc, hcm⟩ := hv.form
  have hszs := slpt_sz hv hk1
  obtain ⟨N, hN⟩ : ∃ N, N = l.length := ⟨_, rfl⟩
  rw [← hN] at hv hnc hsz ⊢
  refine calm_enter (C := cxOf Tryz.prog w _) (args := [_]) Tryz.func27 rfl Tryz.ntmps27 (Nat.le_of_ble_eq_true rfl) ?_
  (repeat (first | refine wN ?_ | refine wP rfl ?_ | refine cx_r rfl ?_ | refine cx_d (by kernel_rfl) rfl ?_ | refine wO rfl rfl ?_))
  refine VO.call rfl rfl (fk Tryz.func41) (fun wa1 ka1 ba1 => (rnone_any wa1).mono ?_)
  rintro e w1 ⟨r1, rfl, q1, hb1⟩
  obtain ⟨s1a, p1a, n1a, c1a, t1a, y1a, m1a, d1a, s1b, p1b, n1b, c1b, t1b, y1b, m1b, d1b, s1c, p1c, n1c, c1c, t1c, y1c, m1c, d1c, s1d, p1d, n1d, c1d, t1d, y1d, m1d, d1d, rfl, q1r⟩ := q1; have q1 := PtRd.mk q1r.1 q1r.2.1 q1r.2.2.1 q1r.2.2.2
  refine ⟨_, rfl, hb1, fun kb1 _ bb1 => wV rfl ?_⟩
  (repeat (first | refine wN ?_ | refine wP rfl ?_ | refine cx_r rfl ?_ | refine cx_d (by kernel_rfl) rfl ?_ | refine wO rfl rfl ?_))
  refine VS.loop (J := fun m L M w' => ∃ (z : Nat) (cs : List Value), z ≤ N ∧ m = N - z ∧ L = [(2, .box 2 0), (3, .box 8 0), (9, .val (.slice p N c)), (10, .val (.int .i64 (N : Int))), (11, .val (.int .i64 (z : Int)))] ∧
    M = [(2, (39, ([.bool false, .slice none 0 0, .bool false, .slice none 0 0, .bool false, .slice none 0 0, .bool false, .slice none 0 0, .bool false, .slice none 0 0, .bool false, .slice none 0 0, .bool false, .slice none 0 0, .bool false, .slice none 0 0] : List Value).map .val)), (8, (75, cs.map .val))] ∧ cs.all okCell = true ∧ PtRd w' (.agg cs.toArray) (psum (l.take z))) N
    ⟨_, _, ?_, ?_, ?_, ?_, ⟨0, [.bool s1a, .slice p1a n1a c1a, .bool t1a, .slice y1a m1a d1a, .bool s1b, .slice p1b n1b c1b, .bool t1b, .slice y1b m1b d1b, .bool s1c, .slice p1c n1c c1c, .bool t1c, .slice y1c m1c d1c, .bool s1d, .slice p1d n1d c1d, .bool t1d, .slice y1d m1d d1d], by omega, rfl, rfl, rfl, rfl, q1⟩⟩ ?_
  · (repeat (first | exact trivial | refine ⟨rfl, ?_⟩))
  · (repeat (first | exact trivial | refine ⟨rfl, ?_⟩))
  · rfl
  · (repeat (first | exact trivial | refine ⟨ClosedC.lit rfl, ?_⟩ | refine ⟨ClosedC.vals _, ?_⟩))
  rintro m L M wJ ⟨z, cs, hz, rfl, rfl, rfl, hok, hpt⟩
  (repeat (first | refine wN ?_ | refine wP rfl ?_ | refine cx_r rfl ?_ | refine cx_d (by kernel_rfl) rfl ?_ | refine wO rfl rfl ?_))
  by_cases hlt : z < N
  · obtain ⟨x, hx⟩ : ∃ x, l[z]? = some x := ⟨_, List.getElem?_eq_getElem (by omega)⟩
    obtain ⟨b, off, cs', rfl, hc, he⟩ := hv.at hx
    have he' := he
    obtain ⟨s9a, p9a, n9a, c9a, t9a, y9a, m9a, d9a, s9b, p9b, n9b, c9b, t9b, y9b, m9b, d9b, s9c, p9c, n9c, c9c, t9c, y9c, m9c, d9c, s9d, p9d, n9d, c9d, t9d, y9d, m9d, d9d, rfl, q9A, q9B, q9C, q9D⟩ := he'.form
    have hpsz : PSz (psum (l.take z)) (sumSz kk N) := (psum_sz (l.take z) (fun y hy => hszs y (List.mem_of_mem_take hy))).mono (sumSz_le (by rw [List.length_take]; omega))
    refine VS.condY rfl (decide_eq_true (Int.ofNat_lt.2 hlt)) ?_
    (repeat (first | refine wN ?_ | refine wP rfl ?_ | refine cx_r rfl ?_ | refine cx_d (by kernel_rfl) rfl ?_ | refine wO rfl rfl ?_))
    refine VO.cond rfl ⟨by omega, by omega⟩ (wV rfl ?_)
    refine VO.read rfl [.bool s9a, .slice p9a n9a c9a, .bool t9a, .slice y9a m9a d9a, .bool s9b, .slice p9b n9b c9b, .bool t9b, .slice y9b m9b d9b, .bool s9c, .slice p9c n9c c9c, .bool t9c, .slice y9c m9c d9c, .bool s9d, .slice p9d n9d c9d, .bool t9d, .slice y9d m9d d9d] rfl (fun j u hj => by rw [Addr.add_mid, Int.toNat_natCast]; exact hc j u hj) (wV rfl ?_)
    (repeat (first | refine wN ?_ | refine wP rfl ?_ | refine cx_r rfl ?_ | refine cx_d (by kernel_rfl) rfl ?_ | refine wO rfl rfl ?_))
    refine VO.callM (i := 8) rfl rfl (List.mem_append_left _ (List.mem_singleton.2 rfl)) (fk Tryz.func43) (Nat.le_of_ble_eq_true rfl) (fun wa9 β ka9 ba9 ho => (radd17_any (β 8) cs _ (psum (l.take z)) x (sumSz kk N) kk wa9 ?_ (hpt.kp (by (with_reducible (repeat (first | assumption | exact kU _ | exact kR _ | refine kT ?_ (by assumption)))))) ((pt_ok kk).kp he (Kp.of (U := UU) ba9)) hpsz (by omega) (by omega)).mono ?_)
    · have := (ho.own 8 (.base (List.mem_append_left _ (List.mem_singleton.2 rfl))) _ _ rfl).cls
      rw [leaf_vals] at this
      exact this
    rintro e w9 ⟨ds, rfl, hbut, hcls, hokd, hptd⟩
    refine ⟨_, ds, rfl, hbut, hcls, hokd, fun kb9 kc9 bb9 => wV rfl ?_⟩
    (repeat (first | refine wN ?_ | refine wP rfl ?_ | refine cx_r rfl ?_ | refine cx_d (by kernel_rfl) rfl ?_ | refine wO rfl rfl ?_))
    have hpt' : PtRd w9 (.agg ds.toArray) (psum (l.take (z + 1))) := hptd.cast (psum_take hx).symm
    refine VS.back (N - (z + 1)) (by omega) ⟨_, _, ?_, ?_, ?_, ?_, ⟨z + 1, ds, by omega, rfl, rfl, rfl, hokd, hpt'⟩⟩
    · refine ⟨rfl, rfl, rfl, rfl, ?_, trivial⟩
      rw [← nat_step (by omega)]; rfl
    · (repeat (first | exact trivial | refine ⟨rfl, ?_⟩))
    · rfl
    · (repeat (first | exact trivial | refine ⟨ClosedC.lit rfl, ?_⟩ | refine ⟨ClosedC.vals _, ?_⟩))
  · refine VS.condN rfl (decide_eq_false (fun e => hlt (Int.ofNat_lt.1 e))) ?_
    obtain rfl : z = N := by omega
    have hpt0 := hpt
    obtain ⟨s3a, p3a, n3a, c3a, t3a, y3a, m3a, d3a, s3b, p3b, n3b, c3b, t3b, y3b, m3b, d3b, s3c, p3c, n3c, c3c, t3c, y3c, m3c, d3c, s3d, p3d, n3d, c3d, t3d, y3d, m3d, d3d, hcs, _⟩ := hpt0
    obtain rfl := agg_list hcs
    (repeat (first | refine wN ?_ | refine wP rfl ?_ | refine cx_r rfl ?_ | refine cx_d (by kernel_rfl) rfl ?_ | refine wO rfl rfl ?_))
    refine VS.ret (cx_ok _ _) rfl rfl (fun wz kz bz => ?_)
    exact ⟨_, rfl, (hpt.kp kz).cast (by rw [List.take_of_length_le (by omega)]), bz⟩
theorem rSame17_any (v u : Value) (P Q : Pt) (k l : Nat) (w : World) (hv : PtIn w v P k) (hu : PtIn w u Q l) (hk : k ≤ 33554431) (hl : l ≤ 33554431) :
    Calls Tryz.prog 29 #[v, u] w fun e w' => e = .returned (.bool (psame P Q)) ∧ Beh w w' := by
  obtain ⟨s8a, p8a, n8a, c8a, t8a, y8a, m8a, d8a, s8b, p8b, n8b, c8b, t8b, y8b, m8b, d8b, s8c, p8c, n8c, c8c, t8c, y8c, m8c, d8c, s8d, p8d, n8d, c8d, t8d, y8d, m8d, d8d, rfl, q8A, q8B, q8C, q8D⟩ := hv
  obtain ⟨s9a, p9a, n9a, c9a, t9a, y9a, m9a, d9a, s9b, p9b, n9b, c9b, t9b, y9b, m9b, d9b, s9c, p9c, n9c, c9c, t9c, y9c, m9c, d9c, s9d, p9d, n9d, c9d, t9d, y9d, m9d, d9d, rfl, q9A, q9B, q9C, q9D⟩ := hu
  refine calm_enter (C := cxOf Tryz.prog w _) (args := [_, _]) Tryz.func29 rfl Tryz.ntmps29 (Nat.le_of_ble_eq_true rfl) ?_
  (repeat (first | refine wN ?_ | refine wP rfl ?_ | refine cx_r rfl ?_ | refine cx_d (by kernel_rfl) rfl ?_ | refine wO rfl rfl ?_))
  by_cases h1 : P.b = Q.b
  · refine VO.call rfl rfl (fk Tryz.func25) (fun wa1 ka1 ba1 => (ratSame_ok _ _ P.b Q.b k l wa1 (q8A.kp (by (with_reducible (repeat (first | assumption | exact kU _ | exact kR _ | refine kT ?_ (by assumption)))))) (q9A.kp (by (with_reducible (repeat (first | assumption | exact kU _ | exact kR _ | refine kT ?_ (by assumption)))))) (by omega) (by omega) true (decide_eq_true h1)).mono ?_)
    rintro e w1 ⟨rfl, hb1⟩
    skip
    refine ⟨_, rfl, hb1, fun kb1 _ bb1 => wV rfl ?_⟩
    (repeat (first | refine wN ?_ | refine wP rfl ?_ | refine cx_r rfl ?_ | refine cx_d (by kernel_rfl) rfl ?_ | refine wO rfl rfl ?_))
    by_cases h2 : P.s = Q.s
    · refine VO.call rfl rfl (fk Tryz.func25) (fun wa2 ka2 ba2 => (ratSame_ok _ _ P.s Q.s k l wa2 (q8B.kp (by (with_reducible (repeat (first | assumption | exact kU _ | exact kR _ | refine kT ?_ (by assumption)))))) (q9B.kp (by (with_reducible (repeat (first | assumption | exact kU _ | exact kR _ | refine kT ?_ (by assumption)))))) (by omega) (by omega) true (decide_eq_true h2)).mono ?_)
      rintro e w2 ⟨rfl, hb2⟩
      skip
      refine ⟨_, rfl, hb2, fun kb2 _ bb2 => wV rfl ?_⟩
      (repeat (first | refine wN ?_ | refine wP rfl ?_ | refine cx_r rfl ?_ | refine cx_d (by kernel_rfl) rfl ?_ | refine wO rfl rfl ?_))
      by_cases h3 : P.d = Q.d
      · refine VO.call rfl rfl (fk Tryz.func25) (fun wa3 ka3 ba3 => (ratSame_ok _ _ P.d Q.d k l wa3 (q8C.kp (by (with_reducible (repeat (first | assumption | exact kU _ | exact kR _ | refine kT ?_ (by assumption)))))) (q9C.kp (by (with_reducible (repeat (first | assumption | exact kU _ | exact kR _ | refine kT ?_ (by assumption)))))) (by omega) (by omega) true (decide_eq_true h3)).mono ?_)
        rintro e w3 ⟨rfl, hb3⟩
        skip
        refine ⟨_, rfl, hb3, fun kb3 _ bb3 => wV rfl ?_⟩
        (repeat (first | refine wN ?_ | refine wP rfl ?_ | refine cx_r rfl ?_ | refine cx_d (by kernel_rfl) rfl ?_ | refine wO rfl rfl ?_))
        by_cases h4 : P.i = Q.i
        · refine VO.call rfl rfl (fk Tryz.func25) (fun wa4 ka4 ba4 => (ratSame_ok _ _ P.i Q.i k l wa4 (q8D.kp (by (with_reducible (repeat (first | assumption | exact kU _ | exact kR _ | refine kT ?_ (by assumption)))))) (q9D.kp (by (with_reducible (repeat (first | assumption | exact kU _ | exact kR _ | refine kT ?_ (by assumption)))))) (by omega) (by omega) true (decide_eq_true h4)).mono ?_)
          rintro e w4 ⟨rfl, hb4⟩
          skip
          refine ⟨_, rfl, hb4, fun kb4 _ bb4 => wV rfl ?_⟩
          (repeat (first | refine wN ?_ | refine wP rfl ?_ | refine cx_r rfl ?_ | refine cx_d (by kernel_rfl) rfl ?_ | refine wO rfl rfl ?_))
          refine VS.ret (cx_ok _ _) rfl rfl (fun wz kz bz => ?_)
          exact ⟨by unfold psame; rw [decide_eq_true h1, decide_eq_true h2, decide_eq_true h3, decide_eq_true h4]; rfl, bz⟩
        · refine VO.call rfl rfl (fk Tryz.func25) (fun wa4 ka4 ba4 => (ratSame_ok _ _ P.i Q.i k l wa4 (q8D.kp (by (with_reducible (repeat (first | assumption | exact kU _ | exact kR _ | refine kT ?_ (by assumption)))))) (q9D.kp (by (with_reducible (repeat (first | assumption | exact kU _ | exact kR _ | refine kT ?_ (by assumption)))))) (by omega) (by omega) false (decide_eq_false h4)).mono ?_)
          rintro e w4 ⟨rfl, hb4⟩
          skip
          refine ⟨_, rfl, hb4, fun kb4 _ bb4 => wV rfl ?_⟩
          (repeat (first | refine wN ?_ | refine wP rfl ?_ | refine cx_r rfl ?_ | refine cx_d (by kernel_rfl) rfl ?_ | refine wO rfl rfl ?_))
          refine VS.ret (cx_ok _ _) rfl rfl (fun wz kz bz => ?_)
          exact ⟨by rw [show psame P Q = false by unfold psame; rw [decide_eq_false h4]; simp]; rfl, bz⟩
      · refine VO.call rfl rfl (fk Tryz.func25) (fun wa3 ka3 ba3 => (ratSame_ok _ _ P.d Q.d k l wa3 (q8C.kp (by (with_reducible (repeat (first | assumption | exact kU _ | exact kR _ | refine kT ?_ (by assumption)))))) (q9C.kp (by (with_reducible (repeat (first | assumption | exact kU _ | exact kR _ | refine kT ?_ (by assumption)))))) (by omega) (by omega) false (decide_eq_false h3)).mono ?_)
        rintro e w3 ⟨rfl, hb3⟩
        skip
        refine ⟨_, rfl, hb3, fun kb3 _ bb3 => wV rfl ?_⟩
        (repeat (first | refine wN ?_ | refine wP rfl ?_ | refine cx_r rfl ?_ | refine cx_d (by kernel_rfl) rfl ?_ | refine wO rfl rfl ?_))
        refine VS.ret (cx_ok _ _) rfl rfl (fun wz kz bz => ?_)
        exact ⟨by rw [show psame P Q = false by unfold psame; rw [decide_eq_false h3]; simp]; rfl, bz⟩
    · refine VO.call rfl rfl (fk Tryz.func25) (fun wa2 ka2 ba2 => (ratSame_ok _ _ P.s Q.s k l wa2 (q8B.kp (by (with_reducible (repeat (first | assumption | exact kU _ | exact kR _ | refine kT ?_ (by assumption)))))) (q9B.kp (by (with_reducible (repeat (first | assumption | exact kU _ | exact kR _ | refine kT ?_ (by assumption)))))) (by omega) (by omega) false (decide_eq_false h2)).mono ?_)
      rintro e w2 ⟨rfl, hb2⟩
      skip
      refine ⟨_, rfl, hb2, fun kb2 _ bb2 => wV rfl ?_⟩
      (repeat (first | refine wN ?_ | refine wP rfl ?_ | refine cx_r rfl ?_ | refine cx_d (by kernel_rfl) rfl ?_ | refine wO rfl rfl ?_))
      refine VS.ret (cx_ok _ _) rfl rfl (fun wz kz bz => ?_)
      exact ⟨by rw [show psame P Q = false by unfold psame; rw [decide_eq_false h2]; simp]; rfl, bz⟩
  · refine VO.call rfl rfl (fk Tryz.func25) (fun wa1 ka1 ba1 => (ratSame_ok _ _ P.b Q.b k l wa1 (q8A.kp (by (with_reducible (repeat (first | assumption | exact kU _ | exact kR _ | refine kT ?_ (by assumption)))))) (q9A.kp (by (with_reducible (repeat (first | assumption | exact kU _ | exact kR _ | refine kT ?_ (by assumption)))))) (by omega) (by omega) false (decide_eq_false h1)).mono ?_)
    rintro e w1 ⟨rfl, hb1⟩
    skip
    refine ⟨_, rfl, hb1, fun kb1 _ bb1 => wV rfl ?_⟩
    (repeat (first | refine wN ?_ | refine wP rfl ?_ | refine cx_r rfl ?_ | refine cx_d (by kernel_rfl) rfl ?_ | refine wO rfl rfl ?_))
    refine VS.ret (cx_ok _ _) rfl rfl (fun wz kz bz => ?_)
    exact ⟨by rw [show psame P Q = false by unfold psame; rw [decide_eq_false h1]; simp]; rfl, bz⟩
theorem rdiff_any (v : Value) (P : Pt) (k : Nat) (w : World) (hv : PtRd w v P) (hs : PSz P k) (hk : k ≤ 10000000) :
    Calls Tryz.prog 15 #[v] w fun e w' => ∃ r, e = .returned r ∧ RatOwn w' w.heap.size r P.diff ∧ Beh w w' := by
  obtain ⟨s9a, p9a, n9a, c9a, t9a, y9a, m9a, d9a, s9b, p9b, n9b, c9b, t9b, y9b, m9b, d9b, s9c, p9c, n9c, c9c, t9c, y9c, m9c, d9c, s9d, p9d, n9d, c9d, t9d, y9d, m9d, d9d, rfl, q9A, q9B, q9C, q9D⟩ := hv
  refine calm_enter (C := cxOf Tryz.prog w _) (args := [_]) Tryz.func15 rfl Tryz.ntmps15 (Nat.le_of_ble_eq_true rfl) ?_
  (repeat (first | refine wN ?_ | refine wP rfl ?_ | refine cx_r rfl ?_ | refine cx_d (by kernel_rfl) rfl ?_ | refine wO rfl rfl ?_))
  refine VO.call rfl rfl (fk Tryz.func47) (fun wa1 ka1 ba1 => (ratSub_any _ _ P.s P.i k k wa1 ((q9B.kp (by (with_reducible (repeat (first | assumption | exact kU _ | exact kR _ | refine kT ?_ (by assumption)))))).to hs.s) ((q9D.kp (by (with_reducible (repeat (first | assumption | exact kU _ | exact kR _ | refine kT ?_ (by assumption)))))).to hs.i) (by omega) (by omega)).mono ?_)
  rintro e w1 ⟨r1, rfl, q1, hb1⟩
  obtain ⟨s1, p1, n1, c1, t1, y1, m1, d1, rfl⟩ := q1.form
  refine ⟨_, rfl, hb1, fun kb1 _ bb1 => wV rfl ?_⟩
  (repeat (first | refine wN ?_ | refine wP rfl ?_ | refine cx_r rfl ?_ | refine cx_d (by kernel_rfl) rfl ?_ | refine wO rfl rfl ?_))
  refine VO.call rfl rfl (fk Tryz.func47) (fun wa2 ka2 ba2 => (ratSub_any _ _ (P.s - P.i) P.b (k + k + 1) k wa2 ((q1.kp (by (with_reducible (repeat (first | assumption | exact kU _ | exact kR _ | refine kT ?_ (by assumption)))))).in (hs.s.sub hs.i)) ((q9A.kp (by (with_reducible (repeat (first | assumption | exact kU _ | exact kR _ | refine kT ?_ (by assumption)))))).to hs.b) (by omega) (by omega)).mono ?_)
  rintro e w2 ⟨r2, rfl, q2, hb2⟩
  obtain ⟨s2, p2, n2, c2, t2, y2, m2, d2, rfl⟩ := q2.form
  refine ⟨_, rfl, hb2, fun kb2 _ bb2 => wV rfl ?_⟩
  (repeat (first | refine wN ?_ | refine wP rfl ?_ | refine cx_r rfl ?_ | refine cx_d (by kernel_rfl) rfl ?_ | refine wO rfl rfl ?_))
  refine VS.ret (cx_ok _ _) rfl rfl (fun wz kz bz => ?_)
  exact ⟨_, rfl, (q2.kp kz).mono ba2.size, bz⟩
theorem rebitda_any (v : Value) (P : Pt) (k : Nat) (w : World) (hv : PtRd w v P) (hs : PSz P k) (hk : k ≤ 10000000) :
    Calls Tryz.prog 17 #[v] w fun e w' => ∃ r, e = .returned r ∧ RatOwn w' w.heap.size r P.ebitda ∧ Beh w w' := by
  obtain ⟨s9a, p9a, n9a, c9a, t9a, y9a, m9a, d9a, s9b, p9b, n9b, c9b, t9b, y9b, m9b, d9b, s9c, p9c, n9c, c9c, t9c, y9c, m9c, d9c, s9d, p9d, n9d, c9d, t9d, y9d, m9d, d9d, rfl, q9A, q9B, q9C, q9D⟩ := hv
  refine calm_enter (C := cxOf Tryz.prog w _) (args := [_]) Tryz.func17 rfl Tryz.ntmps17 (Nat.le_of_ble_eq_true rfl) ?_
  (repeat (first | refine wN ?_ | refine wP rfl ?_ | refine cx_r rfl ?_ | refine cx_d (by kernel_rfl) rfl ?_ | refine wO rfl rfl ?_))
  refine VO.call rfl rfl (fk Tryz.func44) (fun wa1 ka1 ba1 => (ratAdd_any _ _ P.s P.d k k wa1 ((q9B.kp (by (with_reducible (repeat (first | assumption | exact kU _ | exact kR _ | refine kT ?_ (by assumption)))))).to hs.s) ((q9C.kp (by (with_reducible (repeat (first | assumption | exact kU _ | exact kR _ | refine kT ?_ (by assumption)))))).to hs.d) (by omega) (by omega)).mono ?_)
  rintro e w1 ⟨r1, rfl, q1, hb1⟩
  obtain ⟨s1, p1, n1, c1, t1, y1, m1, d1, rfl⟩ := q1.form
  refine ⟨_, rfl, hb1, fun kb1 _ bb1 => wV rfl ?_⟩
  (repeat (first | refine wN ?_ | refine wP rfl ?_ | refine cx_r rfl ?_ | refine cx_d (by kernel_rfl) rfl ?_ | refine wO rfl rfl ?_))
  refine VS.ret (cx_ok _ _) rfl rfl (fun wz kz bz => ?_)
  exact ⟨_, rfl, (q1.kp kz).mono ba1.size, bz⟩
end Go.Proofs.YtgffhmpnkfejbaaGreat
