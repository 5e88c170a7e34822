/- What the reference's functions of the rules compute: zero, among, book, base, depreciation, interest, Of, Sum, Same, Difference, EBITDA. -/
import Derived.Test.YtgffhmpnkfejbaaGreatRuleC
set_option linter.all false
namespace Go.Proofs.YtgffhmpnkfejbaaGreat
open Go.RowKit
attribute [local irreducible] vcOps VS

theorem RatRd.rd {w : World} {v : Value} {q : Rat} (h : RatRd w v q) : RatRd w v q := h
theorem RatRd.in {w : World} {v : Value} {q : Rat} {k : Nat} (h : RatRd w v q) (hs : RSz q k) : RatIn w v q k := h.to hs
theorem cells_sub {w : World} {b o : Nat} {cs : List Value} (hc : ∀ (j : Nat) (u : Value), cs[j]? = some u → w.cell? ⟨b, o + j, none⟩ = some u) (k : Nat) (ds : List Value) (hd : ds <+: cs.drop k) : ∀ (j : Nat) (u : Value), ds[j]? = some u → w.cell? ((⟨b, o + k, none⟩ : Addr).add j) = some u := fun j u hj => by
  obtain ⟨t, ht⟩ := hd
  rw [Addr.add_mid, Nat.add_assoc]
  refine hc (k + j) u ?_
  rw [← List.getElem?_drop, ← ht, List.getElem?_append_left (List.getElem?_eq_some_iff.1 hj).1]
  exact hj
def U8E (_ : World) (cs : List Value) (x : Nat) : Prop := cs = [.int .u8 (x : Int)]
theorem u8_ok : ElOk U8E 1 where
  kp := fun h _ => h
  len := fun h => by rw [show _ = _ from h]; rfl
  ok := fun h => by rw [show _ = _ from h]; rfl
theorem qzero_any (w : World) : Calls Tryz.prog 34 #[] w fun e w' => ∃ r, e = .returned r ∧ RatOwn w' w.heap.size r 0 ∧ Beh w w' := by
  refine calm_enter (C := cxOf Tryz.prog w _) (args := []) Tryz.func34 rfl Tryz.ntmps34 (Nat.le_of_ble_eq_true rfl) ?_
  (repeat (first | refine wN ?_ | refine wP rfl ?_ | refine cx_r rfl ?_ | refine cx_d (by kernel_rfl) rfl ?_ | refine wO rfl rfl ?_))
  refine VO.call rfl rfl (fk Tryz.func63) (fun wa1 ka1 ba1 => (q04Whole_any 0 wa1 (by omega) (by omega)).mono ?_)
  rintro e w1 ⟨r1, rfl, q1, hb1⟩
  obtain ⟨s1, p1, n1, c1, t1, y1, m1, d1, rfl⟩ := q1.form
  refine ⟨_, rfl, hb1, fun kb1 _ bb1 => wV rfl ?_⟩
  (repeat (first | refine wN ?_ | refine wP rfl ?_ | refine cx_r rfl ?_ | refine cx_d (by kernel_rfl) rfl ?_ | refine wO rfl rfl ?_))
  refine VS.ret (cx_ok _ _) rfl rfl (fun wz kz bz => ?_)
  exact ⟨_, rfl, ((q1.kp kz).mono ba1.size).cast rfl, bz⟩
theorem among_any (k : Nat) (ks : List Nat) (v : Value) (w : World) (hv : SlIn U8E 1 w v ks) (b : Bool) (hb : decide (k ∈ ks) = b) :
    Calls Tryz.prog 68 #[.int .u8 (k : Int), v] w fun e w' => e = .returned (.bool b) ∧ Beh w w' := by
  obtain ⟨p, c, rfl, hnc, hcm⟩ := hv.form
  obtain ⟨N, hN⟩ : ∃ N, N = ks.length := ⟨_, rfl⟩
  rw [← hN] at hv hnc ⊢
  refine calm_enter (C := cxOf Tryz.prog w _) (args := [_, _]) Tryz.func68 rfl Tryz.ntmps68 (Nat.le_of_ble_eq_true rfl) ?_
  (repeat (first | refine wN ?_ | refine wP rfl ?_ | refine cx_r rfl ?_ | refine cx_d (by kernel_rfl) rfl ?_ | refine wO rfl rfl ?_))
  refine VS.loop (J := fun m L M w' => ∃ z : Nat, z ≤ N ∧ m = N - z ∧ L = [(0, .val (.int .u8 (k : Int))), (1, .val (.slice p N c)), (5, .val (.int .i64 (z : Int)))] ∧ M = [] ∧ ∀ j x, j < z → ks[j]? = some x → x ≠ k) N ⟨_, _, ?_, ?_, ?_, ?_, ⟨0, by omega, rfl, rfl, rfl, fun j x hj => absurd hj (by omega)⟩⟩ ?_
  · (repeat (first | exact trivial | refine ⟨rfl, ?_⟩))
  · (repeat (first | exact trivial | refine ⟨rfl, ?_⟩))
  · rfl
  · (repeat (first | exact trivial | refine ⟨ClosedC.lit rfl, ?_⟩ | refine ⟨ClosedC.vals _, ?_⟩))
  rintro m L M wJ ⟨z, hz, rfl, rfl, rfl, hno⟩
  (repeat (first | refine wN ?_ | refine wP rfl ?_ | refine cx_r rfl ?_ | refine cx_d (by kernel_rfl) rfl ?_ | refine wO rfl rfl ?_))
  by_cases hlt : z < N
  · obtain ⟨x, hx⟩ : ∃ x, ks[z]? = some x := ⟨_, List.getElem?_eq_getElem (by omega)⟩
    obtain ⟨bb, off, cs, rfl, hc, he⟩ := hv.at hx
    cases (show cs = _ from he)
    refine VS.condY rfl (decide_eq_true (Int.ofNat_lt.2 hlt)) ?_
    (repeat (first | refine wN ?_ | refine wP rfl ?_ | refine cx_r rfl ?_ | refine cx_d (by kernel_rfl) rfl ?_ | refine wO rfl rfl ?_))
    refine VO.cond rfl ⟨by omega, by omega⟩ (wV rfl ?_)
    refine VO.read rfl [.int .u8 (x : Int)] rfl (fun j u hj => by rw [Addr.add_mid, Int.toNat_natCast]; exact hc j u hj) (wV rfl ?_)
    (repeat (first | refine wN ?_ | refine wP rfl ?_ | refine cx_r rfl ?_ | refine cx_d (by kernel_rfl) rfl ?_ | refine wO rfl rfl ?_))
    by_cases hxk : x = k
    · refine VS.condY rfl (by rw [hxk]; simp) ?_
      (repeat (first | refine wN ?_ | refine wP rfl ?_ | refine cx_r rfl ?_ | refine cx_d (by kernel_rfl) rfl ?_ | refine wO rfl rfl ?_))
      refine VS.ret (cx_ok _ _) rfl rfl (fun wz kz bz => ?_)
      exact ⟨by rw [← hb, decide_eq_true (hxk ▸ List.mem_of_getElem? hx)]; rfl, bz⟩
    · refine VS.condN rfl (by rw [beq_eq_false_iff_ne]; omega) ?_
      (repeat (first | refine wN ?_ | refine wP rfl ?_ | refine cx_r rfl ?_ | refine cx_d (by kernel_rfl) rfl ?_ | refine wO rfl rfl ?_))
      refine VS.back (N - (z + 1)) (by omega) ⟨_, _, ?_, ?_, ?_, ?_, ⟨z + 1, by omega, rfl, rfl, rfl, fun j y hj hy => ?_⟩⟩
      · refine ⟨rfl, rfl, ?_, trivial⟩
        rw [← nat_step (by omega)]; rfl
      · (repeat (first | exact trivial | refine ⟨rfl, ?_⟩))
      · rfl
      · (repeat (first | exact trivial | refine ⟨ClosedC.lit rfl, ?_⟩ | refine ⟨ClosedC.vals _, ?_⟩))
      · rcases Nat.lt_succ_iff_lt_or_eq.1 hj with h | h
        · exact hno j y h hy
        · subst h; rw [hx] at hy; cases hy; exact hxk
  · refine VS.condN rfl (decide_eq_false (fun e => hlt (Int.ofNat_lt.1 e))) ?_
    obtain rfl : z = N := by omega
    (repeat (first | refine wN ?_ | refine wP rfl ?_ | refine cx_r rfl ?_ | refine cx_d (by kernel_rfl) rfl ?_ | refine wO rfl rfl ?_))
    refine VS.ret (cx_ok _ _) rfl rfl (fun wz kz bz => ?_)
    refine ⟨?_, bz⟩
    rw [← hb, decide_eq_false (fun hm => ?_)]
    · rfl
    · obtain ⟨j, hj⟩ := List.getElem?_of_mem hm
      exact hno j k (by have := (List.getElem?_eq_some_iff.1 hj).1; omega) hj rfl
def ItmV (kk : Nat) (w : World) (v : Value) (x : Itm) : Prop := ∃ cs : List Value, v = .agg cs.toArray ∧ ItmE kk w cs x
set_option maxHeartbeats 1000000 in
theorem qbook_any (v : Value) (x : Itm) (kk : Nat) (w : World) (hv : ItmV kk w v x) (hk1 : 1 ≤ kk) (hkk : kk ≤ 1000000) :
    Calls Tryz.prog 36 #[v] w fun e w' => ∃ r, e = .returned r ∧ RatRd w' r (bookP x.1 x.2.2) ∧ Beh w w' := by
  obtain ⟨cs, rfl, s9a, p9a, n9a, c9a, t9a, y9a, m9a, d9a, s9b, p9b, n9b, c9b, t9b, y9b, m9b, d9b, rfl, hkd, hAr, hTo⟩ := hv
  obtain ⟨kd, ar, tx⟩ := x
  replace hAr : RatIn w (.agg #[.bool s9a, .slice p9a n9a c9a, .bool t9a, .slice y9a m9a d9a]) ar kk := hAr
  replace hTo : RatIn w (.agg #[.bool s9b, .slice p9b n9b c9b, .bool t9b, .slice y9b m9b d9b]) tx kk := hTo
  have hst := hTo.sz hk1
  have hsa := hAr.sz hk1
  refine calm_enter (C := cxOf Tryz.prog w _) (args := [.agg #[.int .u8 (kd : Int), .bool s9a, .slice p9a n9a c9a, .bool t9a, .slice y9a m9a d9a, .bool s9b, .slice p9b n9b c9b, .bool t9b, .slice y9b m9b d9b]]) Tryz.func36 rfl Tryz.ntmps36 (Nat.le_of_ble_eq_true rfl) ?_
  (repeat (first | refine wN ?_ | refine wP rfl ?_ | refine cx_r rfl ?_ | refine cx_d (by kernel_rfl) rfl ?_ | refine wO rfl rfl ?_))
  refine VO.call rfl rfl (fk Tryz.func64) (fun wa1 ka1 ba1 => (q04Plain_any _ tx kk wa1 (hTo.kp (Kp.of (U := UU) ba1)) (by omega)).mono ?_)
  rintro e w1 ⟨r1, rfl, q1, hb1⟩
  obtain ⟨s1, p1, n1, c1, t1, y1, m1, d1, rfl⟩ := q1.form
  refine ⟨_, rfl, hb1, fun kb1 _ bb1 => wV rfl ?_⟩
  (repeat (first | refine wN ?_ | refine wP rfl ?_ | refine cx_r rfl ?_ | refine cx_d (by kernel_rfl) rfl ?_ | refine wO rfl rfl ?_))
  by_cases hA : kd ∈ [1, 3, 8, 10]
  · have e : bookP kd tx = tx := if_pos (by simpa using hA)
    refine VO.callF rfl (fk Tryz.func68) (fun wa2 β ka2 ba2 ho => (among_any kd [1, 3, 8, 10] _ wa2 (ownV_sl u8_ok (ho.own 9 (.base (List.mem_singleton.2 rfl)) _ _ rfl) [] (vs := [[.int .u8 1], [.int .u8 3], [.int .u8 8], [.int .u8 10]]) (by rfl) (RowE.cons rfl (RowE.cons rfl (RowE.cons rfl (RowE.cons rfl (RowE.nil))))) rfl (Nat.le_of_ble_eq_true rfl) (by decide)) true (decide_eq_true hA)).mono ?_)
    rintro e w2 ⟨rfl, hb2⟩
    refine ⟨_, rfl, hb2, fun kb2 _ bb2 => wV rfl ?_⟩
    (repeat (first | refine wN ?_ | refine wP rfl ?_ | refine cx_r rfl ?_ | refine cx_d (by kernel_rfl) rfl ?_ | refine wO rfl rfl ?_))
    refine VS.ret (cx_ok _ _) rfl rfl (fun wz kz bz => ?_)
    exact ⟨_, rfl, RatRd.cast (q1.kp (by (with_reducible (repeat (first | assumption | exact kU _ | exact kR _ | refine kT ?_ (by assumption)))))).rd (e), bz⟩
  · have e1 : bookP kd tx = if kd = 2 ∨ kd = 4 ∨ kd = 5 ∨ kd = 6 ∨ kd = 7 ∨ kd = 9 ∨ kd = 11 then -tx else 0 := if_neg (by simpa using hA)
    refine VO.callF rfl (fk Tryz.func68) (fun wa2 β ka2 ba2 ho => (among_any kd [1, 3, 8, 10] _ wa2 (ownV_sl u8_ok (ho.own 9 (.base (List.mem_singleton.2 rfl)) _ _ rfl) [] (vs := [[.int .u8 1], [.int .u8 3], [.int .u8 8], [.int .u8 10]]) (by rfl) (RowE.cons rfl (RowE.cons rfl (RowE.cons rfl (RowE.cons rfl (RowE.nil))))) rfl (Nat.le_of_ble_eq_true rfl) (by decide)) false (decide_eq_false hA)).mono ?_)
    rintro e w2 ⟨rfl, hb2⟩
    refine ⟨_, rfl, hb2, fun kb2 _ bb2 => wV rfl ?_⟩
    (repeat (first | refine wN ?_ | refine wP rfl ?_ | refine cx_r rfl ?_ | refine cx_d (by kernel_rfl) rfl ?_ | refine wO rfl rfl ?_))
    by_cases hB : kd ∈ [2, 4, 5, 6, 7, 9, 11]
    · have e : bookP kd tx = -tx := e1.trans (if_pos (by simpa using hB))
      refine VO.callF rfl (fk Tryz.func68) (fun wa3 β ka3 ba3 ho => (among_any kd [2, 4, 5, 6, 7, 9, 11] _ wa3 (ownV_sl u8_ok (ho.own 14 (.base (List.mem_singleton.2 rfl)) _ _ rfl) [] (vs := [[.int .u8 2], [.int .u8 4], [.int .u8 5], [.int .u8 6], [.int .u8 7], [.int .u8 9], [.int .u8 11]]) (by rfl) (RowE.cons rfl (RowE.cons rfl (RowE.cons rfl (RowE.cons rfl (RowE.cons rfl (RowE.cons rfl (RowE.cons rfl (RowE.nil)))))))) rfl (Nat.le_of_ble_eq_true rfl) (by decide)) true (decide_eq_true hB)).mono ?_)
      rintro e w3 ⟨rfl, hb3⟩
      refine ⟨_, rfl, hb3, fun kb3 _ bb3 => wV rfl ?_⟩
      (repeat (first | refine wN ?_ | refine wP rfl ?_ | refine cx_r rfl ?_ | refine cx_d (by kernel_rfl) rfl ?_ | refine wO rfl rfl ?_))
      refine VO.call rfl rfl (fk Tryz.func69) (fun wa4 ka4 ba4 => (q04Neg_any _ _ kk wa4 ((q1.kp (by (with_reducible (repeat (first | assumption | exact kU _ | exact kR _ | refine kT ?_ (by assumption)))))).in hst) (by omega)).mono ?_)
      rintro e w4 ⟨r4, rfl, q4, hb4⟩
      obtain ⟨s4, p4, n4, c4, t4, y4, m4, d4, rfl⟩ := q4.form
      refine ⟨_, rfl, hb4, fun kb4 _ bb4 => wV rfl ?_⟩
      (repeat (first | refine wN ?_ | refine wP rfl ?_ | refine cx_r rfl ?_ | refine cx_d (by kernel_rfl) rfl ?_ | refine wO rfl rfl ?_))
      refine VS.ret (cx_ok _ _) rfl rfl (fun wz kz bz => ?_)
      exact ⟨_, rfl, RatRd.cast (q4.kp (by (with_reducible (repeat (first | assumption | exact kU _ | exact kR _ | refine kT ?_ (by assumption)))))).rd (e), bz⟩
    · have e : bookP kd tx = 0 := e1.trans (if_neg (by simpa using hB))
      refine VO.callF rfl (fk Tryz.func68) (fun wa3 β ka3 ba3 ho => (among_any kd [2, 4, 5, 6, 7, 9, 11] _ wa3 (ownV_sl u8_ok (ho.own 14 (.base (List.mem_singleton.2 rfl)) _ _ rfl) [] (vs := [[.int .u8 2], [.int .u8 4], [.int .u8 5], [.int .u8 6], [.int .u8 7], [.int .u8 9], [.int .u8 11]]) (by rfl) (RowE.cons rfl (RowE.cons rfl (RowE.cons rfl (RowE.cons rfl (RowE.cons rfl (RowE.cons rfl (RowE.cons rfl (RowE.nil)))))))) rfl (Nat.le_of_ble_eq_true rfl) (by decide)) false (decide_eq_false hB)).mono ?_)
      rintro e w3 ⟨rfl, hb3⟩
      refine ⟨_, rfl, hb3, fun kb3 _ bb3 => wV rfl ?_⟩
      (repeat (first | refine wN ?_ | refine wP rfl ?_ | refine cx_r rfl ?_ | refine cx_d (by kernel_rfl) rfl ?_ | refine wO rfl rfl ?_))
      refine VO.call rfl rfl (fk Tryz.func34) (fun wa4 ka4 ba4 => (qzero_any wa4).mono ?_)
      rintro e w4 ⟨r4, rfl, q4, hb4⟩
      obtain ⟨s4, p4, n4, c4, t4, y4, m4, d4, rfl⟩ := q4.form
      refine ⟨_, rfl, hb4, fun kb4 _ bb4 => wV rfl ?_⟩
      (repeat (first | refine wN ?_ | refine wP rfl ?_ | refine cx_r rfl ?_ | refine cx_d (by kernel_rfl) rfl ?_ | refine wO rfl rfl ?_))
      refine VS.ret (cx_ok _ _) rfl rfl (fun wz kz bz => ?_)
      exact ⟨_, rfl, RatRd.cast (q4.kp (by (with_reducible (repeat (first | assumption | exact kU _ | exact kR _ | refine kT ?_ (by assumption)))))).rd (e), bz⟩
set_option maxHeartbeats 2000000 in
theorem qbase_any (v : Value) (x : Itm) (kk : Nat) (w : World) (hv : ItmV kk w v x) (hk1 : 1 ≤ kk) (hkk : kk ≤ 1000000) :
    Calls Tryz.prog 37 #[v] w fun e w' => ∃ r, e = .returned r ∧ RatRd w' r (baseP x.1 x.2.2 x.2.1) ∧ Beh w w' := by
  obtain ⟨cs, rfl, s9a, p9a, n9a, c9a, t9a, y9a, m9a, d9a, s9b, p9b, n9b, c9b, t9b, y9b, m9b, d9b, rfl, hkd, hAr, hTo⟩ := hv
  obtain ⟨kd, ar, tx⟩ := x
  replace hAr : RatIn w (.agg #[.bool s9a, .slice p9a n9a c9a, .bool t9a, .slice y9a m9a d9a]) ar kk := hAr
  replace hTo : RatIn w (.agg #[.bool s9b, .slice p9b n9b c9b, .bool t9b, .slice y9b m9b d9b]) tx kk := hTo
  have hst := hTo.sz hk1
  have hsa := hAr.sz hk1
  refine calm_enter (C := cxOf Tryz.prog w _) (args := [.agg #[.int .u8 (kd : Int), .bool s9a, .slice p9a n9a c9a, .bool t9a, .slice y9a m9a d9a, .bool s9b, .slice p9b n9b c9b, .bool t9b, .slice y9b m9b d9b]]) Tryz.func37 rfl Tryz.ntmps37 (Nat.le_of_ble_eq_true rfl) ?_
  (repeat (first | refine wN ?_ | refine wP rfl ?_ | refine cx_r rfl ?_ | refine cx_d (by kernel_rfl) rfl ?_ | refine wO rfl rfl ?_))
  refine VO.call rfl rfl (fk Tryz.func64) (fun wa1 ka1 ba1 => (q04Plain_any _ tx kk wa1 (hTo.kp (Kp.of (U := UU) ba1)) (by omega)).mono ?_)
  rintro e w1 ⟨r1, rfl, q1, hb1⟩
  obtain ⟨s1, p1, n1, c1, t1, y1, m1, d1, rfl⟩ := q1.form
  refine ⟨_, rfl, hb1, fun kb1 _ bb1 => wV rfl ?_⟩
  (repeat (first | refine wN ?_ | refine wP rfl ?_ | refine cx_r rfl ?_ | refine cx_d (by kernel_rfl) rfl ?_ | refine wO rfl rfl ?_))
  refine VO.call rfl rfl (fk Tryz.func64) (fun wa2 ka2 ba2 => (q04Plain_any _ ar kk wa2 (hAr.kp (Kp.of (U := UU) ba2)) (by omega)).mono ?_)
  rintro e w2 ⟨r2, rfl, q2, hb2⟩
  obtain ⟨s2, p2, n2, c2, t2, y2, m2, d2, rfl⟩ := q2.form
  refine ⟨_, rfl, hb2, fun kb2 _ bb2 => wV rfl ?_⟩
  (repeat (first | refine wN ?_ | refine wP rfl ?_ | refine cx_r rfl ?_ | refine cx_d (by kernel_rfl) rfl ?_ | refine wO rfl rfl ?_))
  have hcase : kd = 1 ∨ kd = 10 ∨ kd = 2 ∨ kd = 7 ∨ kd = 4 ∨ kd = 5 ∨ ¬ (kd = 1 ∨ kd = 10 ∨ kd = 2 ∨ kd = 7 ∨ kd = 4 ∨ kd = 5) := by omega
  rcases hcase with rfl | rfl | rfl | rfl | rfl | rfl | hno
  · (repeat (first | refine wN ?_ | refine wP rfl ?_ | refine cx_r rfl ?_ | refine cx_d (by kernel_rfl) rfl ?_ | refine wO rfl rfl ?_))
    refine VS.ret (cx_ok _ _) rfl rfl (fun wz kz bz => ?_)
    exact ⟨_, rfl, RatRd.cast (q1.kp (by (with_reducible (repeat (first | assumption | exact kU _ | exact kR _ | refine kT ?_ (by assumption)))))).rd (rfl), bz⟩
  · (repeat (first | refine wN ?_ | refine wP rfl ?_ | refine cx_r rfl ?_ | refine cx_d (by kernel_rfl) rfl ?_ | refine wO rfl rfl ?_))
    refine VS.ret (cx_ok _ _) rfl rfl (fun wz kz bz => ?_)
    exact ⟨_, rfl, RatRd.cast (q1.kp (by (with_reducible (repeat (first | assumption | exact kU _ | exact kR _ | refine kT ?_ (by assumption)))))).rd (rfl), bz⟩
  · (repeat (first | refine wN ?_ | refine wP rfl ?_ | refine cx_r rfl ?_ | refine cx_d (by kernel_rfl) rfl ?_ | refine wO rfl rfl ?_))
    refine VO.call rfl rfl (fk Tryz.func69) (fun wa3 ka3 ba3 => (q04Neg_any _ _ kk wa3 ((q1.kp (by (with_reducible (repeat (first | assumption | exact kU _ | exact kR _ | refine kT ?_ (by assumption)))))).in hst) (by omega)).mono ?_)
    rintro e w3 ⟨r3, rfl, q3, hb3⟩
    obtain ⟨s3, p3, n3, c3, t3, y3, m3, d3, rfl⟩ := q3.form
    refine ⟨_, rfl, hb3, fun kb3 _ bb3 => wV rfl ?_⟩
    (repeat (first | refine wN ?_ | refine wP rfl ?_ | refine cx_r rfl ?_ | refine cx_d (by kernel_rfl) rfl ?_ | refine wO rfl rfl ?_))
    refine VS.ret (cx_ok _ _) rfl rfl (fun wz kz bz => ?_)
    exact ⟨_, rfl, RatRd.cast (q3.kp (by (with_reducible (repeat (first | assumption | exact kU _ | exact kR _ | refine kT ?_ (by assumption)))))).rd (rfl), bz⟩
  · (repeat (first | refine wN ?_ | refine wP rfl ?_ | refine cx_r rfl ?_ | refine cx_d (by kernel_rfl) rfl ?_ | refine wO rfl rfl ?_))
    refine VO.call rfl rfl (fk Tryz.func69) (fun wa3 ka3 ba3 => (q04Neg_any _ _ kk wa3 ((q1.kp (by (with_reducible (repeat (first | assumption | exact kU _ | exact kR _ | refine kT ?_ (by assumption)))))).in hst) (by omega)).mono ?_)
    rintro e w3 ⟨r3, rfl, q3, hb3⟩
    obtain ⟨s3, p3, n3, c3, t3, y3, m3, d3, rfl⟩ := q3.form
    refine ⟨_, rfl, hb3, fun kb3 _ bb3 => wV rfl ?_⟩
    (repeat (first | refine wN ?_ | refine wP rfl ?_ | refine cx_r rfl ?_ | refine cx_d (by kernel_rfl) rfl ?_ | refine wO rfl rfl ?_))
    refine VS.ret (cx_ok _ _) rfl rfl (fun wz kz bz => ?_)
    exact ⟨_, rfl, RatRd.cast (q3.kp (by (with_reducible (repeat (first | assumption | exact kU _ | exact kR _ | refine kT ?_ (by assumption)))))).rd (rfl), bz⟩
  · (repeat (first | refine wN ?_ | refine wP rfl ?_ | refine cx_r rfl ?_ | refine cx_d (by kernel_rfl) rfl ?_ | refine wO rfl rfl ?_))
    refine VO.call rfl rfl (fk Tryz.func70) (fun wa3 ka3 ba3 => (q04Mul_any _ _ tx ar kk kk wa3 ((q1.kp (by (with_reducible (repeat (first | assumption | exact kU _ | exact kR _ | refine kT ?_ (by assumption)))))).in hst) ((q2.kp (by (with_reducible (repeat (first | assumption | exact kU _ | exact kR _ | refine kT ?_ (by assumption)))))).in hsa) (by omega) (by omega)).mono ?_)
    rintro e w3 ⟨r3, rfl, q3, hb3⟩
    obtain ⟨s3, p3, n3, c3, t3, y3, m3, d3, rfl⟩ := q3.form
    refine ⟨_, rfl, hb3, fun kb3 _ bb3 => wV rfl ?_⟩
    (repeat (first | refine wN ?_ | refine wP rfl ?_ | refine cx_r rfl ?_ | refine cx_d (by kernel_rfl) rfl ?_ | refine wO rfl rfl ?_))
    refine VO.call rfl rfl (fk Tryz.func48) (fun wa4 ka4 ba4 => (q04Sub_any _ _ (tx * ar) tx (kk + kk) kk wa4 ((q3.kp (by (with_reducible (repeat (first | assumption | exact kU _ | exact kR _ | refine kT ?_ (by assumption)))))).in (hst.mul hsa)) ((q1.kp (by (with_reducible (repeat (first | assumption | exact kU _ | exact kR _ | refine kT ?_ (by assumption)))))).in hst) (by omega) (by omega)).mono ?_)
    rintro e w4 ⟨r4, rfl, q4, hb4⟩
    obtain ⟨s4, p4, n4, c4, t4, y4, m4, d4, rfl⟩ := q4.form
    refine ⟨_, rfl, hb4, fun kb4 _ bb4 => wV rfl ?_⟩
    (repeat (first | refine wN ?_ | refine wP rfl ?_ | refine cx_r rfl ?_ | refine cx_d (by kernel_rfl) rfl ?_ | refine wO rfl rfl ?_))
    refine VS.ret (cx_ok _ _) rfl rfl (fun wz kz bz => ?_)
    exact ⟨_, rfl, RatRd.cast (q4.kp (by (with_reducible (repeat (first | assumption | exact kU _ | exact kR _ | refine kT ?_ (by assumption)))))).rd (rfl), bz⟩
  · (repeat (first | refine wN ?_ | refine wP rfl ?_ | refine cx_r rfl ?_ | refine cx_d (by kernel_rfl) rfl ?_ | refine wO rfl rfl ?_))
    by_cases hgt : rcmp tx ar > 0
    · refine VO.call rfl rfl (fk Tryz.func71) (fun wa3 ka3 ba3 => (q04Cmp_any _ _ tx ar kk kk wa3 ((q1.kp (by (with_reducible (repeat (first | assumption | exact kU _ | exact kR _ | refine kT ?_ (by assumption)))))).in hst) ((q2.kp (by (with_reducible (repeat (first | assumption | exact kU _ | exact kR _ | refine kT ?_ (by assumption)))))).in hsa) (by omega) (by omega)).mono ?_)
      rintro e w3 ⟨rfl, hb3⟩
      skip
      refine ⟨_, rfl, hb3, fun kb3 _ bb3 => wV rfl ?_⟩
      (repeat (first | refine wN ?_ | refine wP rfl ?_ | refine cx_r rfl ?_ | refine cx_d (by kernel_rfl) rfl ?_ | refine wO rfl rfl ?_))
      refine VS.condY rfl (decide_eq_true hgt) ?_
      (repeat (first | refine wN ?_ | refine wP rfl ?_ | refine cx_r rfl ?_ | refine cx_d (by kernel_rfl) rfl ?_ | refine wO rfl rfl ?_))
      refine VO.call rfl rfl (fk Tryz.func69) (fun wa4 ka4 ba4 => (q04Neg_any _ _ kk wa4 ((q2.kp (by (with_reducible (repeat (first | assumption | exact kU _ | exact kR _ | refine kT ?_ (by assumption)))))).in hsa) (by omega)).mono ?_)
      rintro e w4 ⟨r4, rfl, q4, hb4⟩
      obtain ⟨s4, p4, n4, c4, t4, y4, m4, d4, rfl⟩ := q4.form
      refine ⟨_, rfl, hb4, fun kb4 _ bb4 => wV rfl ?_⟩
      (repeat (first | refine wN ?_ | refine wP rfl ?_ | refine cx_r rfl ?_ | refine cx_d (by kernel_rfl) rfl ?_ | refine wO rfl rfl ?_))
      refine VS.ret (cx_ok _ _) rfl rfl (fun wz kz bz => ?_)
      exact ⟨_, rfl, RatRd.cast (q4.kp (by (with_reducible (repeat (first | assumption | exact kU _ | exact kR _ | refine kT ?_ (by assumption)))))).rd (show (if rcmp tx ar > 0 then -ar else -tx) = -ar from if_pos hgt), bz⟩
    · refine VO.call rfl rfl (fk Tryz.func71) (fun wa3 ka3 ba3 => (q04Cmp_any _ _ tx ar kk kk wa3 ((q1.kp (by (with_reducible (repeat (first | assumption | exact kU _ | exact kR _ | refine kT ?_ (by assumption)))))).in hst) ((q2.kp (by (with_reducible (repeat (first | assumption | exact kU _ | exact kR _ | refine kT ?_ (by assumption)))))).in hsa) (by omega) (by omega)).mono ?_)
      rintro e w3 ⟨rfl, hb3⟩
      skip
      refine ⟨_, rfl, hb3, fun kb3 _ bb3 => wV rfl ?_⟩
      (repeat (first | refine wN ?_ | refine wP rfl ?_ | refine cx_r rfl ?_ | refine cx_d (by kernel_rfl) rfl ?_ | refine wO rfl rfl ?_))
      refine VS.condN rfl (decide_eq_false hgt) ?_
      (repeat (first | refine wN ?_ | refine wP rfl ?_ | refine cx_r rfl ?_ | refine cx_d (by kernel_rfl) rfl ?_ | refine wO rfl rfl ?_))
      refine VO.call rfl rfl (fk Tryz.func69) (fun wa4 ka4 ba4 => (q04Neg_any _ _ kk wa4 ((q1.kp (by (with_reducible (repeat (first | assumption | exact kU _ | exact kR _ | refine kT ?_ (by assumption)))))).in hst) (by omega)).mono ?_)
      rintro e w4 ⟨r4, rfl, q4, hb4⟩
      obtain ⟨s4, p4, n4, c4, t4, y4, m4, d4, rfl⟩ := q4.form
      refine ⟨_, rfl, hb4, fun kb4 _ bb4 => wV rfl ?_⟩
      (repeat (first | refine wN ?_ | refine wP rfl ?_ | refine cx_r rfl ?_ | refine cx_d (by kernel_rfl) rfl ?_ | refine wO rfl rfl ?_))
      refine VS.ret (cx_ok _ _) rfl rfl (fun wz kz bz => ?_)
      exact ⟨_, rfl, RatRd.cast (q4.kp (by (with_reducible (repeat (first | assumption | exact kU _ | exact kR _ | refine kT ?_ (by assumption)))))).rd (show (if rcmp tx ar > 0 then -ar else -tx) = -tx from if_neg hgt), bz⟩
  · (repeat (first | refine wN ?_ | refine wP rfl ?_ | refine cx_r rfl ?_ | refine cx_d (by kernel_rfl) rfl ?_ | refine wO rfl rfl ?_))
    refine VS.fix 13 rfl (congrArg (fun b => AV.val (.bool b)) (show ((kd : Int) == 1) = false by rw [beq_eq_false_iff_ne]; omega)) ?_
    (repeat (first | refine wN ?_ | refine wP rfl ?_ | refine cx_r rfl ?_ | refine cx_d (by kernel_rfl) rfl ?_ | refine wO rfl rfl ?_))
    refine VS.fix 13 rfl (congrArg (fun b => AV.val (.bool b)) (show ((kd : Int) == 10) = false by rw [beq_eq_false_iff_ne]; omega)) ?_
    (repeat (first | refine wN ?_ | refine wP rfl ?_ | refine cx_r rfl ?_ | refine cx_d (by kernel_rfl) rfl ?_ | refine wO rfl rfl ?_))
    refine VS.fix 17 rfl (congrArg (fun b => AV.val (.bool b)) (show ((kd : Int) == 2) = false by rw [beq_eq_false_iff_ne]; omega)) ?_
    (repeat (first | refine wN ?_ | refine wP rfl ?_ | refine cx_r rfl ?_ | refine cx_d (by kernel_rfl) rfl ?_ | refine wO rfl rfl ?_))
    refine VS.fix 17 rfl (congrArg (fun b => AV.val (.bool b)) (show ((kd : Int) == 7) = false by rw [beq_eq_false_iff_ne]; omega)) ?_
    (repeat (first | refine wN ?_ | refine wP rfl ?_ | refine cx_r rfl ?_ | refine cx_d (by kernel_rfl) rfl ?_ | refine wO rfl rfl ?_))
    refine VS.fix 22 rfl (congrArg (fun b => AV.val (.bool b)) (show ((kd : Int) == 4) = false by rw [beq_eq_false_iff_ne]; omega)) ?_
    (repeat (first | refine wN ?_ | refine wP rfl ?_ | refine cx_r rfl ?_ | refine cx_d (by kernel_rfl) rfl ?_ | refine wO rfl rfl ?_))
    refine VS.fix 29 rfl (congrArg (fun b => AV.val (.bool b)) (show ((kd : Int) == 5) = false by rw [beq_eq_false_iff_ne]; omega)) ?_
    (repeat (first | refine wN ?_ | refine wP rfl ?_ | refine cx_r rfl ?_ | refine cx_d (by kernel_rfl) rfl ?_ | refine wO rfl rfl ?_))
    refine VO.call rfl rfl (fk Tryz.func34) (fun wa3 ka3 ba3 => (qzero_any wa3).mono ?_)
    rintro e w3 ⟨r3, rfl, q3, hb3⟩
    obtain ⟨s3, p3, n3, c3, t3, y3, m3, d3, rfl⟩ := q3.form
    refine ⟨_, rfl, hb3, fun kb3 _ bb3 => wV rfl ?_⟩
    (repeat (first | refine wN ?_ | refine wP rfl ?_ | refine cx_r rfl ?_ | refine cx_d (by kernel_rfl) rfl ?_ | refine wO rfl rfl ?_))
    have e : baseP kd tx ar = 0 := by unfold baseP; rw [if_neg (by omega), if_neg (by omega), if_neg (by omega), if_neg (by omega), if_neg (by omega), if_neg (by omega)]
    refine VS.ret (cx_ok _ _) rfl rfl (fun wz kz bz => ?_)
    exact ⟨_, rfl, RatRd.cast (q3.kp (by (with_reducible (repeat (first | assumption | exact kU _ | exact kR _ | refine kT ?_ (by assumption)))))).rd (e), bz⟩
theorem qdep_any (v : Value) (x : Itm) (kk : Nat) (w : World) (hv : ItmV kk w v x) (hk1 : 1 ≤ kk) (hkk : kk ≤ 1000000) :
    Calls Tryz.prog 38 #[v] w fun e w' => ∃ r, e = .returned r ∧ RatRd w' r (depP x.1 x.2.2) ∧ Beh w w' := by
  obtain ⟨cs, rfl, s9a, p9a, n9a, c9a, t9a, y9a, m9a, d9a, s9b, p9b, n9b, c9b, t9b, y9b, m9b, d9b, rfl, hkd, hAr, hTo⟩ := hv
  obtain ⟨kd, ar, tx⟩ := x
  replace hAr : RatIn w (.agg #[.bool s9a, .slice p9a n9a c9a, .bool t9a, .slice y9a m9a d9a]) ar kk := hAr
  replace hTo : RatIn w (.agg #[.bool s9b, .slice p9b n9b c9b, .bool t9b, .slice y9b m9b d9b]) tx kk := hTo
  have hst := hTo.sz hk1
  have hsa := hAr.sz hk1
  refine calm_enter (C := cxOf Tryz.prog w _) (args := [.agg #[.int .u8 (kd : Int), .bool s9a, .slice p9a n9a c9a, .bool t9a, .slice y9a m9a d9a, .bool s9b, .slice p9b n9b c9b, .bool t9b, .slice y9b m9b d9b]]) Tryz.func38 rfl Tryz.ntmps38 (Nat.le_of_ble_eq_true rfl) ?_
  (repeat (first | refine wN ?_ | refine wP rfl ?_ | refine cx_r rfl ?_ | refine cx_d (by kernel_rfl) rfl ?_ | refine wO rfl rfl ?_))
  by_cases h7 : kd = 7
  · subst h7
    (repeat (first | refine wN ?_ | refine wP rfl ?_ | refine cx_r rfl ?_ | refine cx_d (by kernel_rfl) rfl ?_ | refine wO rfl rfl ?_))
    refine VO.call rfl rfl (fk Tryz.func64) (fun wa1 ka1 ba1 => (q04Plain_any _ tx kk wa1 (hTo.kp (Kp.of (U := UU) ba1)) (by omega)).mono ?_)
    rintro e w1 ⟨r1, rfl, q1, hb1⟩
    obtain ⟨s1, p1, n1, c1, t1, y1, m1, d1, rfl⟩ := q1.form
    refine ⟨_, rfl, hb1, fun kb1 _ bb1 => wV rfl ?_⟩
    (repeat (first | refine wN ?_ | refine wP rfl ?_ | refine cx_r rfl ?_ | refine cx_d (by kernel_rfl) rfl ?_ | refine wO rfl rfl ?_))
    refine VS.ret (cx_ok _ _) rfl rfl (fun wz kz bz => ?_)
    exact ⟨_, rfl, RatRd.cast (q1.kp (by (with_reducible (repeat (first | assumption | exact kU _ | exact kR _ | refine kT ?_ (by assumption)))))).rd (rfl), bz⟩
  · refine VS.condN rfl (show ((kd : Int) == 7) = false by rw [beq_eq_false_iff_ne]; omega) ?_
    (repeat (first | refine wN ?_ | refine wP rfl ?_ | refine cx_r rfl ?_ | refine cx_d (by kernel_rfl) rfl ?_ | refine wO rfl rfl ?_))
    refine VO.call rfl rfl (fk Tryz.func34) (fun wa1 ka1 ba1 => (qzero_any wa1).mono ?_)
    rintro e w1 ⟨r1, rfl, q1, hb1⟩
    obtain ⟨s1, p1, n1, c1, t1, y1, m1, d1, rfl⟩ := q1.form
    refine ⟨_, rfl, hb1, fun kb1 _ bb1 => wV rfl ?_⟩
    (repeat (first | refine wN ?_ | refine wP rfl ?_ | refine cx_r rfl ?_ | refine cx_d (by kernel_rfl) rfl ?_ | refine wO rfl rfl ?_))
    refine VS.ret (cx_ok _ _) rfl rfl (fun wz kz bz => ?_)
    exact ⟨_, rfl, RatRd.cast (q1.kp (by (with_reducible (repeat (first | assumption | exact kU _ | exact kR _ | refine kT ?_ (by assumption)))))).rd (if_neg h7), bz⟩
theorem qint_any (v : Value) (x : Itm) (kk : Nat) (w : World) (hv : ItmV kk w v x) (hk1 : 1 ≤ kk) (hkk : kk ≤ 1000000) :
    Calls Tryz.prog 39 #[v] w fun e w' => ∃ r, e = .returned r ∧ RatRd w' r (intP x.1 x.2.2) ∧ Beh w w' := by
  obtain ⟨cs, rfl, s9a, p9a, n9a, c9a, t9a, y9a, m9a, d9a, s9b, p9b, n9b, c9b, t9b, y9b, m9b, d9b, rfl, hkd, hAr, hTo⟩ := hv
  obtain ⟨kd, ar, tx⟩ := x
  replace hAr : RatIn w (.agg #[.bool s9a, .slice p9a n9a c9a, .bool t9a, .slice y9a m9a d9a]) ar kk := hAr
  replace hTo : RatIn w (.agg #[.bool s9b, .slice p9b n9b c9b, .bool t9b, .slice y9b m9b d9b]) tx kk := hTo
  have hst := hTo.sz hk1
  have hsa := hAr.sz hk1
  refine calm_enter (C := cxOf Tryz.prog w _) (args := [.agg #[.int .u8 (kd : Int), .bool s9a, .slice p9a n9a c9a, .bool t9a, .slice y9a m9a d9a, .bool s9b, .slice p9b n9b c9b, .bool t9b, .slice y9b m9b d9b]]) Tryz.func39 rfl Tryz.ntmps39 (Nat.le_of_ble_eq_true rfl) ?_
  (repeat (first | refine wN ?_ | refine wP rfl ?_ | refine cx_r rfl ?_ | refine cx_d (by kernel_rfl) rfl ?_ | refine wO rfl rfl ?_))
  by_cases h8 : kd = 8
  · subst h8
    (repeat (first | refine wN ?_ | refine wP rfl ?_ | refine cx_r rfl ?_ | refine cx_d (by kernel_rfl) rfl ?_ | refine wO rfl rfl ?_))
    refine VO.call rfl rfl (fk Tryz.func64) (fun wa1 ka1 ba1 => (q04Plain_any _ tx kk wa1 (hTo.kp (Kp.of (U := UU) ba1)) (by omega)).mono ?_)
    rintro e w1 ⟨r1, rfl, q1, hb1⟩
    obtain ⟨s1, p1, n1, c1, t1, y1, m1, d1, rfl⟩ := q1.form
    refine ⟨_, rfl, hb1, fun kb1 _ bb1 => wV rfl ?_⟩
    (repeat (first | refine wN ?_ | refine wP rfl ?_ | refine cx_r rfl ?_ | refine cx_d (by kernel_rfl) rfl ?_ | refine wO rfl rfl ?_))
    refine VO.call rfl rfl (fk Tryz.func69) (fun wa2 ka2 ba2 => (q04Neg_any _ _ kk wa2 ((q1.kp (by (with_reducible (repeat (first | assumption | exact kU _ | exact kR _ | refine kT ?_ (by assumption)))))).in hst) (by omega)).mono ?_)
    rintro e w2 ⟨r2, rfl, q2, hb2⟩
    obtain ⟨s2, p2, n2, c2, t2, y2, m2, d2, rfl⟩ := q2.form
    refine ⟨_, rfl, hb2, fun kb2 _ bb2 => wV rfl ?_⟩
    (repeat (first | refine wN ?_ | refine wP rfl ?_ | refine cx_r rfl ?_ | refine cx_d (by kernel_rfl) rfl ?_ | refine wO rfl rfl ?_))
    refine VS.ret (cx_ok _ _) rfl rfl (fun wz kz bz => ?_)
    exact ⟨_, rfl, RatRd.cast (q2.kp (by (with_reducible (repeat (first | assumption | exact kU _ | exact kR _ | refine kT ?_ (by assumption)))))).rd (rfl), bz⟩
  · refine VS.fix 5 rfl (congrArg (fun b => AV.val (.bool b)) (show ((kd : Int) == 8) = false by rw [beq_eq_false_iff_ne]; omega)) ?_
    (repeat (first | refine wN ?_ | refine wP rfl ?_ | refine cx_r rfl ?_ | refine cx_d (by kernel_rfl) rfl ?_ | refine wO rfl rfl ?_))
    by_cases h9 : kd = 9
    · subst h9
      (repeat (first | refine wN ?_ | refine wP rfl ?_ | refine cx_r rfl ?_ | refine cx_d (by kernel_rfl) rfl ?_ | refine wO rfl rfl ?_))
      refine VO.call rfl rfl (fk Tryz.func64) (fun wa1 ka1 ba1 => (q04Plain_any _ tx kk wa1 (hTo.kp (Kp.of (U := UU) ba1)) (by omega)).mono ?_)
      rintro e w1 ⟨r1, rfl, q1, hb1⟩
      obtain ⟨s1, p1, n1, c1, t1, y1, m1, d1, rfl⟩ := q1.form
      refine ⟨_, rfl, hb1, fun kb1 _ bb1 => wV rfl ?_⟩
      (repeat (first | refine wN ?_ | refine wP rfl ?_ | refine cx_r rfl ?_ | refine cx_d (by kernel_rfl) rfl ?_ | refine wO rfl rfl ?_))
      refine VS.ret (cx_ok _ _) rfl rfl (fun wz kz bz => ?_)
      exact ⟨_, rfl, RatRd.cast (q1.kp (by (with_reducible (repeat (first | assumption | exact kU _ | exact kR _ | refine kT ?_ (by assumption)))))).rd (rfl), bz⟩
    · refine VS.fix 11 rfl (congrArg (fun b => AV.val (.bool b)) (show ((kd : Int) == 9) = false by rw [beq_eq_false_iff_ne]; omega)) ?_
      (repeat (first | refine wN ?_ | refine wP rfl ?_ | refine cx_r rfl ?_ | refine cx_d (by kernel_rfl) rfl ?_ | refine wO rfl rfl ?_))
      refine VO.call rfl rfl (fk Tryz.func34) (fun wa1 ka1 ba1 => (qzero_any wa1).mono ?_)
      rintro e w1 ⟨r1, rfl, q1, hb1⟩
      obtain ⟨s1, p1, n1, c1, t1, y1, m1, d1, rfl⟩ := q1.form
      refine ⟨_, rfl, hb1, fun kb1 _ bb1 => wV rfl ?_⟩
      (repeat (first | refine wN ?_ | refine wP rfl ?_ | refine cx_r rfl ?_ | refine cx_d (by kernel_rfl) rfl ?_ | refine wO rfl rfl ?_))
      refine VS.ret (cx_ok _ _) rfl rfl (fun wz kz bz => ?_)
      exact ⟨_, rfl, RatRd.cast (q1.kp (by (with_reducible (repeat (first | assumption | exact kU _ | exact kR _ | refine kT ?_ (by assumption)))))).rd ((if_neg h8).trans (if_neg h9)), bz⟩
set_option maxRecDepth 4000 in
set_option maxHeartbeats 2000000 in
theorem qOf17_any (v : Value) (l : List Itm) (kk : Nat) (w : World) (hv : SlIn (ItmE kk) 9 w v l) (hk1 : 1 ≤ kk) (hkk : kk ≤ 1000000) (hsz : ruleSz kk l.length ≤ 30000000) :
    Calls Tryz.prog 10 #[v] w fun e w' => ∃ r, e = .returned r ∧ PtRd w' r (rulesOf l) ∧ Beh w w' := by
  obtain ⟨p, c, rfl, hnc, hcm⟩ := hv.form
  have hszs := slin_sz hv hk1
  obtain ⟨N, hN⟩ : ∃ N, N = l.length := ⟨_, rfl⟩
  rw [← hN] at hv hnc hsz ⊢
  refine calm_enter (C := cxOf Tryz.prog w _) (args := [_]) Tryz.func10 rfl Tryz.ntmps10 (Nat.le_of_ble_eq_true rfl) ?_
  (repeat (first | refine wN ?_ | refine wP rfl ?_ | refine cx_r rfl ?_ | refine cx_d (by kernel_rfl) rfl ?_ | refine wO rfl rfl ?_))
  refine VO.call rfl rfl (fk Tryz.func34) (fun wa1 ka1 ba1 => (qzero_any wa1).mono ?_)
  rintro e w1 ⟨r1, rfl, q1, hb1⟩
  obtain ⟨s1, p1, n1, c1, t1, y1, m1, d1, rfl⟩ := q1.form
  refine ⟨_, rfl, hb1, fun kb1 _ bb1 => wV rfl ?_⟩
  (repeat (first | refine wN ?_ | refine wP rfl ?_ | refine cx_r rfl ?_ | refine cx_d (by kernel_rfl) rfl ?_ | refine wO rfl rfl ?_))
  refine VO.call rfl rfl (fk Tryz.func34) (fun wa2 ka2 ba2 => (qzero_any wa2).mono ?_)
  rintro e w2 ⟨r2, rfl, q2, hb2⟩
  obtain ⟨s2, p2, n2, c2, t2, y2, m2, d2, rfl⟩ := q2.form
  refine ⟨_, rfl, hb2, fun kb2 _ bb2 => wV rfl ?_⟩
  (repeat (first | refine wN ?_ | refine wP rfl ?_ | refine cx_r rfl ?_ | refine cx_d (by kernel_rfl) rfl ?_ | refine wO rfl rfl ?_))
  refine VO.call rfl rfl (fk Tryz.func34) (fun wa3 ka3 ba3 => (qzero_any wa3).mono ?_)
  rintro e w3 ⟨r3, rfl, q3, hb3⟩
  obtain ⟨s3, p3, n3, c3, t3, y3, m3, d3, rfl⟩ := q3.form
  refine ⟨_, rfl, hb3, fun kb3 _ bb3 => wV rfl ?_⟩
  (repeat (first | refine wN ?_ | refine wP rfl ?_ | refine cx_r rfl ?_ | refine cx_d (by kernel_rfl) rfl ?_ | refine wO rfl rfl ?_))
  refine VO.call rfl rfl (fk Tryz.func34) (fun wa4 ka4 ba4 => (qzero_any wa4).mono ?_)
  rintro e w4 ⟨r4, rfl, q4, hb4⟩
  obtain ⟨s4, p4, n4, c4, t4, y4, m4, d4, rfl⟩ := q4.form
  refine ⟨_, rfl, hb4, fun kb4 _ bb4 => wV rfl ?_⟩
  (repeat (first | refine wN ?_ | refine wP rfl ?_ | refine cx_r rfl ?_ | refine cx_d (by kernel_rfl) rfl ?_ | refine wO rfl rfl ?_))
  refine VS.loop (J := fun m L M w' => ∃ (z : Nat) (cs : List Value), z ≤ N ∧ m = N - z ∧ L = [(0, .val (.slice p N c)), (2, .box 2 0), (3, .box 3 0), (4, .val (.int .i64 (z : Int)))] ∧
    M = [(2, (31, ([.bool false, .slice none 0 0, .bool false, .slice none 0 0, .bool false, .slice none 0 0, .bool false, .slice none 0 0, .bool false, .slice none 0 0, .bool false, .slice none 0 0, .bool false, .slice none 0 0, .bool false, .slice none 0 0] : List Value).map .val)), (3, (31, cs.map .val))] ∧ PtRd w' (.agg cs.toArray) (rulesOf (l.take z))) N
    ⟨_, _, ?_, ?_, ?_, ?_, ⟨0, [.bool s1, .slice p1 n1 c1, .bool t1, .slice y1 m1 d1, .bool s2, .slice p2 n2 c2, .bool t2, .slice y2 m2 d2, .bool s3, .slice p3 n3 c3, .bool t3, .slice y3 m3 d3, .bool s4, .slice p4 n4 c4, .bool t4, .slice y4 m4 d4], by omega, rfl, rfl, rfl, PtRd.mk (q1.kp (by (with_reducible (repeat (first | assumption | exact kU _ | exact kR _ | refine kT ?_ (by assumption)))))).rd (q2.kp (by (with_reducible (repeat (first | assumption | exact kU _ | exact kR _ | refine kT ?_ (by assumption)))))).rd (q3.kp (by (with_reducible (repeat (first | assumption | exact kU _ | exact kR _ | refine kT ?_ (by assumption)))))).rd q4.rd⟩⟩ ?_
  · (repeat (first | exact trivial | refine ⟨rfl, ?_⟩))
  · (repeat (first | exact trivial | refine ⟨rfl, ?_⟩))
  · rfl
  · (repeat (first | exact trivial | refine ⟨ClosedC.lit rfl, ?_⟩ | refine ⟨ClosedC.vals _, ?_⟩))
  rintro m L M wJ ⟨z, cs, hz, rfl, rfl, rfl, hpt⟩
  have hpt0 := hpt
  obtain ⟨s8a, p8a, n8a, c8a, t8a, y8a, m8a, d8a, s8b, p8b, n8b, c8b, t8b, y8b, m8b, d8b, s8c, p8c, n8c, c8c, t8c, y8c, m8c, d8c, s8d, p8d, n8d, c8d, t8d, y8d, m8d, d8d, hcs, q8A, q8B, q8C, q8D⟩ := hpt0
  obtain rfl := agg_list hcs
  (repeat (first | refine wN ?_ | refine wP rfl ?_ | refine cx_r rfl ?_ | refine cx_d (by kernel_rfl) rfl ?_ | refine wO rfl rfl ?_))
  by_cases hlt : z < N
  · obtain ⟨x, hx⟩ : ∃ x, l[z]? = some x := ⟨_, List.getElem?_eq_getElem (by omega)⟩
    obtain ⟨b, off, cs', rfl, hc, he⟩ := hv.at hx
    have hitm := he
    obtain ⟨s9a, p9a, n9a, c9a, t9a, y9a, m9a, d9a, s9b, p9b, n9b, c9b, t9b, y9b, m9b, d9b, rfl, _⟩ := he
    obtain ⟨kd, ar, tx⟩ := x
    obtain ⟨hsa, hst⟩ := hszs _ (List.mem_of_getElem? hx)
    have hst : RSz tx kk := hst
    have hsa : RSz ar kk := hsa
    have hrs := rule_sz (k := kd) hst hsa hk1
    have hpsz : PSz (rulesOf (l.take z)) (ruleSz kk N) := (rulesOf_sz hk1 (l.take z) (fun y hy => hszs y (List.mem_of_mem_take hy))).mono (ruleSz_le (by rw [List.length_take]; omega))
    refine VS.condY rfl (decide_eq_true (Int.ofNat_lt.2 hlt)) ?_
    (repeat (first | refine wN ?_ | refine wP rfl ?_ | refine cx_r rfl ?_ | refine cx_d (by kernel_rfl) rfl ?_ | refine wO rfl rfl ?_))
    refine VO.cond rfl ⟨by omega, by omega⟩ (wV rfl ?_)
    refine VO.read rfl [.int .u8 (kd : Int), .bool s9a, .slice p9a n9a c9a, .bool t9a, .slice y9a m9a d9a, .bool s9b, .slice p9b n9b c9b, .bool t9b, .slice y9b m9b d9b] rfl (fun j u hj => by rw [Addr.add_mid, Int.toNat_natCast]; exact hc j u hj) (wV rfl ?_)
    refine VO.call rfl rfl (fk Tryz.func36) (fun wa11 ka11 ba11 => (qbook_any _ (kd, ar, tx) kk wa11 ⟨_, rfl, (itm_ok kk).kp hitm (Kp.of (U := UU) ba11)⟩ hk1 hkk).mono ?_)
    rintro e w11 ⟨r11, rfl, q11, hb11⟩
    obtain ⟨s11, p11, n11, c11, t11, y11, m11, d11, rfl⟩ := q11.form
    refine ⟨_, rfl, hb11, fun kb11 _ bb11 => wV rfl ?_⟩
    (repeat (first | refine wN ?_ | refine wP rfl ?_ | refine cx_r rfl ?_ | refine cx_d (by kernel_rfl) rfl ?_ | refine wO rfl rfl ?_))
    refine VO.call rfl rfl (fk Tryz.func35) (fun wa12 ka12 ba12 => (q04Add_any _ _ _ _ (ruleSz kk N) (3 * kk + 1) wa12 ((q8A.kp (by (with_reducible (repeat (first | assumption | exact kU _ | exact kR _ | refine kT ?_ (by assumption)))))).to hpsz.b) ((q11.kp (by (with_reducible (repeat (first | assumption | exact kU _ | exact kR _ | refine kT ?_ (by assumption)))))).to hrs.b) (by omega) (by omega)).mono ?_)
    rintro e w12 ⟨r12, rfl, q12, hb12⟩
    obtain ⟨s12, p12, n12, c12, t12, y12, m12, d12, rfl⟩ := q12.form
    refine ⟨_, rfl, hb12, fun kb12 _ bb12 => wV rfl ?_⟩
    (repeat (first | refine wN ?_ | refine wP rfl ?_ | refine cx_r rfl ?_ | refine cx_d (by kernel_rfl) rfl ?_ | refine wO rfl rfl ?_))
    refine VO.cond rfl ⟨by omega, by omega⟩ (wV rfl ?_)
    refine VO.read rfl [.int .u8 (kd : Int), .bool s9a, .slice p9a n9a c9a, .bool t9a, .slice y9a m9a d9a, .bool s9b, .slice p9b n9b c9b, .bool t9b, .slice y9b m9b d9b] rfl (fun j u hj => by rw [Addr.add_mid, Int.toNat_natCast]; exact hc j u hj) (wV rfl ?_)
    refine VO.call rfl rfl (fk Tryz.func37) (fun wa13 ka13 ba13 => (qbase_any _ (kd, ar, tx) kk wa13 ⟨_, rfl, (itm_ok kk).kp hitm (Kp.of (U := UU) ba13)⟩ hk1 hkk).mono ?_)
    rintro e w13 ⟨r13, rfl, q13, hb13⟩
    obtain ⟨s13, p13, n13, c13, t13, y13, m13, d13, rfl⟩ := q13.form
    refine ⟨_, rfl, hb13, fun kb13 _ bb13 => wV rfl ?_⟩
    (repeat (first | refine wN ?_ | refine wP rfl ?_ | refine cx_r rfl ?_ | refine cx_d (by kernel_rfl) rfl ?_ | refine wO rfl rfl ?_))
    refine VO.call rfl rfl (fk Tryz.func35) (fun wa14 ka14 ba14 => (q04Add_any _ _ _ _ (ruleSz kk N) (3 * kk + 1) wa14 ((q8B.kp (by (with_reducible (repeat (first | assumption | exact kU _ | exact kR _ | refine kT ?_ (by assumption)))))).to hpsz.s) ((q13.kp (by (with_reducible (repeat (first | assumption | exact kU _ | exact kR _ | refine kT ?_ (by assumption)))))).to hrs.s) (by omega) (by omega)).mono ?_)
    rintro e w14 ⟨r14, rfl, q14, hb14⟩
    obtain ⟨s14, p14, n14, c14, t14, y14, m14, d14, rfl⟩ := q14.form
    refine ⟨_, rfl, hb14, fun kb14 _ bb14 => wV rfl ?_⟩
    (repeat (first | refine wN ?_ | refine wP rfl ?_ | refine cx_r rfl ?_ | refine cx_d (by kernel_rfl) rfl ?_ | refine wO rfl rfl ?_))
    refine VO.cond rfl ⟨by omega, by omega⟩ (wV rfl ?_)
    refine VO.read rfl [.int .u8 (kd : Int), .bool s9a, .slice p9a n9a c9a, .bool t9a, .slice y9a m9a d9a, .bool s9b, .slice p9b n9b c9b, .bool t9b, .slice y9b m9b d9b] rfl (fun j u hj => by rw [Addr.add_mid, Int.toNat_natCast]; exact hc j u hj) (wV rfl ?_)
    refine VO.call rfl rfl (fk Tryz.func38) (fun wa15 ka15 ba15 => (qdep_any _ (kd, ar, tx) kk wa15 ⟨_, rfl, (itm_ok kk).kp hitm (Kp.of (U := UU) ba15)⟩ hk1 hkk).mono ?_)
    rintro e w15 ⟨r15, rfl, q15, hb15⟩
    obtain ⟨s15, p15, n15, c15, t15, y15, m15, d15, rfl⟩ := q15.form
    refine ⟨_, rfl, hb15, fun kb15 _ bb15 => wV rfl ?_⟩
    (repeat (first | refine wN ?_ | refine wP rfl ?_ | refine cx_r rfl ?_ | refine cx_d (by kernel_rfl) rfl ?_ | refine wO rfl rfl ?_))
    refine VO.call rfl rfl (fk Tryz.func35) (fun wa16 ka16 ba16 => (q04Add_any _ _ _ _ (ruleSz kk N) (3 * kk + 1) wa16 ((q8C.kp (by (with_reducible (repeat (first | assumption | exact kU _ | exact kR _ | refine kT ?_ (by assumption)))))).to hpsz.d) ((q15.kp (by (with_reducible (repeat (first | assumption | exact kU _ | exact kR _ | refine kT ?_ (by assumption)))))).to hrs.d) (by omega) (by omega)).mono ?_)
    rintro e w16 ⟨r16, rfl, q16, hb16⟩
    obtain ⟨s16, p16, n16, c16, t16, y16, m16, d16, rfl⟩ := q16.form
    refine ⟨_, rfl, hb16, fun kb16 _ bb16 => wV rfl ?_⟩
    (repeat (first | refine wN ?_ | refine wP rfl ?_ | refine cx_r rfl ?_ | refine cx_d (by kernel_rfl) rfl ?_ | refine wO rfl rfl ?_))
    refine VO.cond rfl ⟨by omega, by omega⟩ (wV rfl ?_)
    refine VO.read rfl [.int .u8 (kd : Int), .bool s9a, .slice p9a n9a c9a, .bool t9a, .slice y9a m9a d9a, .bool s9b, .slice p9b n9b c9b, .bool t9b, .slice y9b m9b d9b] rfl (fun j u hj => by rw [Addr.add_mid, Int.toNat_natCast]; exact hc j u hj) (wV rfl ?_)
    refine VO.call rfl rfl (fk Tryz.func39) (fun wa17 ka17 ba17 => (qint_any _ (kd, ar, tx) kk wa17 ⟨_, rfl, (itm_ok kk).kp hitm (Kp.of (U := UU) ba17)⟩ hk1 hkk).mono ?_)
    rintro e w17 ⟨r17, rfl, q17, hb17⟩
    obtain ⟨s17, p17, n17, c17, t17, y17, m17, d17, rfl⟩ := q17.form
    refine ⟨_, rfl, hb17, fun kb17 _ bb17 => wV rfl ?_⟩
    (repeat (first | refine wN ?_ | refine wP rfl ?_ | refine cx_r rfl ?_ | refine cx_d (by kernel_rfl) rfl ?_ | refine wO rfl rfl ?_))
    refine VO.call rfl rfl (fk Tryz.func35) (fun wa18 ka18 ba18 => (q04Add_any _ _ _ _ (ruleSz kk N) (3 * kk + 1) wa18 ((q8D.kp (by (with_reducible (repeat (first | assumption | exact kU _ | exact kR _ | refine kT ?_ (by assumption)))))).to hpsz.i) ((q17.kp (by (with_reducible (repeat (first | assumption | exact kU _ | exact kR _ | refine kT ?_ (by assumption)))))).to hrs.i) (by omega) (by omega)).mono ?_)
    rintro e w18 ⟨r18, rfl, q18, hb18⟩
    obtain ⟨s18, p18, n18, c18, t18, y18, m18, d18, rfl⟩ := q18.form
    refine ⟨_, rfl, hb18, fun kb18 _ bb18 => wV rfl ?_⟩
    (repeat (first | refine wN ?_ | refine wP rfl ?_ | refine cx_r rfl ?_ | refine cx_d (by kernel_rfl) rfl ?_ | refine wO rfl rfl ?_))
    refine VS.back (N - (z + 1)) (by omega) ⟨_, _, ?_, ?_, ?_, ?_, ⟨z + 1, [.bool s12, .slice p12 n12 c12, .bool t12, .slice y12 m12 d12, .bool s14, .slice p14 n14 c14, .bool t14, .slice y14 m14 d14, .bool s16, .slice p16 n16 c16, .bool t16, .slice y16 m16 d16, .bool s18, .slice p18 n18 c18, .bool t18, .slice y18 m18 d18], by omega, rfl, rfl, rfl, (PtRd.mk (q12.kp (by (with_reducible (repeat (first | assumption | exact kU _ | exact kR _ | refine kT ?_ (by assumption)))))).rd (q14.kp (by (with_reducible (repeat (first | assumption | exact kU _ | exact kR _ | refine kT ?_ (by assumption)))))).rd (q16.kp (by (with_reducible (repeat (first | assumption | exact kU _ | exact kR _ | refine kT ?_ (by assumption)))))).rd (q18.kp (by (with_reducible (repeat (first | assumption | exact kU _ | exact kR _ | refine kT ?_ (by assumption)))))).rd).cast (rulesOf_take hx).symm⟩⟩
    · refine ⟨rfl, rfl, rfl, ?_, trivial⟩
      rw [← nat_step (by omega)]; rfl
    · (repeat (first | exact trivial | refine ⟨rfl, ?_⟩))
    · rfl
    · (repeat (first | exact trivial | refine ⟨ClosedC.lit rfl, ?_⟩ | refine ⟨ClosedC.vals _, ?_⟩))
  · refine VS.condN rfl (decide_eq_false (fun e => hlt (Int.ofNat_lt.1 e))) ?_
    obtain rfl : z = N := by omega
    (repeat (first | refine wN ?_ | refine wP rfl ?_ | refine cx_r rfl ?_ | refine cx_d (by kernel_rfl) rfl ?_ | refine wO rfl rfl ?_))
    refine VS.ret (cx_ok _ _) rfl rfl (fun wz kz bz => ?_)
    exact ⟨_, rfl, (hpt.kp kz).cast (by rw [List.take_of_length_le (by omega)]), bz⟩
set_option maxRecDepth 4000 in
set_option maxHeartbeats 2000000 in
theorem qSum17_any (v : Value) (l : List Pt) (kk : Nat) (w : World) (hv : SlIn (PtE kk) 16 w v l) (hk1 : 1 ≤ kk) (hkk : kk ≤ 1000000) (hsz : sumSz kk l.length ≤ 30000000) :
    Calls Tryz.prog 28 #[v] w fun e w' => ∃ r, e = .returned r ∧ PtRd w' r (psum l) ∧ Beh w w' := by
  obtain ⟨p, c, rfl, hnc, hcm⟩ := hv.form
  have hszs := slpt_sz hv hk1
  obtain ⟨N, hN⟩ : ∃ N, N = l.length := ⟨_, rfl⟩
  rw [← hN] at hv hnc hsz ⊢
  refine calm_enter (C := cxOf Tryz.prog w _) (args := [_]) Tryz.func28 rfl Tryz.ntmps28 (Nat.le_of_ble_eq_true rfl) ?_
  (repeat (first | refine wN ?_ | refine wP rfl ?_ | refine cx_r rfl ?_ | refine cx_d (by kernel_rfl) rfl ?_ | refine wO rfl rfl ?_))
  refine VO.call rfl rfl (fk Tryz.func34) (fun wa1 ka1 ba1 => (qzero_any wa1).mono ?_)
  rintro e w1 ⟨r1, rfl, q1, hb1⟩
  obtain ⟨s1, p1, n1, c1, t1, y1, m1, d1, rfl⟩ := q1.form
  refine ⟨_, rfl, hb1, fun kb1 _ bb1 => wV rfl ?_⟩
  (repeat (first | refine wN ?_ | refine wP rfl ?_ | refine cx_r rfl ?_ | refine cx_d (by kernel_rfl) rfl ?_ | refine wO rfl rfl ?_))
  refine VO.call rfl rfl (fk Tryz.func34) (fun wa2 ka2 ba2 => (qzero_any wa2).mono ?_)
  rintro e w2 ⟨r2, rfl, q2, hb2⟩
  obtain ⟨s2, p2, n2, c2, t2, y2, m2, d2, rfl⟩ := q2.form
  refine ⟨_, rfl, hb2, fun kb2 _ bb2 => wV rfl ?_⟩
  (repeat (first | refine wN ?_ | refine wP rfl ?_ | refine cx_r rfl ?_ | refine cx_d (by kernel_rfl) rfl ?_ | refine wO rfl rfl ?_))
  refine VO.call rfl rfl (fk Tryz.func34) (fun wa3 ka3 ba3 => (qzero_any wa3).mono ?_)
  rintro e w3 ⟨r3, rfl, q3, hb3⟩
  obtain ⟨s3, p3, n3, c3, t3, y3, m3, d3, rfl⟩ := q3.form
  refine ⟨_, rfl, hb3, fun kb3 _ bb3 => wV rfl ?_⟩
  (repeat (first | refine wN ?_ | refine wP rfl ?_ | refine cx_r rfl ?_ | refine cx_d (by kernel_rfl) rfl ?_ | refine wO rfl rfl ?_))
  refine VO.call rfl rfl (fk Tryz.func34) (fun wa4 ka4 ba4 => (qzero_any wa4).mono ?_)
  rintro e w4 ⟨r4, rfl, q4, hb4⟩
  obtain ⟨s4, p4, n4, c4, t4, y4, m4, d4, rfl⟩ := q4.form
  refine ⟨_, rfl, hb4, fun kb4 _ bb4 => wV rfl ?_⟩
  (repeat (first | refine wN ?_ | refine wP rfl ?_ | refine cx_r rfl ?_ | refine cx_d (by kernel_rfl) rfl ?_ | refine wO rfl rfl ?_))
  refine VS.loop (J := fun m L M w' => ∃ (z : Nat) (cs : List Value), z ≤ N ∧ m = N - z ∧ L = [(0, .val (.slice p N c)), (2, .box 2 0), (3, .box 3 0), (4, .val (.int .i64 (z : Int)))] ∧
    M = [(2, (31, ([.bool false, .slice none 0 0, .bool false, .slice none 0 0, .bool false, .slice none 0 0, .bool false, .slice none 0 0, .bool false, .slice none 0 0, .bool false, .slice none 0 0, .bool false, .slice none 0 0, .bool false, .slice none 0 0] : List Value).map .val)), (3, (31, cs.map .val))] ∧ PtRd w' (.agg cs.toArray) (psum (l.take z))) N
    ⟨_, _, ?_, ?_, ?_, ?_, ⟨0, [.bool s1, .slice p1 n1 c1, .bool t1, .slice y1 m1 d1, .bool s2, .slice p2 n2 c2, .bool t2, .slice y2 m2 d2, .bool s3, .slice p3 n3 c3, .bool t3, .slice y3 m3 d3, .bool s4, .slice p4 n4 c4, .bool t4, .slice y4 m4 d4], by omega, rfl, rfl, rfl, PtRd.mk (q1.kp (by (with_reducible (repeat (first | assumption | exact kU _ | exact kR _ | refine kT ?_ (by assumption)))))).rd (q2.kp (by (with_reducible (repeat (first | assumption | exact kU _ | exact kR _ | refine kT ?_ (by assumption)))))).rd (q3.kp (by (with_reducible (repeat (first | assumption | exact kU _ | exact kR _ | refine kT ?_ (by assumption)))))).rd q4.rd⟩⟩ ?_
  · (repeat (first | exact trivial | refine ⟨rfl, ?_⟩))
  · (repeat (first | exact trivial | refine ⟨rfl, ?_⟩))
  · rfl
  · (repeat (first | exact trivial | refine ⟨ClosedC.lit rfl, ?_⟩ | refine ⟨ClosedC.vals _, ?_⟩))
  rintro m L M wJ ⟨z, cs, hz, rfl, rfl, rfl, hpt⟩
  have hpt0 := hpt
  obtain ⟨s8a, p8a, n8a, c8a, t8a, y8a, m8a, d8a, s8b, p8b, n8b, c8b, t8b, y8b, m8b, d8b, s8c, p8c, n8c, c8c, t8c, y8c, m8c, d8c, s8d, p8d, n8d, c8d, t8d, y8d, m8d, d8d, hcs, q8A, q8B, q8C, q8D⟩ := hpt0
  obtain rfl := agg_list hcs
  (repeat (first | refine wN ?_ | refine wP rfl ?_ | refine cx_r rfl ?_ | refine cx_d (by kernel_rfl) rfl ?_ | refine wO rfl rfl ?_))
  by_cases hlt : z < N
  · obtain ⟨x, hx⟩ : ∃ x, l[z]? = some x := ⟨_, List.getElem?_eq_getElem (by omega)⟩
    obtain ⟨b, off, cs', rfl, hc, he⟩ := hv.at hx
    obtain ⟨s9a, p9a, n9a, c9a, t9a, y9a, m9a, d9a, s9b, p9b, n9b, c9b, t9b, y9b, m9b, d9b, s9c, p9c, n9c, c9c, t9c, y9c, m9c, d9c, s9d, p9d, n9d, c9d, t9d, y9d, m9d, d9d, rfl, q9A, q9B, q9C, q9D⟩ := he.form
    have hpsz : PSz (psum (l.take z)) (sumSz kk N) := (psum_sz (l.take z) (fun y hy => hszs y (List.mem_of_mem_take hy))).mono (sumSz_le (by rw [List.length_take]; omega))
    refine VS.condY rfl (decide_eq_true (Int.ofNat_lt.2 hlt)) ?_
    (repeat (first | refine wN ?_ | refine wP rfl ?_ | refine cx_r rfl ?_ | refine cx_d (by kernel_rfl) rfl ?_ | refine wO rfl rfl ?_))
    refine VO.cond rfl ⟨by omega, by omega⟩ (wV rfl ?_)
    refine VO.read rfl [.bool s9a, .slice p9a n9a c9a, .bool t9a, .slice y9a m9a d9a] rfl (cells_sub (o := off + z * 16) hc 0 _ ⟨_, rfl⟩) (wV rfl ?_)
    refine VO.call rfl rfl (fk Tryz.func35) (fun wa12 ka12 ba12 => (q04Add_any _ _ _ _ (sumSz kk N) kk wa12 ((q8A.kp (by (with_reducible (repeat (first | assumption | exact kU _ | exact kR _ | refine kT ?_ (by assumption)))))).to hpsz.b) (q9A.kp (Kp.of (U := UU) ba12)) (by omega) (by omega)).mono ?_)
    rintro e w12 ⟨r12, rfl, q12, hb12⟩
    obtain ⟨s12, p12, n12, c12, t12, y12, m12, d12, rfl⟩ := q12.form
    refine ⟨_, rfl, hb12, fun kb12 _ bb12 => wV rfl ?_⟩
    (repeat (first | refine wN ?_ | refine wP rfl ?_ | refine cx_r rfl ?_ | refine cx_d (by kernel_rfl) rfl ?_ | refine wO rfl rfl ?_))
    refine VO.cond rfl ⟨by omega, by omega⟩ (wV rfl ?_)
    refine VO.read rfl [.bool s9b, .slice p9b n9b c9b, .bool t9b, .slice y9b m9b d9b] rfl (cells_sub (o := off + z * 16) hc 4 _ ⟨_, rfl⟩) (wV rfl ?_)
    refine VO.call rfl rfl (fk Tryz.func35) (fun wa14 ka14 ba14 => (q04Add_any _ _ _ _ (sumSz kk N) kk wa14 ((q8B.kp (by (with_reducible (repeat (first | assumption | exact kU _ | exact kR _ | refine kT ?_ (by assumption)))))).to hpsz.s) (q9B.kp (Kp.of (U := UU) ba14)) (by omega) (by omega)).mono ?_)
    rintro e w14 ⟨r14, rfl, q14, hb14⟩
    obtain ⟨s14, p14, n14, c14, t14, y14, m14, d14, rfl⟩ := q14.form
    refine ⟨_, rfl, hb14, fun kb14 _ bb14 => wV rfl ?_⟩
    (repeat (first | refine wN ?_ | refine wP rfl ?_ | refine cx_r rfl ?_ | refine cx_d (by kernel_rfl) rfl ?_ | refine wO rfl rfl ?_))
    refine VO.cond rfl ⟨by omega, by omega⟩ (wV rfl ?_)
    refine VO.read rfl [.bool s9c, .slice p9c n9c c9c, .bool t9c, .slice y9c m9c d9c] rfl (cells_sub (o := off + z * 16) hc 8 _ ⟨_, rfl⟩) (wV rfl ?_)
    refine VO.call rfl rfl (fk Tryz.func35) (fun wa16 ka16 ba16 => (q04Add_any _ _ _ _ (sumSz kk N) kk wa16 ((q8C.kp (by (with_reducible (repeat (first | assumption | exact kU _ | exact kR _ | refine kT ?_ (by assumption)))))).to hpsz.d) (q9C.kp (Kp.of (U := UU) ba16)) (by omega) (by omega)).mono ?_)
    rintro e w16 ⟨r16, rfl, q16, hb16⟩
    obtain ⟨s16, p16, n16, c16, t16, y16, m16, d16, rfl⟩ := q16.form
    refine ⟨_, rfl, hb16, fun kb16 _ bb16 => wV rfl ?_⟩
    (repeat (first | refine wN ?_ | refine wP rfl ?_ | refine cx_r rfl ?_ | refine cx_d (by kernel_rfl) rfl ?_ | refine wO rfl rfl ?_))
    refine VO.cond rfl ⟨by omega, by omega⟩ (wV rfl ?_)
    refine VO.read rfl [.bool s9d, .slice p9d n9d c9d, .bool t9d, .slice y9d m9d d9d] rfl (cells_sub (o := off + z * 16) hc 12 _ ⟨_, rfl⟩) (wV rfl ?_)
    refine VO.call rfl rfl (fk Tryz.func35) (fun wa18 ka18 ba18 => (q04Add_any _ _ _ _ (sumSz kk N) kk wa18 ((q8D.kp (by (with_reducible (repeat (first | assumption | exact kU _ | exact kR _ | refine kT ?_ (by assumption)))))).to hpsz.i) (q9D.kp (Kp.of (U := UU) ba18)) (by omega) (by omega)).mono ?_)
    rintro e w18 ⟨r18, rfl, q18, hb18⟩
    obtain ⟨s18, p18, n18, c18, t18, y18, m18, d18, rfl⟩ := q18.form
    refine ⟨_, rfl, hb18, fun kb18 _ bb18 => wV rfl ?_⟩
    (repeat (first | refine wN ?_ | refine wP rfl ?_ | refine cx_r rfl ?_ | refine cx_d (by kernel_rfl) rfl ?_ | refine wO rfl rfl ?_))
    refine VS.back (N - (z + 1)) (by omega) ⟨_, _, ?_, ?_, ?_, ?_, ⟨z + 1, [.bool s12, .slice p12 n12 c12, .bool t12, .slice y12 m12 d12, .bool s14, .slice p14 n14 c14, .bool t14, .slice y14 m14 d14, .bool s16, .slice p16 n16 c16, .bool t16, .slice y16 m16 d16, .bool s18, .slice p18 n18 c18, .bool t18, .slice y18 m18 d18], by omega, rfl, rfl, rfl, (PtRd.mk (q12.kp (by (with_reducible (repeat (first | assumption | exact kU _ | exact kR _ | refine kT ?_ (by assumption)))))).rd (q14.kp (by (with_reducible (repeat (first | assumption | exact kU _ | exact kR _ | refine kT ?_ (by assumption)))))).rd (q16.kp (by (with_reducible (repeat (first | assumption | exact kU _ | exact kR _ | refine kT ?_ (by assumption)))))).rd (q18.kp (by (with_reducible (repeat (first | assumption | exact kU _ | exact kR _ | refine kT ?_ (by assumption)))))).rd).cast (psum_take hx).symm⟩⟩
    · refine ⟨rfl, rfl, rfl, ?_, trivial⟩
      rw [← nat_step (by omega)]; rfl
    · (repeat (first | exact trivial | refine ⟨rfl, ?_⟩))
    · rfl
    · (repeat (first | exact trivial | refine ⟨ClosedC.lit rfl, ?_⟩ | refine ⟨ClosedC.vals _, ?_⟩))
  · refine VS.condN rfl (decide_eq_false (fun e => hlt (Int.ofNat_lt.1 e))) ?_
    obtain rfl : z = N := by omega
    (repeat (first | refine wN ?_ | refine wP rfl ?_ | refine cx_r rfl ?_ | refine cx_d (by kernel_rfl) rfl ?_ | refine wO rfl rfl ?_))
    refine VS.ret (cx_ok _ _) rfl rfl (fun wz kz bz => ?_)
    exact ⟨_, rfl, (hpt.kp kz).cast (by rw [List.take_of_length_le (by omega)]), bz⟩
theorem q04Same_ok (v u : Value) (q r : Rat) (k l : Nat) (w : World) (hv : RatIn w v q k) (hu : RatIn w u r l) (hk : k ≤ 33554431) (hl : l ≤ 33554431) (b : Bool) (hb : decide (q = r) = b) :
    Calls Tryz.prog 60 #[v, u] w fun e w' => e = .returned (.bool b) ∧ Beh w w' := hb ▸ q04Same_any v u q r k l w hv hu hk hl
theorem qSame17_any (v u : Value) (P Q : Pt) (k l : Nat) (w : World) (hv : PtIn w v P k) (hu : PtIn w u Q l) (hk : k ≤ 33554431) (hl : l ≤ 33554431) :
    Calls Tryz.prog 30 #[v, u] w fun e w' => e = .returned (.bool (psame P Q)) ∧ Beh w w' := by
  obtain ⟨s8a, p8a, n8a, c8a, t8a, y8a, m8a, d8a, s8b, p8b, n8b, c8b, t8b, y8b, m8b, d8b, s8c, p8c, n8c, c8c, t8c, y8c, m8c, d8c, s8d, p8d, n8d, c8d, t8d, y8d, m8d, d8d, rfl, q8A, q8B, q8C, q8D⟩ := hv
  obtain ⟨s9a, p9a, n9a, c9a, t9a, y9a, m9a, d9a, s9b, p9b, n9b, c9b, t9b, y9b, m9b, d9b, s9c, p9c, n9c, c9c, t9c, y9c, m9c, d9c, s9d, p9d, n9d, c9d, t9d, y9d, m9d, d9d, rfl, q9A, q9B, q9C, q9D⟩ := hu
  refine calm_enter (C := cxOf Tryz.prog w _) (args := [_, _]) Tryz.func30 rfl Tryz.ntmps30 (Nat.le_of_ble_eq_true rfl) ?_
  (repeat (first | refine wN ?_ | refine wP rfl ?_ | refine cx_r rfl ?_ | refine cx_d (by kernel_rfl) rfl ?_ | refine wO rfl rfl ?_))
  by_cases h1 : P.b = Q.b
  · refine VO.call rfl rfl (fk Tryz.func60) (fun wa1 ka1 ba1 => (q04Same_ok _ _ P.b Q.b k l wa1 (q8A.kp (by (with_reducible (repeat (first | assumption | exact kU _ | exact kR _ | refine kT ?_ (by assumption)))))) (q9A.kp (by (with_reducible (repeat (first | assumption | exact kU _ | exact kR _ | refine kT ?_ (by assumption)))))) (by omega) (by omega) true (decide_eq_true h1)).mono ?_)
    rintro e w1 ⟨rfl, hb1⟩
    skip
    refine ⟨_, rfl, hb1, fun kb1 _ bb1 => wV rfl ?_⟩
    (repeat (first | refine wN ?_ | refine wP rfl ?_ | refine cx_r rfl ?_ | refine cx_d (by kernel_rfl) rfl ?_ | refine wO rfl rfl ?_))
    by_cases h2 : P.s = Q.s
    · refine VO.call rfl rfl (fk Tryz.func60) (fun wa2 ka2 ba2 => (q04Same_ok _ _ P.s Q.s k l wa2 (q8B.kp (by (with_reducible (repeat (first | assumption | exact kU _ | exact kR _ | refine kT ?_ (by assumption)))))) (q9B.kp (by (with_reducible (repeat (first | assumption | exact kU _ | exact kR _ | refine kT ?_ (by assumption)))))) (by omega) (by omega) true (decide_eq_true h2)).mono ?_)
      rintro e w2 ⟨rfl, hb2⟩
      skip
      refine ⟨_, rfl, hb2, fun kb2 _ bb2 => wV rfl ?_⟩
      (repeat (first | refine wN ?_ | refine wP rfl ?_ | refine cx_r rfl ?_ | refine cx_d (by kernel_rfl) rfl ?_ | refine wO rfl rfl ?_))
      by_cases h3 : P.d = Q.d
      · refine VO.call rfl rfl (fk Tryz.func60) (fun wa3 ka3 ba3 => (q04Same_ok _ _ P.d Q.d k l wa3 (q8C.kp (by (with_reducible (repeat (first | assumption | exact kU _ | exact kR _ | refine kT ?_ (by assumption)))))) (q9C.kp (by (with_reducible (repeat (first | assumption | exact kU _ | exact kR _ | refine kT ?_ (by assumption)))))) (by omega) (by omega) true (decide_eq_true h3)).mono ?_)
        rintro e w3 ⟨rfl, hb3⟩
        skip
        refine ⟨_, rfl, hb3, fun kb3 _ bb3 => wV rfl ?_⟩
        (repeat (first | refine wN ?_ | refine wP rfl ?_ | refine cx_r rfl ?_ | refine cx_d (by kernel_rfl) rfl ?_ | refine wO rfl rfl ?_))
        by_cases h4 : P.i = Q.i
        · refine VO.call rfl rfl (fk Tryz.func60) (fun wa4 ka4 ba4 => (q04Same_ok _ _ P.i Q.i k l wa4 (q8D.kp (by (with_reducible (repeat (first | assumption | exact kU _ | exact kR _ | refine kT ?_ (by assumption)))))) (q9D.kp (by (with_reducible (repeat (first | assumption | exact kU _ | exact kR _ | refine kT ?_ (by assumption)))))) (by omega) (by omega) true (decide_eq_true h4)).mono ?_)
          rintro e w4 ⟨rfl, hb4⟩
          skip
          refine ⟨_, rfl, hb4, fun kb4 _ bb4 => wV rfl ?_⟩
          (repeat (first | refine wN ?_ | refine wP rfl ?_ | refine cx_r rfl ?_ | refine cx_d (by kernel_rfl) rfl ?_ | refine wO rfl rfl ?_))
          refine VS.ret (cx_ok _ _) rfl rfl (fun wz kz bz => ?_)
          exact ⟨by unfold psame; rw [decide_eq_true h1, decide_eq_true h2, decide_eq_true h3, decide_eq_true h4]; rfl, bz⟩
        · refine VO.call rfl rfl (fk Tryz.func60) (fun wa4 ka4 ba4 => (q04Same_ok _ _ P.i Q.i k l wa4 (q8D.kp (by (with_reducible (repeat (first | assumption | exact kU _ | exact kR _ | refine kT ?_ (by assumption)))))) (q9D.kp (by (with_reducible (repeat (first | assumption | exact kU _ | exact kR _ | refine kT ?_ (by assumption)))))) (by omega) (by omega) false (decide_eq_false h4)).mono ?_)
          rintro e w4 ⟨rfl, hb4⟩
          skip
          refine ⟨_, rfl, hb4, fun kb4 _ bb4 => wV rfl ?_⟩
          (repeat (first | refine wN ?_ | refine wP rfl ?_ | refine cx_r rfl ?_ | refine cx_d (by kernel_rfl) rfl ?_ | refine wO rfl rfl ?_))
          refine VS.ret (cx_ok _ _) rfl rfl (fun wz kz bz => ?_)
          exact ⟨by rw [show psame P Q = false by unfold psame; rw [decide_eq_false h4]; simp]; rfl, bz⟩
      · refine VO.call rfl rfl (fk Tryz.func60) (fun wa3 ka3 ba3 => (q04Same_ok _ _ P.d Q.d k l wa3 (q8C.kp (by (with_reducible (repeat (first | assumption | exact kU _ | exact kR _ | refine kT ?_ (by assumption)))))) (q9C.kp (by (with_reducible (repeat (first | assumption | exact kU _ | exact kR _ | refine kT ?_ (by assumption)))))) (by omega) (by omega) false (decide_eq_false h3)).mono ?_)
        rintro e w3 ⟨rfl, hb3⟩
        skip
        refine ⟨_, rfl, hb3, fun kb3 _ bb3 => wV rfl ?_⟩
        (repeat (first | refine wN ?_ | refine wP rfl ?_ | refine cx_r rfl ?_ | refine cx_d (by kernel_rfl) rfl ?_ | refine wO rfl rfl ?_))
        refine VS.ret (cx_ok _ _) rfl rfl (fun wz kz bz => ?_)
        exact ⟨by rw [show psame P Q = false by unfold psame; rw [decide_eq_false h3]; simp]; rfl, bz⟩
    · refine VO.call rfl rfl (fk Tryz.func60) (fun wa2 ka2 ba2 => (q04Same_ok _ _ P.s Q.s k l wa2 (q8B.kp (by (with_reducible (repeat (first | assumption | exact kU _ | exact kR _ | refine kT ?_ (by assumption)))))) (q9B.kp (by (with_reducible (repeat (first | assumption | exact kU _ | exact kR _ | refine kT ?_ (by assumption)))))) (by omega) (by omega) false (decide_eq_false h2)).mono ?_)
      rintro e w2 ⟨rfl, hb2⟩
      skip
      refine ⟨_, rfl, hb2, fun kb2 _ bb2 => wV rfl ?_⟩
      (repeat (first | refine wN ?_ | refine wP rfl ?_ | refine cx_r rfl ?_ | refine cx_d (by kernel_rfl) rfl ?_ | refine wO rfl rfl ?_))
      refine VS.ret (cx_ok _ _) rfl rfl (fun wz kz bz => ?_)
      exact ⟨by rw [show psame P Q = false by unfold psame; rw [decide_eq_false h2]; simp]; rfl, bz⟩
  · refine VO.call rfl rfl (fk Tryz.func60) (fun wa1 ka1 ba1 => (q04Same_ok _ _ P.b Q.b k l wa1 (q8A.kp (by (with_reducible (repeat (first | assumption | exact kU _ | exact kR _ | refine kT ?_ (by assumption)))))) (q9A.kp (by (with_reducible (repeat (first | assumption | exact kU _ | exact kR _ | refine kT ?_ (by assumption)))))) (by omega) (by omega) false (decide_eq_false h1)).mono ?_)
    rintro e w1 ⟨rfl, hb1⟩
    skip
    refine ⟨_, rfl, hb1, fun kb1 _ bb1 => wV rfl ?_⟩
    (repeat (first | refine wN ?_ | refine wP rfl ?_ | refine cx_r rfl ?_ | refine cx_d (by kernel_rfl) rfl ?_ | refine wO rfl rfl ?_))
    refine VS.ret (cx_ok _ _) rfl rfl (fun wz kz bz => ?_)
    exact ⟨by rw [show psame P Q = false by unfold psame; rw [decide_eq_false h1]; simp]; rfl, bz⟩
theorem qdiff_any (v : Value) (P : Pt) (k : Nat) (w : World) (hv : PtRd w v P) (hs : PSz P k) (hk : k ≤ 10000000) :
    Calls Tryz.prog 16 #[v] w fun e w' => ∃ r, e = .returned r ∧ RatOwn w' w.heap.size r P.diff ∧ Beh w w' := by
  obtain ⟨s9a, p9a, n9a, c9a, t9a, y9a, m9a, d9a, s9b, p9b, n9b, c9b, t9b, y9b, m9b, d9b, s9c, p9c, n9c, c9c, t9c, y9c, m9c, d9c, s9d, p9d, n9d, c9d, t9d, y9d, m9d, d9d, rfl, q9A, q9B, q9C, q9D⟩ := hv
  refine calm_enter (C := cxOf Tryz.prog w _) (args := [_]) Tryz.func16 rfl Tryz.ntmps16 (Nat.le_of_ble_eq_true rfl) ?_
  (repeat (first | refine wN ?_ | refine wP rfl ?_ | refine cx_r rfl ?_ | refine cx_d (by kernel_rfl) rfl ?_ | refine wO rfl rfl ?_))
  refine VO.call rfl rfl (fk Tryz.func35) (fun wa1 ka1 ba1 => (q04Add_any _ _ P.i P.b k k wa1 ((q9D.kp (by (with_reducible (repeat (first | assumption | exact kU _ | exact kR _ | refine kT ?_ (by assumption)))))).to hs.i) ((q9A.kp (by (with_reducible (repeat (first | assumption | exact kU _ | exact kR _ | refine kT ?_ (by assumption)))))).to hs.b) (by omega) (by omega)).mono ?_)
  rintro e w1 ⟨r1, rfl, q1, hb1⟩
  obtain ⟨s1, p1, n1, c1, t1, y1, m1, d1, rfl⟩ := q1.form
  refine ⟨_, rfl, hb1, fun kb1 _ bb1 => wV rfl ?_⟩
  (repeat (first | refine wN ?_ | refine wP rfl ?_ | refine cx_r rfl ?_ | refine cx_d (by kernel_rfl) rfl ?_ | refine wO rfl rfl ?_))
  refine VO.call rfl rfl (fk Tryz.func48) (fun wa2 ka2 ba2 => (q04Sub_any _ _ P.s (P.i + P.b) k (k + k + 1) wa2 ((q9B.kp (by (with_reducible (repeat (first | assumption | exact kU _ | exact kR _ | refine kT ?_ (by assumption)))))).to hs.s) ((q1.kp (by (with_reducible (repeat (first | assumption | exact kU _ | exact kR _ | refine kT ?_ (by assumption)))))).in (hs.i.add hs.b)) (by omega) (by omega)).mono ?_)
  rintro e w2 ⟨r2, rfl, q2, hb2⟩
  obtain ⟨s2, p2, n2, c2, t2, y2, m2, d2, rfl⟩ := q2.form
  refine ⟨_, rfl, hb2, fun kb2 _ bb2 => wV rfl ?_⟩
  (repeat (first | refine wN ?_ | refine wP rfl ?_ | refine cx_r rfl ?_ | refine cx_d (by kernel_rfl) rfl ?_ | refine wO rfl rfl ?_))
  refine VS.ret (cx_ok _ _) rfl rfl (fun wz kz bz => ?_)
  exact ⟨_, rfl, ((q2.kp kz).mono ba2.size).cast (diff_ref P), bz⟩
theorem qebitda_any (v : Value) (P : Pt) (k : Nat) (w : World) (hv : PtRd w v P) (hs : PSz P k) (hk : k ≤ 10000000) :
    Calls Tryz.prog 18 #[v] w fun e w' => ∃ r, e = .returned r ∧ RatOwn w' w.heap.size r P.ebitda ∧ Beh w w' := by
  obtain ⟨s9a, p9a, n9a, c9a, t9a, y9a, m9a, d9a, s9b, p9b, n9b, c9b, t9b, y9b, m9b, d9b, s9c, p9c, n9c, c9c, t9c, y9c, m9c, d9c, s9d, p9d, n9d, c9d, t9d, y9d, m9d, d9d, rfl, q9A, q9B, q9C, q9D⟩ := hv
  refine calm_enter (C := cxOf Tryz.prog w _) (args := [_]) Tryz.func18 rfl Tryz.ntmps18 (Nat.le_of_ble_eq_true rfl) ?_
  (repeat (first | refine wN ?_ | refine wP rfl ?_ | refine cx_r rfl ?_ | refine cx_d (by kernel_rfl) rfl ?_ | refine wO rfl rfl ?_))
  refine VO.call rfl rfl (fk Tryz.func35) (fun wa1 ka1 ba1 => (q04Add_any _ _ P.s P.d k k wa1 ((q9B.kp (by (with_reducible (repeat (first | assumption | exact kU _ | exact kR _ | refine kT ?_ (by assumption)))))).to hs.s) ((q9C.kp (by (with_reducible (repeat (first | assumption | exact kU _ | exact kR _ | refine kT ?_ (by assumption)))))).to hs.d) (by omega) (by omega)).mono ?_)
  rintro e w1 ⟨r1, rfl, q1, hb1⟩
  obtain ⟨s1, p1, n1, c1, t1, y1, m1, d1, rfl⟩ := q1.form
  refine ⟨_, rfl, hb1, fun kb1 _ bb1 => wV rfl ?_⟩
  (repeat (first | refine wN ?_ | refine wP rfl ?_ | refine cx_r rfl ?_ | refine cx_d (by kernel_rfl) rfl ?_ | refine wO rfl rfl ?_))
  refine VS.ret (cx_ok _ _) rfl rfl (fun wz kz bz => ?_)
  exact ⟨_, rfl, (q1.kp kz).mono ba1.size, bz⟩
end Go.Proofs.YtgffhmpnkfejbaaGreat
