/- BracketsTax: what this statement's function answers. (Printed by gen28e.py.) -/
import Derived.Test.YtofdiijioejljaaGreatLaw28Q
set_option linter.all false
set_option maxRecDepth 4000
namespace Go.Proofs.YtofdiijioejljaaGreat
open Go.RowKit
attribute [local irreducible] vcOps VS

theorem q28Tax_ok (v u : Value) (l : List RBr) (kk K : Nat) (a : Rat) (w : World) (hv : SlIn (BrE kk) 8 w v l) (hu : RatIn w u a kk) (hk1 : 1 ≤ kk) (hk : kk ≤ 1000) (hn : l.length ≤ 64) (c : Int) (hc : tcode l = c) (r : Rat) (hr : taxq l a = r) (hK : tsz l.length kk ≤ K) :
  Calls Tryz.prog 15 #[v, u] w fun o w' => ∃ x, o = .returned (.tuple #[x, .int .i64 c]) ∧ RatOwn w' w.heap.size x r ∧ RSz r K ∧ Beh w w' := by
 subst hc hr
 refine (q28Tax_any v u l kk a w hv hu hk1 hk hn).mono ?_
 rintro o w' ⟨x, rfl, h1, h2, h3⟩
 exact ⟨x, rfl, h1, h2.mono hK, h3⟩
theorem q28Cents_ok (v u : Value) (l : List RBr) (kk K : Nat) (a : Rat) (w : World) (hv : SlIn (BrE kk) 8 w v l) (hu : RatIn w u a kk) (hk1 : 1 ≤ kk) (hk : kk ≤ 1000) (hn : l.length ≤ 64) (c : Int) (hc : tcode l = c) (X : Int) (hX : centsq l a = X) (hK : tsz l.length kk + 2 ≤ K) :
  Calls Tryz.prog 16 #[v, u] w fun o w' => ∃ x, o = .returned (.tuple #[x, .int .i64 c]) ∧ IntOwn w' w.heap.size x X ∧ Sz X K ∧ Beh w w' := by
 subst hc hX
 refine (q28Cents_any v u l kk a w hv hu hk1 hk hn).mono ?_
 rintro o w' ⟨x, rfl, h1, h2, h3⟩
 exact ⟨x, rfl, h1, h2.mono hK, h3⟩
theorem q28Rate_ok (v u : Value) (l : List RBr) (kk : Nat) (a : Rat) (w : World) (hv : SlIn (BrE kk) 8 w v l) (hu : RatIn w u a kk) (hk1 : 1 ≤ kk) (hk : kk ≤ 1000) (hn : l.length ≤ 64) (c : Int) (hc : tcode l = c) (r : Rat) (hr : rateq l a = r) :
  Calls Tryz.prog 17 #[v, u] w fun o w' => ∃ x, o = .returned (.tuple #[x, .int .i64 c]) ∧ RatRd w' x r ∧ RSz r kk ∧ Beh w w' := by
 subst hc hr
 exact q28Rate_any v u l kk a w hv hu hk1 hk hn
theorem q28Refund_ok (v u u' : Value) (l : List RBr) (kk K : Nat) (a b : Rat) (w : World) (hv : SlIn (BrE kk) 8 w v l) (hu : RatIn w u a kk) (hu' : RatIn w u' b kk) (hk1 : 1 ≤ kk) (hk : kk ≤ 1000) (hn : l.length ≤ 64) (c : Int) (hc : tcode l = c) (X : Int) (hX : centsq l a - centsq l b = X) (hK : tsz l.length kk + 3 ≤ K) :
  Calls Tryz.prog 18 #[v, u, u'] w fun o w' => ∃ x, o = .returned (.tuple #[x, .int .i64 c]) ∧ IntOwn w' w.heap.size x X ∧ Sz X K ∧ Beh w w' := by
 subst hc hX
 refine (q28Refund_any v u u' l kk a b w hv hu hu' hk1 hk hn).mono ?_
 rintro o w' ⟨x, rfl, h1, h2, h3⟩
 exact ⟨x, rfl, h1, h2.mono hK, h3⟩
theorem hf_zero : hf (0 * ((100 : Int) : Rat)) = 0 := by rw [Rat.zero_mul]; exact hf_int 0
theorem tsz20 {n : Nat} (h : n ≤ 20) : tsz n 4 ≤ 400 := by unfold tsz; omega
set_option maxRecDepth 4000 in
set_option maxHeartbeats 4000000 in
theorem tax28_any (v va vb : Value) (l : List RBr) (s t s' t' : Bool) (xs ys xs' ys' : List Nat) (kk : Nat) (w : World) (hv : SlIn (BrE kk) 8 w v l) (ha : RatRaw w va s xs t ys) (hb : RatRaw w vb s' xs' t' ys') :
  Calls Tryz.prog 3 #[v, va, vb] w fun o w' => o = .returned (.bool true) ∧ Beh w w' := by
 obtain ⟨p, c, rfl, hnc, hcm⟩ := hv.form
 obtain ⟨pa, ca, ya, da, rfl, -⟩ := ha.form'
 obtain ⟨pb, cb, yb, db, rfl, -⟩ := hb.form'
 refine calm_enter (C := cxK Tryz.prog w _) (args := [_, _, _]) Tryz.func3 rfl Tryz.ntmps3 (Nat.le_of_ble_eq_true rfl) ?_
 (repeat first|refine wN ?_|refine wP rfl ?_|refine cxK_r rfl ?_|refine cxK_d rfl ?_|refine wO rfl rfl ?_)
 cases hfew : fewB l [(s, xs, t, ys), (s', xs', t', ys')] with
 | false =>
  refine VO.callF rfl (fk Tryz.func7) (fun wa1 β ka1 ba1 ho => (few28_ok _ (some ⟨β 29, 0, none⟩) 2 l [(s, xs, t, ys), (s', xs', t', ys')] kk wa1 (hv.beh (br_ok kk) ba1) (ownV_sl rr_ok (ho.own 29 (.base (List.mem_singleton.2 rfl)) _ _ rfl) [] (vs := [[.bool s, .slice pa xs.length ca, .bool t, .slice ya ys.length da], [.bool s', .slice pb xs'.length cb, .bool t', .slice yb ys'.length db]]) (by rfl) (RowE.cons ⟨_, _, _, _, rfl⟩ (RowE.cons ⟨_, _, _, _, rfl⟩ RowE.nil)) rfl (Nat.le_of_ble_eq_true rfl) (by decide)) (by omega) (by omega) false hfew).mono ?_)
  rintro e w1 ⟨rfl, hb1⟩
  refine ⟨_, rfl, hb1, fun kb1 _ bb1 => wV rfl ?_⟩
  (repeat first|refine wN ?_|refine wP rfl ?_|refine cxK_r rfl ?_|refine cxK_d rfl ?_|refine wO rfl rfl ?_)
  refine VO.call rfl rfl (fk Tryz.func8) (fun wa2 ka2 ba2 => (works28_any wa2).mono ?_)
  rintro e w2 ⟨rfl, hb2⟩
  skip
  refine ⟨_, rfl, hb2, fun kb2 _ bb2 => wV rfl ?_⟩
  (repeat first|refine wN ?_|refine wP rfl ?_|refine cxK_r rfl ?_|refine cxK_d rfl ?_|refine wO rfl rfl ?_)
  refine VS.ret (cxK_ok _ _) rfl rfl (fun wz kz bz => ?_)
  exact ⟨rfl, bz⟩
 | true =>
  have hv4 := fewB_sl hfew hv
  have hln := fewB_len hfew
  obtain ⟨g1, g2⟩ := fewB_inc hfew (x := (s, xs, t, ys)) (by simp)
  obtain ⟨g3, g4⟩ := fewB_inc hfew (x := (s', xs', t', ys')) (by simp)
  replace g1 : xs.length ≤ 4 := g1
  replace g2 : ys.length ≤ 4 := g2
  replace g3 : xs'.length ≤ 4 := g3
  replace g4 : ys'.length ≤ 4 := g4
  have hts := tsz20 hln
  have hai : RatIn w _ (rq s xs t ys) 4 := ha.in g1 g2
  have hbi : RatIn w _ (rq s' xs' t' ys') 4 := hb.in g3 g4
  obtain ⟨A, hA⟩ : ∃ A, A = rq s xs t ys := ⟨_, rfl⟩
  obtain ⟨B, hB⟩ : ∃ B, B = rq s' xs' t' ys' := ⟨_, rfl⟩
  rw [← hA] at hai
  rw [← hB] at hbi
  refine VO.callF rfl (fk Tryz.func7) (fun wa1 β ka1 ba1 ho => (few28_ok _ (some ⟨β 29, 0, none⟩) 2 l [(s, xs, t, ys), (s', xs', t', ys')] kk wa1 (hv.beh (br_ok kk) ba1) (ownV_sl rr_ok (ho.own 29 (.base (List.mem_singleton.2 rfl)) _ _ rfl) [] (vs := [[.bool s, .slice pa xs.length ca, .bool t, .slice ya ys.length da], [.bool s', .slice pb xs'.length cb, .bool t', .slice yb ys'.length db]]) (by rfl) (RowE.cons ⟨_, _, _, _, rfl⟩ (RowE.cons ⟨_, _, _, _, rfl⟩ RowE.nil)) rfl (Nat.le_of_ble_eq_true rfl) (by decide)) (by omega) (by omega) true hfew).mono ?_)
  rintro e w1 ⟨rfl, hb1⟩
  refine ⟨_, rfl, hb1, fun kb1 _ bb1 => wV rfl ?_⟩
  (repeat first|refine wN ?_|refine wP rfl ?_|refine cxK_r rfl ?_|refine cxK_d rfl ?_|refine wO rfl rfl ?_)
  refine VO.call rfl rfl (fk Tryz.func9) (fun wa2 ka2 ba2 => (ref28_any _ l 4 wa2 (hv4.beh (br_ok 4) ba2) (by omega) (by omega)).mono ?_)
  rintro e w2 ⟨r2, rfl, q2, hb2⟩
  obtain ⟨pr, cr, rfl⟩ := q2.form
  refine ⟨_, rfl, hb2, fun kb2 _ bb2 => wV rfl ?_⟩
  (repeat first|refine wN ?_|refine wP rfl ?_|refine cxK_r rfl ?_|refine cxK_d rfl ?_|refine wO rfl rfl ?_)
  refine VO.call rfl rfl (fk Tryz.func10) (fun wa3 ka3 ba3 => (filRef_any s t xs ys _ wa3 (ha.kp (Kp.of (U := UU) ba3)) (by omega) (by omega)).mono ?_)
  rintro e w3 ⟨r3, rfl, q3, hb3⟩
  obtain ⟨p3, c3, y3, d3, rfl, -⟩ := q3.raw.form'
  refine ⟨_, rfl, hb3, fun kb3 _ bb3 => wV rfl ?_⟩
  (repeat first|refine wN ?_|refine wP rfl ?_|refine cxK_r rfl ?_|refine cxK_d rfl ?_|refine wO rfl rfl ?_)
  refine VO.call rfl rfl (fk Tryz.func10) (fun wa4 ka4 ba4 => (filRef_any s' t' xs' ys' _ wa4 (hb.kp (Kp.of (U := UU) ba4)) (by omega) (by omega)).mono ?_)
  rintro e w4 ⟨r4, rfl, q4, hb4⟩
  obtain ⟨p4, c4, y4, d4, rfl, -⟩ := q4.raw.form'
  refine ⟨_, rfl, hb4, fun kb4 _ bb4 => wV rfl ?_⟩
  (repeat first|refine wN ?_|refine wP rfl ?_|refine cxK_r rfl ?_|refine cxK_d rfl ?_|refine wO rfl rfl ?_)
  have hxi : RatIn w3 _ A 4 := hA ▸ q3.raw.in g1 g2
  have hyi : RatIn w4 _ B 4 := hB ▸ q4.raw.in g3 g4
  cases hbr : bright l with
  | false =>
   have hcd : tcode l = 2 := by unfold tcode; rw [hbr]; rfl
   have htq : taxq l A = 0 := by unfold taxq; rw [hbr]; rfl
   have hcq : centsq l A = 0 := by unfold centsq; rw [htq]; exact hf_zero
   have hrq : rateq l A = 0 := by unfold rateq; rw [hbr]; rfl
   have hfq : centsq l A - centsq l B = 0 := by
    have : taxq l B = 0 := by unfold taxq; rw [hbr]; rfl
    rw [hcq]; unfold centsq; rw [this, hf_zero]; rfl
   refine VO.call rfl rfl (fk Tryz.func11) (fun wa5 ka5 ba5 => (bTax_ok _ _ l 4 400 A wa5 (hv4.beh (br_ok 4) ba5) (hai.kp (Kp.of (U := UU) ba5)) (by omega) (by omega) (by omega) 2 hcd 0 htq (by omega)).mono ?_)
   rintro e w5 ⟨r5, rfl, q5, z5, hb5⟩
   obtain ⟨s5, p5, n5, c5, t5, y5, m5, d5, rfl⟩ := q5.form
   refine ⟨_, rfl, hb5, fun kb5 _ bb5 => wV rfl ?_⟩
   (repeat first|refine wN ?_|refine wP rfl ?_|refine cxK_r rfl ?_|refine cxK_d rfl ?_|refine wO rfl rfl ?_)
   refine VO.call rfl rfl (fk Tryz.func12) (fun wa6 ka6 ba6 => (bCents_ok _ _ l 4 403 A wa6 (hv4.beh (br_ok 4) ba6) (hai.kp (Kp.of (U := UU) ba6)) (by omega) (by omega) (by omega) 2 hcd 0 hcq (by omega)).mono ?_)
   rintro e w6 ⟨r6, rfl, q6, z6, hb6⟩
   obtain ⟨s6, p6, n6, c6, rfl⟩ := q6.form
   refine ⟨_, rfl, hb6, fun kb6 _ bb6 => wV rfl ?_⟩
   (repeat first|refine wN ?_|refine wP rfl ?_|refine cxK_r rfl ?_|refine cxK_d rfl ?_|refine wO rfl rfl ?_)
   refine VO.call rfl rfl (fk Tryz.func13) (fun wa7 ka7 ba7 => (bRate_ok _ _ l 4 A wa7 (hv4.beh (br_ok 4) ba7) (hai.kp (Kp.of (U := UU) ba7)) (by omega) (by omega) (by omega) 2 hcd 0 hrq).mono ?_)
   rintro e w7 ⟨r7, rfl, q7, z7, hb7⟩
   obtain ⟨s7, p7, n7, c7, t7, y7, m7, d7, rfl⟩ := q7.form
   refine ⟨_, rfl, hb7, fun kb7 _ bb7 => wV rfl ?_⟩
   (repeat first|refine wN ?_|refine wP rfl ?_|refine cxK_r rfl ?_|refine cxK_d rfl ?_|refine wO rfl rfl ?_)
   refine VO.call rfl rfl (fk Tryz.func14) (fun wa8 ka8 ba8 => (bRefund_ok _ _ _ l 4 403 A B wa8 (hv4.beh (br_ok 4) ba8) (hai.kp (Kp.of (U := UU) ba8)) (hbi.kp (Kp.of (U := UU) ba8)) (by omega) (by omega) (by omega) 2 hcd 0 hfq (by omega)).mono ?_)
   rintro e w8 ⟨r8, rfl, q8, z8, hb8⟩
   obtain ⟨s8, p8, n8, c8, rfl⟩ := q8.form
   refine ⟨_, rfl, hb8, fun kb8 _ bb8 => wV rfl ?_⟩
   (repeat first|refine wN ?_|refine wP rfl ?_|refine cxK_r rfl ?_|refine cxK_d rfl ?_|refine wO rfl rfl ?_)
   refine VO.call rfl rfl (fk Tryz.func15) (fun wa9 ka9 ba9 => (q28Tax_ok _ _ l 4 400 A wa9 ((q2.kp (br_ok 4) (by (with_reducible (repeat (first | assumption | exact kU _ | exact kR _ | exact Kp.of (U := UU) (by assumption) | exact KpS.of (by assumption) | refine kT ?_ (by assumption))))) rfl).sl (br_ok 4)) (hxi.kp (kK)) (by omega) (by omega) (by omega) 2 hcd 0 htq (by omega)).mono ?_)
   rintro e w9 ⟨r9, rfl, q9, z9, hb9⟩
   obtain ⟨s9, p9, n9, c9, t9, y9, m9, d9, rfl⟩ := q9.form
   refine ⟨_, rfl, hb9, fun kb9 _ bb9 => wV rfl ?_⟩
   (repeat first|refine wN ?_|refine wP rfl ?_|refine cxK_r rfl ?_|refine cxK_d rfl ?_|refine wO rfl rfl ?_)
   refine VO.call rfl rfl (fk Tryz.func16) (fun wa10 ka10 ba10 => (q28Cents_ok _ _ l 4 403 A wa10 ((q2.kp (br_ok 4) (by (with_reducible (repeat (first | assumption | exact kU _ | exact kR _ | exact Kp.of (U := UU) (by assumption) | exact KpS.of (by assumption) | refine kT ?_ (by assumption))))) rfl).sl (br_ok 4)) (hxi.kp (kK)) (by omega) (by omega) (by omega) 2 hcd 0 hcq (by omega)).mono ?_)
   rintro e w10 ⟨r10, rfl, q10, z10, hb10⟩
   obtain ⟨s10, p10, n10, c10, rfl⟩ := q10.form
   refine ⟨_, rfl, hb10, fun kb10 _ bb10 => wV rfl ?_⟩
   (repeat first|refine wN ?_|refine wP rfl ?_|refine cxK_r rfl ?_|refine cxK_d rfl ?_|refine wO rfl rfl ?_)
   refine VO.call rfl rfl (fk Tryz.func17) (fun wa11 ka11 ba11 => (q28Rate_ok _ _ l 4 A wa11 ((q2.kp (br_ok 4) (by (with_reducible (repeat (first | assumption | exact kU _ | exact kR _ | exact Kp.of (U := UU) (by assumption) | exact KpS.of (by assumption) | refine kT ?_ (by assumption))))) rfl).sl (br_ok 4)) (hxi.kp (kK)) (by omega) (by omega) (by omega) 2 hcd 0 hrq).mono ?_)
   rintro e w11 ⟨r11, rfl, q11, z11, hb11⟩
   obtain ⟨s11, p11, n11, c11, t11, y11, m11, d11, rfl⟩ := q11.form
   refine ⟨_, rfl, hb11, fun kb11 _ bb11 => wV rfl ?_⟩
   (repeat first|refine wN ?_|refine wP rfl ?_|refine cxK_r rfl ?_|refine cxK_d rfl ?_|refine wO rfl rfl ?_)
   refine VO.call rfl rfl (fk Tryz.func18) (fun wa12 ka12 ba12 => (q28Refund_ok _ _ _ l 4 403 A B wa12 ((q2.kp (br_ok 4) (by (with_reducible (repeat (first | assumption | exact kU _ | exact kR _ | exact Kp.of (U := UU) (by assumption) | exact KpS.of (by assumption) | refine kT ?_ (by assumption))))) rfl).sl (br_ok 4)) (hxi.kp (kK)) (hyi.kp (kK)) (by omega) (by omega) (by omega) 2 hcd 0 hfq (by omega)).mono ?_)
   rintro e w12 ⟨r12, rfl, q12, z12, hb12⟩
   obtain ⟨s12, p12, n12, c12, rfl⟩ := q12.form
   refine ⟨_, rfl, hb12, fun kb12 _ bb12 => wV rfl ?_⟩
   (repeat first|refine wN ?_|refine wP rfl ?_|refine cxK_r rfl ?_|refine cxK_d rfl ?_|refine wO rfl rfl ?_)
   refine VO.call rfl rfl (fk Tryz.func19) (fun wa13 ka13 ba13 => (bRight_ok _ l 4 wa13 (hv4.beh (br_ok 4) ba13) (by omega) false hbr).mono ?_)
   rintro e w13 ⟨rfl, hb13⟩
   skip
   refine ⟨_, rfl, hb13, fun kb13 _ bb13 => wV rfl ?_⟩
   (repeat first|refine wN ?_|refine wP rfl ?_|refine cxK_r rfl ?_|refine cxK_d rfl ?_|refine wO rfl rfl ?_)
   refine VO.call rfl rfl (fk Tryz.func20) (fun wa14 ka14 ba14 => (q28Right_ok _ l 4 wa14 ((q2.kp (br_ok 4) (by (with_reducible (repeat (first | assumption | exact kU _ | exact kR _ | exact Kp.of (U := UU) (by assumption) | exact KpS.of (by assumption) | refine kT ?_ (by assumption))))) rfl).sl (br_ok 4)) (by omega) false hbr).mono ?_)
   rintro e w14 ⟨rfl, hb14⟩
   skip
   refine ⟨_, rfl, hb14, fun kb14 _ bb14 => wV rfl ?_⟩
   (repeat first|refine wN ?_|refine wP rfl ?_|refine cxK_r rfl ?_|refine cxK_d rfl ?_|refine wO rfl rfl ?_)
   refine VO.call rfl rfl (fk Tryz.func21) (fun wa15 ka15 ba15 => (ratSign_ok _ 0 400 wa15 (q5.ki z5) (by omega) 0 (rcmp_eq rfl)).mono ?_)
   rintro e w15 ⟨rfl, hb15⟩
   skip
   refine ⟨_, rfl, hb15, fun kb15 _ bb15 => wV rfl ?_⟩
   (repeat first|refine wN ?_|refine wP rfl ?_|refine cxK_r rfl ?_|refine cxK_d rfl ?_|refine wO rfl rfl ?_)
   refine VO.call rfl rfl (fk Tryz.func22) (fun wa16 ka16 ba16 => (bsign_any _ 0 403 wa16 (q6.ki z6)).mono ?_)
   rintro e w16 ⟨rfl, hb16⟩
   skip
   refine ⟨_, rfl, hb16, fun kb16 _ bb16 => wV rfl ?_⟩
   (repeat first|refine wN ?_|refine wP rfl ?_|refine cxK_r rfl ?_|refine cxK_d rfl ?_|refine wO rfl rfl ?_)
   refine VO.call rfl rfl (fk Tryz.func21) (fun wa17 ka17 ba17 => (ratSign_ok _ 0 4 wa17 (q7.ki z7) (by omega) 0 (rcmp_eq rfl)).mono ?_)
   rintro e w17 ⟨rfl, hb17⟩
   skip
   refine ⟨_, rfl, hb17, fun kb17 _ bb17 => wV rfl ?_⟩
   (repeat first|refine wN ?_|refine wP rfl ?_|refine cxK_r rfl ?_|refine cxK_d rfl ?_|refine wO rfl rfl ?_)
   refine VO.call rfl rfl (fk Tryz.func22) (fun wa18 ka18 ba18 => (bsign_any _ 0 403 wa18 (q8.ki z8)).mono ?_)
   rintro e w18 ⟨rfl, hb18⟩
   skip
   refine ⟨_, rfl, hb18, fun kb18 _ bb18 => wV rfl ?_⟩
   (repeat first|refine wN ?_|refine wP rfl ?_|refine cxK_r rfl ?_|refine cxK_d rfl ?_|refine wO rfl rfl ?_)
   refine VO.call rfl rfl (fk Tryz.func8) (fun wa19 ka19 ba19 => (works28_any wa19).mono ?_)
   rintro e w19 ⟨rfl, hb19⟩
   skip
   refine ⟨_, rfl, hb19, fun kb19 _ bb19 => wV rfl ?_⟩
   (repeat first|refine wN ?_|refine wP rfl ?_|refine cxK_r rfl ?_|refine cxK_d rfl ?_|refine wO rfl rfl ?_)
   refine VS.ret (cxK_ok _ _) rfl rfl (fun wz kz bz => ?_)
   exact ⟨rfl, bz⟩
  | true =>
   have hcd : tcode l = 0 := by unfold tcode; rw [hbr]; rfl
   refine VO.call rfl rfl (fk Tryz.func11) (fun wa5 ka5 ba5 => (bTax_ok _ _ l 4 400 A wa5 (hv4.beh (br_ok 4) ba5) (hai.kp (Kp.of (U := UU) ba5)) (by omega) (by omega) (by omega) 0 hcd (taxq l A) rfl (by omega)).mono ?_)
   rintro e w5 ⟨r5, rfl, q5, z5, hb5⟩
   obtain ⟨s5, p5, n5, c5, t5, y5, m5, d5, rfl⟩ := q5.form
   refine ⟨_, rfl, hb5, fun kb5 _ bb5 => wV rfl ?_⟩
   (repeat first|refine wN ?_|refine wP rfl ?_|refine cxK_r rfl ?_|refine cxK_d rfl ?_|refine wO rfl rfl ?_)
   refine VO.call rfl rfl (fk Tryz.func12) (fun wa6 ka6 ba6 => (bCents_ok _ _ l 4 403 A wa6 (hv4.beh (br_ok 4) ba6) (hai.kp (Kp.of (U := UU) ba6)) (by omega) (by omega) (by omega) 0 hcd (centsq l A) rfl (by omega)).mono ?_)
   rintro e w6 ⟨r6, rfl, q6, z6, hb6⟩
   obtain ⟨s6, p6, n6, c6, rfl⟩ := q6.form
   refine ⟨_, rfl, hb6, fun kb6 _ bb6 => wV rfl ?_⟩
   (repeat first|refine wN ?_|refine wP rfl ?_|refine cxK_r rfl ?_|refine cxK_d rfl ?_|refine wO rfl rfl ?_)
   refine VO.call rfl rfl (fk Tryz.func13) (fun wa7 ka7 ba7 => (bRate_ok _ _ l 4 A wa7 (hv4.beh (br_ok 4) ba7) (hai.kp (Kp.of (U := UU) ba7)) (by omega) (by omega) (by omega) 0 hcd (rateq l A) rfl).mono ?_)
   rintro e w7 ⟨r7, rfl, q7, z7, hb7⟩
   obtain ⟨s7, p7, n7, c7, t7, y7, m7, d7, rfl⟩ := q7.form
   refine ⟨_, rfl, hb7, fun kb7 _ bb7 => wV rfl ?_⟩
   (repeat first|refine wN ?_|refine wP rfl ?_|refine cxK_r rfl ?_|refine cxK_d rfl ?_|refine wO rfl rfl ?_)
   refine VO.call rfl rfl (fk Tryz.func14) (fun wa8 ka8 ba8 => (bRefund_ok _ _ _ l 4 403 A B wa8 (hv4.beh (br_ok 4) ba8) (hai.kp (Kp.of (U := UU) ba8)) (hbi.kp (Kp.of (U := UU) ba8)) (by omega) (by omega) (by omega) 0 hcd (centsq l A - centsq l B) rfl (by omega)).mono ?_)
   rintro e w8 ⟨r8, rfl, q8, z8, hb8⟩
   obtain ⟨s8, p8, n8, c8, rfl⟩ := q8.form
   refine ⟨_, rfl, hb8, fun kb8 _ bb8 => wV rfl ?_⟩
   (repeat first|refine wN ?_|refine wP rfl ?_|refine cxK_r rfl ?_|refine cxK_d rfl ?_|refine wO rfl rfl ?_)
   refine VO.call rfl rfl (fk Tryz.func15) (fun wa9 ka9 ba9 => (q28Tax_ok _ _ l 4 400 A wa9 ((q2.kp (br_ok 4) (by (with_reducible (repeat (first | assumption | exact kU _ | exact kR _ | exact Kp.of (U := UU) (by assumption) | exact KpS.of (by assumption) | refine kT ?_ (by assumption))))) rfl).sl (br_ok 4)) (hxi.kp (kK)) (by omega) (by omega) (by omega) 0 hcd (taxq l A) rfl (by omega)).mono ?_)
   rintro e w9 ⟨r9, rfl, q9, z9, hb9⟩
   obtain ⟨s9, p9, n9, c9, t9, y9, m9, d9, rfl⟩ := q9.form
   refine ⟨_, rfl, hb9, fun kb9 _ bb9 => wV rfl ?_⟩
   (repeat first|refine wN ?_|refine wP rfl ?_|refine cxK_r rfl ?_|refine cxK_d rfl ?_|refine wO rfl rfl ?_)
   refine VO.call rfl rfl (fk Tryz.func16) (fun wa10 ka10 ba10 => (q28Cents_ok _ _ l 4 403 A wa10 ((q2.kp (br_ok 4) (by (with_reducible (repeat (first | assumption | exact kU _ | exact kR _ | exact Kp.of (U := UU) (by assumption) | exact KpS.of (by assumption) | refine kT ?_ (by assumption))))) rfl).sl (br_ok 4)) (hxi.kp (kK)) (by omega) (by omega) (by omega) 0 hcd (centsq l A) rfl (by omega)).mono ?_)
   rintro e w10 ⟨r10, rfl, q10, z10, hb10⟩
   obtain ⟨s10, p10, n10, c10, rfl⟩ := q10.form
   refine ⟨_, rfl, hb10, fun kb10 _ bb10 => wV rfl ?_⟩
   (repeat first|refine wN ?_|refine wP rfl ?_|refine cxK_r rfl ?_|refine cxK_d rfl ?_|refine wO rfl rfl ?_)
   refine VO.call rfl rfl (fk Tryz.func17) (fun wa11 ka11 ba11 => (q28Rate_ok _ _ l 4 A wa11 ((q2.kp (br_ok 4) (by (with_reducible (repeat (first | assumption | exact kU _ | exact kR _ | exact Kp.of (U := UU) (by assumption) | exact KpS.of (by assumption) | refine kT ?_ (by assumption))))) rfl).sl (br_ok 4)) (hxi.kp (kK)) (by omega) (by omega) (by omega) 0 hcd (rateq l A) rfl).mono ?_)
   rintro e w11 ⟨r11, rfl, q11, z11, hb11⟩
   obtain ⟨s11, p11, n11, c11, t11, y11, m11, d11, rfl⟩ := q11.form
   refine ⟨_, rfl, hb11, fun kb11 _ bb11 => wV rfl ?_⟩
   (repeat first|refine wN ?_|refine wP rfl ?_|refine cxK_r rfl ?_|refine cxK_d rfl ?_|refine wO rfl rfl ?_)
   refine VO.call rfl rfl (fk Tryz.func18) (fun wa12 ka12 ba12 => (q28Refund_ok _ _ _ l 4 403 A B wa12 ((q2.kp (br_ok 4) (by (with_reducible (repeat (first | assumption | exact kU _ | exact kR _ | exact Kp.of (U := UU) (by assumption) | exact KpS.of (by assumption) | refine kT ?_ (by assumption))))) rfl).sl (br_ok 4)) (hxi.kp (kK)) (hyi.kp (kK)) (by omega) (by omega) (by omega) 0 hcd (centsq l A - centsq l B) rfl (by omega)).mono ?_)
   rintro e w12 ⟨r12, rfl, q12, z12, hb12⟩
   obtain ⟨s12, p12, n12, c12, rfl⟩ := q12.form
   refine ⟨_, rfl, hb12, fun kb12 _ bb12 => wV rfl ?_⟩
   (repeat first|refine wN ?_|refine wP rfl ?_|refine cxK_r rfl ?_|refine cxK_d rfl ?_|refine wO rfl rfl ?_)
   refine VO.call rfl rfl (fk Tryz.func19) (fun wa13 ka13 ba13 => (bRight_ok _ l 4 wa13 (hv4.beh (br_ok 4) ba13) (by omega) true hbr).mono ?_)
   rintro e w13 ⟨rfl, hb13⟩
   skip
   refine ⟨_, rfl, hb13, fun kb13 _ bb13 => wV rfl ?_⟩
   (repeat first|refine wN ?_|refine wP rfl ?_|refine cxK_r rfl ?_|refine cxK_d rfl ?_|refine wO rfl rfl ?_)
   refine VO.call rfl rfl (fk Tryz.func20) (fun wa14 ka14 ba14 => (q28Right_ok _ l 4 wa14 ((q2.kp (br_ok 4) (by (with_reducible (repeat (first | assumption | exact kU _ | exact kR _ | exact Kp.of (U := UU) (by assumption) | exact KpS.of (by assumption) | refine kT ?_ (by assumption))))) rfl).sl (br_ok 4)) (by omega) true hbr).mono ?_)
   rintro e w14 ⟨rfl, hb14⟩
   skip
   refine ⟨_, rfl, hb14, fun kb14 _ bb14 => wV rfl ?_⟩
   (repeat first|refine wN ?_|refine wP rfl ?_|refine cxK_r rfl ?_|refine cxK_d rfl ?_|refine wO rfl rfl ?_)
   refine VO.call rfl rfl (fk Tryz.func23) (fun wa15 ka15 ba15 => (filIs_any (taxq l A) _ _ wa15 q5.kr q9.kr).mono ?_)
   rintro e w15 ⟨rfl, hb15⟩
   skip
   refine ⟨_, rfl, hb15, fun kb15 _ bb15 => wV rfl ?_⟩
   (repeat first|refine wN ?_|refine wP rfl ?_|refine cxK_r rfl ?_|refine cxK_d rfl ?_|refine wO rfl rfl ?_)
   refine VO.call rfl rfl (fk Tryz.func24) (fun wa16 ka16 ba16 => (whole28_any _ _ (centsq l A) wa16 q6.kr q10.kr 403 z6 (by omega)).mono ?_)
   rintro e w16 ⟨rfl, hb16⟩
   skip
   refine ⟨_, rfl, hb16, fun kb16 _ bb16 => wV rfl ?_⟩
   (repeat first|refine wN ?_|refine wP rfl ?_|refine cxK_r rfl ?_|refine cxK_d rfl ?_|refine wO rfl rfl ?_)
   refine VO.call rfl rfl (fk Tryz.func23) (fun wa17 ka17 ba17 => (filIs_any (rateq l A) _ _ wa17 q7.kr q11.k).mono ?_)
   rintro e w17 ⟨rfl, hb17⟩
   skip
   refine ⟨_, rfl, hb17, fun kb17 _ bb17 => wV rfl ?_⟩
   (repeat first|refine wN ?_|refine wP rfl ?_|refine cxK_r rfl ?_|refine cxK_d rfl ?_|refine wO rfl rfl ?_)
   refine VO.call rfl rfl (fk Tryz.func24) (fun wa18 ka18 ba18 => (whole28_any _ _ (centsq l A - centsq l B) wa18 q8.kr q12.kr 403 z8 (by omega)).mono ?_)
   rintro e w18 ⟨rfl, hb18⟩
   skip
   refine ⟨_, rfl, hb18, fun kb18 _ bb18 => wV rfl ?_⟩
   (repeat first|refine wN ?_|refine wP rfl ?_|refine cxK_r rfl ?_|refine cxK_d rfl ?_|refine wO rfl rfl ?_)
   refine VO.call rfl rfl (fk Tryz.func8) (fun wa19 ka19 ba19 => (works28_any wa19).mono ?_)
   rintro e w19 ⟨rfl, hb19⟩
   skip
   refine ⟨_, rfl, hb19, fun kb19 _ bb19 => wV rfl ?_⟩
   (repeat first|refine wN ?_|refine wP rfl ?_|refine cxK_r rfl ?_|refine cxK_d rfl ?_|refine wO rfl rfl ?_)
   refine VS.ret (cxK_ok _ _) rfl rfl (fun wz kz bz => ?_)
   exact ⟨rfl, bz⟩
end Go.Proofs.YtofdiijioejljaaGreat
