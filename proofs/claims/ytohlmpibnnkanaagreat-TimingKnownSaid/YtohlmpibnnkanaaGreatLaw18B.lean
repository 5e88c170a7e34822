/- The statements of layer 18: what Of answers, parted; works. -/
import Derived.Test.YtohlmpibnnkanaaGreatLaw18A
set_option linter.all false
set_option maxRecDepth 4000
namespace Go.Proofs.YtohlmpibnnkanaaGreat
open Go.RowKit
attribute [local irreducible] vcOps VS

theorem tOf_well (v : Value) (l : List RExp) (kk : Nat) (w : World) (hv : SlIn (ExpE kk) 6 w v l) (hk : kk ≤ 1024) (hn : l.length ≤ 64) (h : ewell l = true) :
  Calls Tryz.prog 16 #[v] w fun o w' => ∃ g, o = .returned (.tuple #[.pointer (some ⟨g, 0, none⟩), .int .i64 0]) ∧ w.heap.size ≤ g ∧ LedAt kk w' w.heap.size g (etaken l) ∧ Beh w w' := by
 refine (tOf_any v l kk w hv hk hn).mono ?_
 rintro o w' ⟨x, rfl, h1, -, hb⟩
 obtain ⟨g, rfl, h2, h3⟩ := h1 h
 rw [h]
 exact ⟨g, rfl, h2, h3, hb⟩
theorem tOf_not (v : Value) (l : List RExp) (kk : Nat) (w : World) (hv : SlIn (ExpE kk) 6 w v l) (hk : kk ≤ 1024) (hn : l.length ≤ 64) (h : ewell l = false) :
  Calls Tryz.prog 16 #[v] w fun o w' => o = .returned (.tuple #[.pointer none, .int .i64 2]) ∧ Beh w w' := by
 refine (tOf_any v l kk w hv hk hn).mono ?_
 rintro o w' ⟨x, rfl, -, h1, hb⟩
 rw [h1 h, h]
 exact ⟨rfl, hb⟩
theorem fewE_len {l : List RExp} (h : fewE l = true) : l.length ≤ 10 := by
 unfold fewE at h
 rw [Bool.and_eq_true, decide_eq_true_iff] at h
 exact h.1
theorem few18_ok (v : Value) (l : List RExp) (kk : Nat) (w : World) (hv : SlIn (ExpE kk) 6 w v l) (b : Bool) (hb : fewE l = b) :
  Calls Tryz.prog 14 #[v] w fun o w' => o = .returned (.bool b) ∧ Beh w w' := hb ▸ few18_any v l kk w hv
theorem kE {w0 w w' : World} {N : Nat} (h : KpS (cxE Tryz.prog w0 N).K w w' := by (with_reducible (repeat (first | assumption | exact kU _ | exact kR _ | exact Kp.of (U := UU) (by assumption) | exact KpS.of (by assumption) | refine kT ?_ (by assumption))))) : Kp UU w w' := h.weak
theorem q18Of_ok (v : Value) (l : List RExp) (kk : Nat) (w : World) (hv : SlIn (ExpE kk) 6 w v l) (hk : kk ≤ 1024) (hn : l.length ≤ 64) (h : ewell l = true) :
  Calls Tryz.prog 28 #[v] w fun o w' => ∃ r, o = .returned (.tuple #[r, .int .i64 0]) ∧ RowNew (ExpE kk) 6 55 w.heap.size w' r (etaken l) ∧ Beh w w' := by
 refine (q18Of_any v l kk w hv hk hn).mono ?_
 rintro o w' ⟨r, rfl, h1, -, hb⟩
 rw [h]
 exact ⟨r, rfl, h1 h, hb⟩
theorem rsum_taken (f : RExp → Rat) (h : ∀ e : RExp, e.exp.2.2.2 = 0 → f e = 0) (l : List RExp) : rsum ((etaken l).map f) = rsum (l.map f) := by
 induction l with
 | nil => rfl
 | cons e r ih =>
  unfold etaken at ih ⊢
  by_cases h0 : e.exp.2.2.2 = 0
  ·have hz : enz e = false := by unfold enz; simp [h0]
   rw [List.filter_cons_of_neg (by simp [hz]), ih, List.map_cons, rsum_cons, h e h0]
   grind
  ·have hz : enz e = true := by unfold enz; simp [h0]
   rw [List.filter_cons_of_pos hz, List.map_cons, List.map_cons, rsum_cons, rsum_cons, ih]
theorem due_taken (l : List RExp) (z : Int) : edueR (etaken l) z = edueR l z := rsum_taken _ (fun e h => by
 unfold epart
 split
 ·rfl
 ·rw [h, Rat.zero_mul]) l
theorem bal_taken (l : List RExp) (z : Int) : ebalR (etaken l) z = ebalR l z := rsum_taken _ (fun e h => by
 unfold ebal
 split
 ·rfl
 ·rw [h, Rat.zero_mul]) l
theorem peek_ints {l : List Int} {z : Nat} {d : Int} (h : l[z]? = some d) : ∀ (j : Nat) (u : AV), ([AV.val (.int .i64 d)] : List AV)[j]? = some u → (l.map fun x => AV.val (.int .i64 x))[0 + ((z : Nat) : Int).toNat * 1 + j]? = some u := by
 intro j u hj
 cases j with
 | zero =>
  cases hj
  simp [List.getElem?_map, h]
 | succ j => simp at hj
set_option maxRecDepth 4000 in
set_option maxHeartbeats 4000000 in
theorem works18_any (w : World) : Calls Tryz.prog 15 #[] w fun e w' => e = .returned (.bool true) ∧ Beh w w' := by
 refine calm_enter (C := cxT Tryz.prog w _) (args := []) Tryz.func15 rfl Tryz.ntmps15 (Nat.le_of_ble_eq_true rfl) ?_
 (repeat first|refine wN ?_|refine wP rfl ?_|refine cxT_r rfl ?_|refine cxT_d rfl ?_|refine wO rfl rfl ?_)
 refine VO.call rfl rfl (fk Tryz.func41) (fun wa1 ka1 ba1 => (filBy_any 9 1 wa1 (by omega) (by omega) (by omega) (by omega)).mono ?_)
 rintro e w1 ⟨r1, rfl, q1, hb1⟩
 obtain ⟨s1, p1, n1, c1, t1, y1, m1, d1, rfl⟩ := q1.form
 refine ⟨_, rfl, hb1, fun kb1 _ bb1 => wV rfl ?_⟩
 (repeat first|refine wN ?_|refine wP rfl ?_|refine cxT_r rfl ?_|refine cxT_d rfl ?_|refine wO rfl rfl ?_)
 refine VO.call rfl rfl (fk Tryz.func41) (fun wa2 ka2 ba2 => (filBy_any 5 1 wa2 (by omega) (by omega) (by omega) (by omega)).mono ?_)
 rintro e w2 ⟨r2, rfl, q2, hb2⟩
 obtain ⟨s2, p2, n2, c2, t2, y2, m2, d2, rfl⟩ := q2.form
 refine ⟨_, rfl, hb2, fun kb2 _ bb2 => wV rfl ?_⟩
 (repeat first|refine wN ?_|refine wP rfl ?_|refine cxT_r rfl ?_|refine cxT_d rfl ?_|refine wO rfl rfl ?_)
 refine VO.litE (cxT_ok _ _) (sz := 6) [.agg #[.int .i64 0, .int .i64 3, .bool s1, .slice p1 n1 c1, .bool t1, .slice y1 m1 d1], .agg #[.int .i64 1, .int .i64 1, .bool s2, .slice p2 n2 c2, .bool t2, .slice y2 m2 d2]] [.int .i64 0, .int .i64 3, .bool s1, .slice p1 n1 c1, .bool t1, .slice y1 m1 d1, .int .i64 1, .int .i64 1, .bool s2, .slice p2 n2 c2, .bool t2, .slice y2 m2 d2] rfl rfl rfl rfl rfl rfl rfl rfl rfl rfl (by decide) (fun w3 b3 kb3 bb3 hB3 hc3 => wV rfl ?_)
 have hE1 : ExpE 2 w3 [.int .i64 0, .int .i64 3, .bool s1, .slice p1 n1 c1, .bool t1, .slice y1 m1 d1] (cexp 0 3 (Rat.divInt 9 1)) := cexp_E q1.kr (i64_rsz (by omega) (by omega) (by omega) (by omega)) (by unfold i64b; omega) (by unfold i64b; omega)
 have hE2 : ExpE 2 w3 [.int .i64 1, .int .i64 1, .bool s2, .slice p2 n2 c2, .bool t2, .slice y2 m2 d2] (cexp 1 1 (Rat.divInt 5 1)) := cexp_E q2.kr (i64_rsz (by omega) (by omega) (by omega) (by omega)) (by unfold i64b; omega) (by unfold i64b; omega)
 have hS : ∀ w', KpS (cxT Tryz.prog w 66).K w3 w' → SlIn (ExpE 2) 6 w' (.slice (some ⟨b3, 0, none⟩) 2 2) work18 := fun w' k =>
  sl_of_cls (exp_ok 2) (spare := []) (vs := [[.int .i64 0, .int .i64 3, .bool s1, .slice p1 n1 c1, .bool t1, .slice y1 m1 d1], [.int .i64 1, .int .i64 1, .bool s2, .slice p2 n2 c2, .bool t2, .slice y2 m2 d2]]) (k.block _ b3 _ rfl trivial hc3) (RowE.cons (hE1.kp k) (RowE.cons (hE2.kp k) RowE.nil)) rfl (by omega) (by omega)
 refine VO.call rfl rfl (fk Tryz.func16) (fun wa4 ka4 ba4 => (tOf_well _ work18 2 wa4 (hS wa4 ka4) (by omega) (by decide) work18_well).mono ?_)
 rintro e w4 ⟨g4, rfl, hg4, q4, hb4⟩
 rw [work18_taken] at q4
 refine ⟨_, rfl, hb4, fun kb4 _ bb4 => wV rfl ?_⟩
 (repeat first|refine wN ?_|refine wP rfl ?_|refine cxT_r rfl ?_|refine cxT_d rfl ?_|refine wO rfl rfl ?_)
 refine VS.loop (J := fun m L M w' => ∃ z : Nat, z ≤ 5 ∧ m = 5 - z ∧ L = [(1, .val (.func (.func 41) #[] #[])), (2, .val (.pointer (some ⟨g4, 0, none⟩))), (3, .val (.int .i64 0)), (4, .row 19 0 5 5), (5, .row 20 0 5 5), (6, .val (.int .i64 (z : Int)))] ∧
   M = [(19, (2, ([0, 3, 8, 3, 0] : List Int).map fun x => AV.val (.int .i64 x))), (20, (2, ([9, 11, 3, 0, 0] : List Int).map fun x => AV.val (.int .i64 x)))] ∧ LedAt 2 w' wa4.heap.size g4 work18) 5 ⟨_, _, ?_, ?_, ?_, ?_, ⟨0, by omega, rfl, rfl, rfl, q4⟩⟩ ?_
 ·(repeat first|exact trivial|refine ⟨rfl, ?_⟩)
 ·(repeat first|exact trivial|refine ⟨rfl, ?_⟩)
 ·rfl
 ·(repeat first|exact trivial|refine ⟨ClosedC.lit rfl, ?_⟩|refine ⟨ClosedC.vals _, ?_⟩)
 rintro m L M wJ ⟨z, hz, rfl, rfl, rfl, hled⟩
 (repeat first|refine wN ?_|refine wP rfl ?_|refine cxT_r rfl ?_|refine cxT_d rfl ?_|refine wO rfl rfl ?_)
 by_cases hlt : z < 5
 ·obtain ⟨d, b, hd, hb, hdue, hbal, g1, g2, g3, g4'⟩ := work18_num z hlt
  refine VS.condY rfl (decide_eq_true (by omega)) ?_
  (repeat first|refine wN ?_|refine wP rfl ?_|refine cxT_r rfl ?_|refine cxT_d rfl ?_|refine wO rfl rfl ?_)
  refine VO.call rfl rfl (fk Tryz.func24) (fun wa5 ka5 ba5 => (tDue_any g4 work18 2 (z : Int) wa5 (hled.kp ka5 rfl rfl).in (by omega) (by unfold i64b; omega) (by decide)).mono ?_)
  rintro e w5 ⟨r5, rfl, q5, hs5, hb5⟩
  obtain ⟨s5, p5, n5, c5, t5, y5, m5, d5, rfl⟩ := q5.form
  refine ⟨_, rfl, hb5, fun kb5 _ bb5 => wV rfl ?_⟩
  (repeat first|refine wN ?_|refine wP rfl ?_|refine cxT_r rfl ?_|refine cxT_d rfl ?_|refine wO rfl rfl ?_)
  refine VO.cond rfl ⟨by omega, by omega⟩ ?_
  refine wV rfl ?_
  (repeat first|refine wN ?_|refine wP rfl ?_|refine cxT_r rfl ?_|refine cxT_d rfl ?_|refine wO rfl rfl ?_)
  refine VO.peek rfl [.val (.int .i64 d)] rfl (peek_ints hd) (wV rfl ?_)
  refine VO.call rfl rfl (fk Tryz.func41) (fun wa6 ka6 ba6 => (filBy_any d 1 wa6 (by omega) (by omega) (by omega) (by omega)).mono ?_)
  rintro e w6 ⟨r6, rfl, q6, hb6⟩
  obtain ⟨s6, p6, n6, c6, t6, y6, m6, d6, rfl⟩ := q6.form
  refine ⟨_, rfl, hb6, fun kb6 _ bb6 => wV rfl ?_⟩
  (repeat first|refine wN ?_|refine wP rfl ?_|refine cxT_r rfl ?_|refine cxT_d rfl ?_|refine wO rfl rfl ?_)
  refine VO.call rfl rfl (fk Tryz.func21) (fun wa7 ka7 ba7 => (ratCmp_ok _ _ (edueR work18 z) (Rat.divInt d 1) _ 2 wa7 (q5.ki hs5) (q6.ki (i64_rsz (by omega) (by omega) (by omega) (by omega))) (by decide) (by omega) 0 (rcmp_eq hdue)).mono ?_)
  rintro e w7 ⟨rfl, hb7⟩
  skip
  refine ⟨_, rfl, hb7, fun kb7 _ bb7 => wV rfl ?_⟩
  (repeat first|refine wN ?_|refine wP rfl ?_|refine cxT_r rfl ?_|refine cxT_d rfl ?_|refine wO rfl rfl ?_)
  refine VO.call rfl rfl (fk Tryz.func22) (fun wa8 ka8 ba8 => (tBalance_any g4 work18 2 (z : Int) wa8 (hled.kp (by (with_reducible (repeat (first | assumption | exact kU _ | exact kR _ | exact Kp.of (U := UU) (by assumption) | exact KpS.of (by assumption) | refine kT ?_ (by assumption))))) rfl rfl).in (ewell_iff.1 work18_well) (by omega) (by unfold i64b; omega) (by decide)).mono ?_)
  rintro e w8 ⟨r8, rfl, q8, hs8, hb8⟩
  obtain ⟨s8, p8, n8, c8, t8, y8, m8, d8, rfl⟩ := q8.form
  refine ⟨_, rfl, hb8, fun kb8 _ bb8 => wV rfl ?_⟩
  (repeat first|refine wN ?_|refine wP rfl ?_|refine cxT_r rfl ?_|refine cxT_d rfl ?_|refine wO rfl rfl ?_)
  refine VO.cond rfl ⟨by omega, by omega⟩ ?_
  refine wV rfl ?_
  (repeat first|refine wN ?_|refine wP rfl ?_|refine cxT_r rfl ?_|refine cxT_d rfl ?_|refine wO rfl rfl ?_)
  refine VO.peek rfl [.val (.int .i64 b)] rfl (peek_ints hb) (wV rfl ?_)
  refine VO.call rfl rfl (fk Tryz.func41) (fun wa9 ka9 ba9 => (filBy_any b 1 wa9 (by omega) (by omega) (by omega) (by omega)).mono ?_)
  rintro e w9 ⟨r9, rfl, q9, hb9⟩
  obtain ⟨s9, p9, n9, c9, t9, y9, m9, d9, rfl⟩ := q9.form
  refine ⟨_, rfl, hb9, fun kb9 _ bb9 => wV rfl ?_⟩
  (repeat first|refine wN ?_|refine wP rfl ?_|refine cxT_r rfl ?_|refine cxT_d rfl ?_|refine wO rfl rfl ?_)
  refine VO.call rfl rfl (fk Tryz.func21) (fun wa10 ka10 ba10 => (ratCmp_ok _ _ (ebalR work18 z) (Rat.divInt b 1) _ 2 wa10 (q8.ki hs8) (q9.ki (i64_rsz (by omega) (by omega) (by omega) (by omega))) (by decide) (by omega) 0 (rcmp_eq hbal)).mono ?_)
  rintro e w10 ⟨rfl, hb10⟩
  skip
  refine ⟨_, rfl, hb10, fun kb10 _ bb10 => wV rfl ?_⟩
  (repeat first|refine wN ?_|refine wP rfl ?_|refine cxT_r rfl ?_|refine cxT_d rfl ?_|refine wO rfl rfl ?_)
  refine VS.back (5 - (z + 1)) (by omega) ⟨_, _, ?_, ?_, ?_, ?_, ⟨z + 1, by omega, rfl, rfl, rfl, hled.kp (by (with_reducible (repeat (first | assumption | exact kU _ | exact kR _ | exact Kp.of (U := UU) (by assumption) | exact KpS.of (by assumption) | refine kT ?_ (by assumption))))) rfl rfl⟩⟩
  ·refine ⟨rfl, rfl, rfl, rfl, rfl, ?_, trivial⟩
   rw [← nat_step (i := z) (by omega)]; rfl
  ·(repeat first|exact trivial|refine ⟨rfl, ?_⟩)
  ·rfl
  ·(repeat first|exact trivial|refine ⟨ClosedC.lit rfl, ?_⟩|refine ⟨ClosedC.vals _, ?_⟩)
 ·refine VS.condN rfl (decide_eq_false (by omega)) ?_
  (repeat first|refine wN ?_|refine wP rfl ?_|refine cxT_r rfl ?_|refine cxT_d rfl ?_|refine wO rfl rfl ?_)
  refine VO.call rfl rfl (fk Tryz.func35) (fun wa11 ka11 ba11 => (tNew_any wa11).mono ?_)
  rintro e w11 ⟨g11, rfl, hg11, hc11, hb11⟩
  skip
  refine ⟨_, rfl, hb11, fun kb11 _ bb11 => wV rfl ?_⟩
  (repeat first|refine wN ?_|refine wP rfl ?_|refine cxT_r rfl ?_|refine cxT_d rfl ?_|refine wO rfl rfl ?_)
  refine VO.call rfl rfl (fk Tryz.func41) (fun wa12 ka12 ba12 => (filBy_any 1 1 wa12 (by omega) (by omega) (by omega) (by omega)).mono ?_)
  rintro e w12 ⟨r12, rfl, q12, hb12⟩
  obtain ⟨s12, p12, n12, c12, t12, y12, m12, d12, rfl⟩ := q12.form
  refine ⟨_, rfl, hb12, fun kb12 _ bb12 => wV rfl ?_⟩
  (repeat first|refine wN ?_|refine wP rfl ?_|refine cxT_r rfl ?_|refine cxT_d rfl ?_|refine wO rfl rfl ?_)
  have hz1 : RSz (Rat.divInt 1 1) 2 := i64_rsz (by omega) (by omega) (by omega) (by omega)
  refine VO.call rfl rfl (fk Tryz.func36) (fun wa13 ka13 ba13 => (tPut_wrong ⟨g11, 0, none⟩ _ 0 0 _ _ _ _ 2 wa13 q12.kr.raw (by unfold i64b; omega) (by unfold i64b; omega) hz1.1 hz1.2 (by omega) rfl).mono ?_)
  rintro e w13 ⟨rfl, hb13⟩
  skip
  refine ⟨_, rfl, hb13, fun kb13 _ bb13 => wV rfl ?_⟩
  (repeat first|refine wN ?_|refine wP rfl ?_|refine cxT_r rfl ?_|refine cxT_d rfl ?_|refine wO rfl rfl ?_)
  refine VO.call rfl rfl (fk Tryz.func41) (fun wa14 ka14 ba14 => (filBy_any 1 1 wa14 (by omega) (by omega) (by omega) (by omega)).mono ?_)
  rintro e w14 ⟨r14, rfl, q14, hb14⟩
  obtain ⟨s14, p14, n14, c14, t14, y14, m14, d14, rfl⟩ := q14.form
  refine ⟨_, rfl, hb14, fun kb14 _ bb14 => wV rfl ?_⟩
  (repeat first|refine wN ?_|refine wP rfl ?_|refine cxT_r rfl ?_|refine cxT_d rfl ?_|refine wO rfl rfl ?_)
  refine VO.call rfl rfl (fk Tryz.func36) (fun wa15 ka15 ba15 => (tPut_wrong ⟨g11, 0, none⟩ _ 0 41 _ _ _ _ 2 wa15 q14.kr.raw (by unfold i64b; omega) (by unfold i64b; omega) hz1.1 hz1.2 (by omega) rfl).mono ?_)
  rintro e w15 ⟨rfl, hb15⟩
  skip
  refine ⟨_, rfl, hb15, fun kb15 _ bb15 => wV rfl ?_⟩
  (repeat first|refine wN ?_|refine wP rfl ?_|refine cxT_r rfl ?_|refine cxT_d rfl ?_|refine wO rfl rfl ?_)
  refine VS.ret (cxT_ok _ _) rfl rfl (fun wz kz bz => ?_)
  exact ⟨rfl, bz⟩
end Go.Proofs.YtohlmpibnnkanaaGreat
