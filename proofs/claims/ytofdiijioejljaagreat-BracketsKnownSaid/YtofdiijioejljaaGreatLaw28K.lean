/- BracketsKnown: what this statement's function answers. (Printed by gen28k.py.) -/
import Derived.Test.YtofdiijioejljaaGreatLaw28E
import Derived.Test.YtofdiijioejljaaGreatLaw28G
import Derived.Test.YtofdiijioejljaaGreatLaw28M
set_option linter.all false
set_option maxRecDepth 4000
namespace Go.Proofs.YtofdiijioejljaaGreat
open Go.RowKit
attribute [local irreducible] vcOps VS

theorem wrap_bd (n : Int) : -9223372036854775808 ≤ IntKind.i64.wrap n ∧ IntKind.i64.wrap n ≤ 9223372036854775807 := by rw [IntKind.wrap_i64]; omega
theorem step_8 {z : Nat} (h : z < 48) : ((z + 1 : Nat) : Int) - 8 = IntKind.i64.wrap ((z : Int) - 8 + 1) := by rw [IntWalk.i64_in _ (by omega)]; omega
theorem peek_at {cs : List Value} {z : Nat} {v : Value} (h : cs[z]? = some v) : ∀ (j : Nat) (u : AV), ([.val v] : List AV)[j]? = some u → (cs.map AV.val)[0 + ((z : Int)).toNat * 1 + j]? = some u := by
 intro j u hj
 cases j with
 | zero => cases hj; rw [Int.toNat_natCast, Nat.zero_add, Nat.mul_one, Nat.add_zero, List.getElem?_map, h]; rfl
 | succ j => cases hj
theorem nul_raw (w : World) : RatRaw w (.agg #[.bool false, .slice none 0 0, .bool false, .slice none 0 0]) false [] false [] := ⟨none, 0, none, 0, rfl, NumAt.nul w, NumAt.nul w⟩
theorem num_raw {w : World} {s : Bool} {p : Option Addr} {n c : Nat} {X : Int} (h : IntRd w (.agg #[.bool s, .slice p n c]) X) : RatRaw w (.agg #[.bool s, .slice p n c, .bool false, .slice none 0 0]) (decide (X < 0)) (limbs X.natAbs) false [] := by
 have h0 := h
 obtain ⟨p', c', e, -⟩ := h
 simp only [Value.agg.injEq, Array.mk.injEq, List.cons.injEq, Value.bool.injEq, Value.slice.injEq, and_true] at e
 obtain ⟨rfl, rfl, rfl, rfl⟩ := e
 exact ⟨_, _, _, _, rfl, h0, NumAt.nul w⟩
theorem crr_E0 {kk : Nat} {w : World} {q : Rat} {s t : Bool} {p u : Option Addr} {a c b d : Nat} (h : RatRd w (.agg #[.bool s, .slice p a c, .bool t, .slice u b d]) q) (hs : RSz q kk) :
  BrE kk w [.bool s, .slice p a c, .bool t, .slice u b d, .bool false, .slice none 0 0, .bool false, .slice none 0 0] (crr q, (false, [], false, [])) := by
 have hr := h.raw
 obtain ⟨_, _, _, _, hv, h1, h2⟩ := hr
 simp only [Value.agg.injEq, Array.mk.injEq, List.cons.injEq, Value.bool.injEq, Value.slice.injEq, and_true] at hv
 obtain ⟨rfl, ⟨rfl, rfl, rfl⟩, rfl, rfl, rfl, rfl⟩ := hv
 exact ⟨_, _, _, _, _, _, _, _, rfl, ⟨_, _, _, _, rfl, h1, h2⟩, nul_raw w, hs.1, hs.2, Nat.zero_le _, Nat.zero_le _⟩
theorem crr_0E {kk : Nat} {w : World} {q : Rat} {s t : Bool} {p u : Option Addr} {a c b d : Nat} (h : RatRd w (.agg #[.bool s, .slice p a c, .bool t, .slice u b d]) q) (hs : RSz q kk) :
  BrE kk w [.bool false, .slice none 0 0, .bool false, .slice none 0 0, .bool s, .slice p a c, .bool t, .slice u b d] ((false, [], false, []), crr q) := by
 have hr := h.raw
 obtain ⟨_, _, _, _, hv, h1, h2⟩ := hr
 simp only [Value.agg.injEq, Array.mk.injEq, List.cons.injEq, Value.bool.injEq, Value.slice.injEq, and_true] at hv
 obtain ⟨rfl, ⟨rfl, rfl, rfl⟩, rfl, rfl, rfl, rfl⟩ := hv
 exact ⟨_, _, _, _, _, _, _, _, rfl, nul_raw w, ⟨_, _, _, _, rfl, h1, h2⟩, Nat.zero_le _, Nat.zero_le _, hs.1, hs.2⟩
def fall28 : List RBr := [(crr (Rat.divInt 0 1), crr (Rat.divInt 1 1)), (crr (Rat.divInt 1 3), crr (Rat.divInt 0 1)), (crr (Rat.divInt 10 1), crr (Rat.divInt 1 2)), (crr (Rat.divInt 1000001 100), crr (Rat.divInt 1 7))]
def bad28_0 : List RBr := [(crr (Rat.divInt 1 1), crr (Rat.divInt 1 2))]
theorem bad28_0_no : bright bad28_0 = false := by decide +kernel
def bad28_1 : List RBr := [(crr (Rat.divInt 0 1), crr (Rat.divInt 3 2))]
theorem bad28_1_no : bright bad28_1 = false := by decide +kernel
def bad28_2 : List RBr := [(crr (Rat.divInt 0 1), crr (Rat.divInt (-1) 2))]
theorem bad28_2_no : bright bad28_2 = false := by decide +kernel
def bad28_3 : List RBr := [(crr (Rat.divInt 0 1), (false, [], false, []))]
theorem bad28_3_no : bright bad28_3 = false := by decide +kernel
def bad28_4 : List RBr := [((false, [], false, []), crr (Rat.divInt 1 2))]
theorem bad28_4_no : bright bad28_4 = false := by decide +kernel
def bad28_5 : List RBr := [(crr (Rat.divInt 0 1), crr (Rat.divInt 1 2)), (crr (Rat.divInt 0 1), crr (Rat.divInt 1 2))]
theorem bad28_5_no : bright bad28_5 = false := by decide +kernel
def bad28_6 : List RBr := [(crr (Rat.divInt 0 1), crr (Rat.divInt 1 2)), (crr (Rat.divInt 5 1), crr (Rat.divInt 1 2)), (crr (Rat.divInt 4 1), crr (Rat.divInt 1 2))]
theorem bad28_6_no : bright bad28_6 = false := by decide +kernel
set_option maxRecDepth 4000 in
set_option maxHeartbeats 4000000 in
theorem known28_any (w : World) : Calls Tryz.prog 6 #[] w fun e w' => e = .returned (.bool true) ∧ Beh w w' := by
 refine calm_enter (C := cxK Tryz.prog w _) (args := []) Tryz.func6 rfl Tryz.ntmps6 (Nat.le_of_ble_eq_true rfl) ?_
 (repeat first|refine wN ?_|refine wP rfl ?_|refine cxK_r rfl ?_|refine cxK_d rfl ?_|refine wO rfl rfl ?_)
 refine VO.call rfl rfl (fk Tryz.func36) (fun wa1 ka1 ba1 => (filBy_any 0 1 wa1 (by omega) (by omega) (by omega) (by omega)).mono ?_)
 rintro e w1 ⟨r1, rfl, q1, hb1⟩
 obtain ⟨s1, p1, n1, c1, t1, y1, m1, d1, rfl⟩ := q1.form
 refine ⟨_, rfl, hb1, fun kb1 _ bb1 => wV rfl ?_⟩
 (repeat first|refine wN ?_|refine wP rfl ?_|refine cxK_r rfl ?_|refine cxK_d rfl ?_|refine wO rfl rfl ?_)
 refine VO.call rfl rfl (fk Tryz.func36) (fun wa2 ka2 ba2 => (filBy_any 1 1 wa2 (by omega) (by omega) (by omega) (by omega)).mono ?_)
 rintro e w2 ⟨r2, rfl, q2, hb2⟩
 obtain ⟨s2, p2, n2, c2, t2, y2, m2, d2, rfl⟩ := q2.form
 refine ⟨_, rfl, hb2, fun kb2 _ bb2 => wV rfl ?_⟩
 (repeat first|refine wN ?_|refine wP rfl ?_|refine cxK_r rfl ?_|refine cxK_d rfl ?_|refine wO rfl rfl ?_)
 refine VO.call rfl rfl (fk Tryz.func36) (fun wa3 ka3 ba3 => (filBy_any 1 3 wa3 (by omega) (by omega) (by omega) (by omega)).mono ?_)
 rintro e w3 ⟨r3, rfl, q3, hb3⟩
 obtain ⟨s3, p3, n3, c3, t3, y3, m3, d3, rfl⟩ := q3.form
 refine ⟨_, rfl, hb3, fun kb3 _ bb3 => wV rfl ?_⟩
 (repeat first|refine wN ?_|refine wP rfl ?_|refine cxK_r rfl ?_|refine cxK_d rfl ?_|refine wO rfl rfl ?_)
 refine VO.call rfl rfl (fk Tryz.func36) (fun wa4 ka4 ba4 => (filBy_any 0 1 wa4 (by omega) (by omega) (by omega) (by omega)).mono ?_)
 rintro e w4 ⟨r4, rfl, q4, hb4⟩
 obtain ⟨s4, p4, n4, c4, t4, y4, m4, d4, rfl⟩ := q4.form
 refine ⟨_, rfl, hb4, fun kb4 _ bb4 => wV rfl ?_⟩
 (repeat first|refine wN ?_|refine wP rfl ?_|refine cxK_r rfl ?_|refine cxK_d rfl ?_|refine wO rfl rfl ?_)
 refine VO.call rfl rfl (fk Tryz.func36) (fun wa5 ka5 ba5 => (filBy_any 10 1 wa5 (by omega) (by omega) (by omega) (by omega)).mono ?_)
 rintro e w5 ⟨r5, rfl, q5, hb5⟩
 obtain ⟨s5, p5, n5, c5, t5, y5, m5, d5, rfl⟩ := q5.form
 refine ⟨_, rfl, hb5, fun kb5 _ bb5 => wV rfl ?_⟩
 (repeat first|refine wN ?_|refine wP rfl ?_|refine cxK_r rfl ?_|refine cxK_d rfl ?_|refine wO rfl rfl ?_)
 refine VO.call rfl rfl (fk Tryz.func36) (fun wa6 ka6 ba6 => (filBy_any 1 2 wa6 (by omega) (by omega) (by omega) (by omega)).mono ?_)
 rintro e w6 ⟨r6, rfl, q6, hb6⟩
 obtain ⟨s6, p6, n6, c6, t6, y6, m6, d6, rfl⟩ := q6.form
 refine ⟨_, rfl, hb6, fun kb6 _ bb6 => wV rfl ?_⟩
 (repeat first|refine wN ?_|refine wP rfl ?_|refine cxK_r rfl ?_|refine cxK_d rfl ?_|refine wO rfl rfl ?_)
 refine VO.call rfl rfl (fk Tryz.func36) (fun wa7 ka7 ba7 => (filBy_any 1000001 100 wa7 (by omega) (by omega) (by omega) (by omega)).mono ?_)
 rintro e w7 ⟨r7, rfl, q7, hb7⟩
 obtain ⟨s7, p7, n7, c7, t7, y7, m7, d7, rfl⟩ := q7.form
 refine ⟨_, rfl, hb7, fun kb7 _ bb7 => wV rfl ?_⟩
 (repeat first|refine wN ?_|refine wP rfl ?_|refine cxK_r rfl ?_|refine cxK_d rfl ?_|refine wO rfl rfl ?_)
 refine VO.call rfl rfl (fk Tryz.func36) (fun wa8 ka8 ba8 => (filBy_any 1 7 wa8 (by omega) (by omega) (by omega) (by omega)).mono ?_)
 rintro e w8 ⟨r8, rfl, q8, hb8⟩
 obtain ⟨s8, p8, n8, c8, t8, y8, m8, d8, rfl⟩ := q8.form
 refine ⟨_, rfl, hb8, fun kb8 _ bb8 => wV rfl ?_⟩
 (repeat first|refine wN ?_|refine wP rfl ?_|refine cxK_r rfl ?_|refine cxK_d rfl ?_|refine wO rfl rfl ?_)
 refine VO.litE (cxK_ok _ _) (sz := 8) [.agg #[.bool s1, .slice p1 n1 c1, .bool t1, .slice y1 m1 d1, .bool s2, .slice p2 n2 c2, .bool t2, .slice y2 m2 d2], .agg #[.bool s3, .slice p3 n3 c3, .bool t3, .slice y3 m3 d3, .bool s4, .slice p4 n4 c4, .bool t4, .slice y4 m4 d4], .agg #[.bool s5, .slice p5 n5 c5, .bool t5, .slice y5 m5 d5, .bool s6, .slice p6 n6 c6, .bool t6, .slice y6 m6 d6], .agg #[.bool s7, .slice p7 n7 c7, .bool t7, .slice y7 m7 d7, .bool s8, .slice p8 n8 c8, .bool t8, .slice y8 m8 d8]] [.bool s1, .slice p1 n1 c1, .bool t1, .slice y1 m1 d1, .bool s2, .slice p2 n2 c2, .bool t2, .slice y2 m2 d2, .bool s3, .slice p3 n3 c3, .bool t3, .slice y3 m3 d3, .bool s4, .slice p4 n4 c4, .bool t4, .slice y4 m4 d4, .bool s5, .slice p5 n5 c5, .bool t5, .slice y5 m5 d5, .bool s6, .slice p6 n6 c6, .bool t6, .slice y6 m6 d6, .bool s7, .slice p7 n7 c7, .bool t7, .slice y7 m7 d7, .bool s8, .slice p8 n8 c8, .bool t8, .slice y8 m8 d8] rfl rfl rfl rfl rfl rfl rfl rfl rfl rfl (by decide) (fun w9 b9 kb9 bb9 hB9 hc9 => wV rfl ?_)
 have h9 : RowNew (BrE 2) 8 59 w.heap.size w9 (.slice (some ⟨b9, 0, none⟩) 4 4) fall28 := .inr ⟨b9, 4, [[.bool s1, .slice p1 n1 c1, .bool t1, .slice y1 m1 d1, .bool s2, .slice p2 n2 c2, .bool t2, .slice y2 m2 d2], [.bool s3, .slice p3 n3 c3, .bool t3, .slice y3 m3 d3, .bool s4, .slice p4 n4 c4, .bool t4, .slice y4 m4 d4], [.bool s5, .slice p5 n5 c5, .bool t5, .slice y5 m5 d5, .bool s6, .slice p6 n6 c6, .bool t6, .slice y6 m6 d6], [.bool s7, .slice p7 n7 c7, .bool t7, .slice y7 m7 d7, .bool s8, .slice p8 n8 c8, .bool t8, .slice y8 m8 d8]], [], rfl, hB9, hc9, (RowE.cons (crr_E q1.kr (i64_rsz (by omega) (by omega) (by omega) (by omega)) q2.kr (i64_rsz (by omega) (by omega) (by omega) (by omega))) (RowE.cons (crr_E q3.kr (i64_rsz (by omega) (by omega) (by omega) (by omega)) q4.kr (i64_rsz (by omega) (by omega) (by omega) (by omega))) (RowE.cons (crr_E q5.kr (i64_rsz (by omega) (by omega) (by omega) (by omega)) q6.kr (i64_rsz (by omega) (by omega) (by omega) (by omega))) (RowE.cons (crr_E q7.kr (i64_rsz (by omega) (by omega) (by omega) (by omega)) q8.kr (i64_rsz (by omega) (by omega) (by omega) (by omega))) RowE.nil)))), rfl, by decide, by decide, rfl⟩
 (repeat first|refine wN ?_|refine wP rfl ?_|refine cxK_r rfl ?_|refine cxK_d rfl ?_|refine wO rfl rfl ?_)
 refine VS.loop (J := fun m L M w' => ∃ z : Nat, z ≤ 48 ∧ m = 48 - z ∧ L = [(1, .val (.func (.func 36) #[] #[])), (2, .val (.slice (some ⟨b9, 0, none⟩) 4 4)), (3, .val (.int .i64 ((z : Int) - 8)))] ∧ M = [] ∧ KpS (cxK Tryz.prog w 189).K w9 w') 48 ⟨_, _, ?_, ?_, ?_, ?_, ⟨0, by omega, rfl, rfl, rfl, kR _⟩⟩ ?_
 ·(repeat first|exact trivial|refine ⟨rfl, ?_⟩)
 ·(repeat first|exact trivial|refine ⟨rfl, ?_⟩)
 ·rfl
 ·(repeat first|exact trivial|refine ⟨ClosedC.lit rfl, ?_⟩|refine ⟨ClosedC.vals _, ?_⟩)
 rintro m L M w10 ⟨z, hz, rfl, rfl, rfl, kw10⟩
 (repeat first|refine wN ?_|refine wP rfl ?_|refine cxK_r rfl ?_|refine cxK_d rfl ?_|refine wO rfl rfl ?_)
 by_cases hlt : z < 48
 ·refine VS.condY rfl (decide_eq_true (show (z : Int) - 8 < 40 by omega)) ?_
  obtain ⟨X, hX⟩ : ∃ X, X = IntKind.i64.wrap (IntKind.i64.wrap (((z : Int) - 8) * ((z : Int) - 8)) * ((z : Int) - 8)) := ⟨_, rfl⟩
  obtain ⟨Y, hY⟩ : ∃ Y, Y = IntKind.i64.wrap (((z : Int) - 8) * 250) := ⟨_, rfl⟩
  obtain ⟨V, hV⟩ : ∃ V, V = IntKind.i64.wrap (((z : Int) - 8) * 100) := ⟨_, rfl⟩
  have x1 : -9223372036854775808 ≤ X ∧ X ≤ 9223372036854775807 := hX ▸ wrap_bd _
  have y1' : -9223372036854775808 ≤ Y ∧ Y ≤ 9223372036854775807 := hY ▸ wrap_bd _
  have v1 : -9223372036854775808 ≤ V ∧ V ≤ 9223372036854775807 := hV ▸ wrap_bd _
  (repeat first|refine wN ?_|refine wP rfl ?_|refine cxK_r rfl ?_|refine cxK_d rfl ?_|refine wO rfl rfl ?_)
  refine VO.fix 38 rfl (congrArg (fun z => AV.val (.int .i64 z)) (hX.symm)) ?_
  refine VO.call rfl rfl (fk Tryz.func36) (fun wa11 ka11 ba11 => (filBy_any X 3 wa11 x1.1 x1.2 (by omega) (by omega)).mono ?_)
  rintro e w11 ⟨r11, rfl, q11, hb11⟩
  obtain ⟨s11, p11, n11, c11, t11, y11, m11, d11, rfl⟩ := q11.form
  refine ⟨_, rfl, hb11, fun kb11 _ bb11 => wV rfl ?_⟩
  (repeat first|refine wN ?_|refine wP rfl ?_|refine cxK_r rfl ?_|refine cxK_d rfl ?_|refine wO rfl rfl ?_)
  refine VO.fix 42 rfl (congrArg (fun z => AV.val (.int .i64 z)) (hY.symm)) ?_
  refine VO.call rfl rfl (fk Tryz.func36) (fun wa12 ka12 ba12 => (filBy_any Y 1 wa12 y1'.1 y1'.2 (by omega) (by omega)).mono ?_)
  rintro e w12 ⟨r12, rfl, q12, hb12⟩
  obtain ⟨s12, p12, n12, c12, t12, y12, m12, d12, rfl⟩ := q12.form
  refine ⟨_, rfl, hb12, fun kb12 _ bb12 => wV rfl ?_⟩
  (repeat first|refine wN ?_|refine wP rfl ?_|refine cxK_r rfl ?_|refine cxK_d rfl ?_|refine wO rfl rfl ?_)
  refine VO.call rfl rfl (fk Tryz.func37) (fun wa13 ka13 ba13 => (ex28_any wa13).mono ?_)
  rintro e w13 ⟨r13, rfl, q13, hb13⟩
  obtain ⟨pe13, ce13, rfl⟩ := q13.form
  refine ⟨_, rfl, hb13, fun kb13 _ bb13 => wV rfl ?_⟩
  (repeat first|refine wN ?_|refine wP rfl ?_|refine cxK_r rfl ?_|refine cxK_d rfl ?_|refine wO rfl rfl ?_)
  refine VO.call rfl rfl (fk Tryz.func3) (fun wa14 ka14 ba14 => (tax28_any _ _ _ ex28 _ _ _ _ _ _ _ _ 2 wa14 ((q13.kp (br_ok 2) (by (with_reducible (repeat (first | assumption | exact kU _ | exact kR _ | exact Kp.of (U := UU) (by assumption) | exact KpS.of (by assumption) | refine kT ?_ (by assumption))))) rfl).sl (br_ok 2)) q11.kr.raw q12.kr.raw).mono ?_)
  rintro e w14 ⟨rfl, hb14⟩
  skip
  refine ⟨_, rfl, hb14, fun kb14 _ bb14 => wV rfl ?_⟩
  (repeat first|refine wN ?_|refine wP rfl ?_|refine cxK_r rfl ?_|refine cxK_d rfl ?_|refine wO rfl rfl ?_)
  refine VO.call rfl rfl (fk Tryz.func3) (fun wa15 ka15 ba15 => (tax28_any _ _ _ fall28 _ _ _ _ _ _ _ _ 2 wa15 ((h9.kp (br_ok 2) (by (with_reducible (repeat (first | assumption | exact kU _ | exact kR _ | exact Kp.of (U := UU) (by assumption) | exact KpS.of (by assumption) | refine kT ?_ (by assumption))))) rfl).sl (br_ok 2)) q12.kr.raw q11.kr.raw).mono ?_)
  rintro e w15 ⟨rfl, hb15⟩
  skip
  refine ⟨_, rfl, hb15, fun kb15 _ bb15 => wV rfl ?_⟩
  (repeat first|refine wN ?_|refine wP rfl ?_|refine cxK_r rfl ?_|refine cxK_d rfl ?_|refine wO rfl rfl ?_)
  refine VO.call rfl rfl (fk Tryz.func37) (fun wa16 ka16 ba16 => (ex28_any wa16).mono ?_)
  rintro e w16 ⟨r16, rfl, q16, hb16⟩
  obtain ⟨pe16, ce16, rfl⟩ := q16.form
  refine ⟨_, rfl, hb16, fun kb16 _ bb16 => wV rfl ?_⟩
  (repeat first|refine wN ?_|refine wP rfl ?_|refine cxK_r rfl ?_|refine cxK_d rfl ?_|refine wO rfl rfl ?_)
  refine VO.call rfl rfl (fk Tryz.func36) (fun wa17 ka17 ba17 => (filBy_any ((z : Int) - 8) 1 wa17 (by omega) (by omega) (by omega) (by omega)).mono ?_)
  rintro e w17 ⟨r17, rfl, q17, hb17⟩
  obtain ⟨s17, p17, n17, c17, t17, y17, m17, d17, rfl⟩ := q17.form
  refine ⟨_, rfl, hb17, fun kb17 _ bb17 => wV rfl ?_⟩
  (repeat first|refine wN ?_|refine wP rfl ?_|refine cxK_r rfl ?_|refine cxK_d rfl ?_|refine wO rfl rfl ?_)
  refine VO.call rfl rfl (fk Tryz.func5) (fun wa18 ka18 ba18 => (grow28_any _ _ _ _ ex28 _ _ _ _ _ _ _ _ _ _ _ _ 2 wa18 ((q16.kp (br_ok 2) (by (with_reducible (repeat (first | assumption | exact kU _ | exact kR _ | exact Kp.of (U := UU) (by assumption) | exact KpS.of (by assumption) | refine kT ?_ (by assumption))))) rfl).sl (br_ok 2)) q11.kr.raw q12.kr.raw q17.kr.raw).mono ?_)
  rintro e w18 ⟨rfl, hb18⟩
  skip
  refine ⟨_, rfl, hb18, fun kb18 _ bb18 => wV rfl ?_⟩
  (repeat first|refine wN ?_|refine wP rfl ?_|refine cxK_r rfl ?_|refine cxK_d rfl ?_|refine wO rfl rfl ?_)
  refine VO.call rfl rfl (fk Tryz.func36) (fun wa19 ka19 ba19 => (filBy_any ((z : Int) - 8) 100 wa19 (by omega) (by omega) (by omega) (by omega)).mono ?_)
  rintro e w19 ⟨r19, rfl, q19, hb19⟩
  obtain ⟨s19, p19, n19, c19, t19, y19, m19, d19, rfl⟩ := q19.form
  refine ⟨_, rfl, hb19, fun kb19 _ bb19 => wV rfl ?_⟩
  (repeat first|refine wN ?_|refine wP rfl ?_|refine cxK_r rfl ?_|refine cxK_d rfl ?_|refine wO rfl rfl ?_)
  refine VO.call rfl rfl (fk Tryz.func5) (fun wa20 ka20 ba20 => (grow28_any _ _ _ _ fall28 _ _ _ _ _ _ _ _ _ _ _ _ 2 wa20 ((h9.kp (br_ok 2) (by (with_reducible (repeat (first | assumption | exact kU _ | exact kR _ | exact Kp.of (U := UU) (by assumption) | exact KpS.of (by assumption) | refine kT ?_ (by assumption))))) rfl).sl (br_ok 2)) q11.kr.raw q12.kr.raw q19.kr.raw).mono ?_)
  rintro e w20 ⟨rfl, hb20⟩
  skip
  refine ⟨_, rfl, hb20, fun kb20 _ bb20 => wV rfl ?_⟩
  (repeat first|refine wN ?_|refine wP rfl ?_|refine cxK_r rfl ?_|refine cxK_d rfl ?_|refine wO rfl rfl ?_)
  refine VO.call rfl rfl (fk Tryz.func37) (fun wa21 ka21 ba21 => (ex28_any wa21).mono ?_)
  rintro e w21 ⟨r21, rfl, q21, hb21⟩
  obtain ⟨pe21, ce21, rfl⟩ := q21.form
  refine ⟨_, rfl, hb21, fun kb21 _ bb21 => wV rfl ?_⟩
  (repeat first|refine wN ?_|refine wP rfl ?_|refine cxK_r rfl ?_|refine cxK_d rfl ?_|refine wO rfl rfl ?_)
  refine VO.fix 80 rfl (congrArg (fun z => AV.val (.int .i64 z)) (hV.symm)) ?_
  refine VO.call rfl rfl (fk Tryz.func36) (fun wa22 ka22 ba22 => (filBy_any V 1 wa22 v1.1 v1.2 (by omega) (by omega)).mono ?_)
  rintro e w22 ⟨r22, rfl, q22, hb22⟩
  obtain ⟨s22, p22, n22, c22, t22, y22, m22, d22, rfl⟩ := q22.form
  refine ⟨_, rfl, hb22, fun kb22 _ bb22 => wV rfl ?_⟩
  (repeat first|refine wN ?_|refine wP rfl ?_|refine cxK_r rfl ?_|refine cxK_d rfl ?_|refine wO rfl rfl ?_)
  refine VO.call rfl rfl (fk Tryz.func4) (fun wa23 ka23 ba23 => (more28_any _ _ _ ex28 _ _ _ _ _ _ _ _ 2 _ wa23 ((q21.kp (br_ok 2) (by (with_reducible (repeat (first | assumption | exact kU _ | exact kR _ | exact Kp.of (U := UU) (by assumption) | exact KpS.of (by assumption) | refine kT ?_ (by assumption))))) rfl).sl (br_ok 2)) q22.kr.raw q11.kr.raw).mono ?_)
  rintro e w23 ⟨rfl, hb23⟩
  skip
  refine ⟨_, rfl, hb23, fun kb23 _ bb23 => wV rfl ?_⟩
  (repeat first|refine wN ?_|refine wP rfl ?_|refine cxK_r rfl ?_|refine cxK_d rfl ?_|refine wO rfl rfl ?_)
  refine VO.call rfl rfl (fk Tryz.func36) (fun wa24 ka24 ba24 => (filBy_any ((z : Int) - 8) 2 wa24 (by omega) (by omega) (by omega) (by omega)).mono ?_)
  rintro e w24 ⟨r24, rfl, q24, hb24⟩
  obtain ⟨s24, p24, n24, c24, t24, y24, m24, d24, rfl⟩ := q24.form
  refine ⟨_, rfl, hb24, fun kb24 _ bb24 => wV rfl ?_⟩
  (repeat first|refine wN ?_|refine wP rfl ?_|refine cxK_r rfl ?_|refine cxK_d rfl ?_|refine wO rfl rfl ?_)
  refine VO.call rfl rfl (fk Tryz.func4) (fun wa25 ka25 ba25 => (more28_any _ _ _ fall28 _ _ _ _ _ _ _ _ 2 _ wa25 ((h9.kp (br_ok 2) (by (with_reducible (repeat (first | assumption | exact kU _ | exact kR _ | exact Kp.of (U := UU) (by assumption) | exact KpS.of (by assumption) | refine kT ?_ (by assumption))))) rfl).sl (br_ok 2)) q24.kr.raw q12.kr.raw).mono ?_)
  rintro e w25 ⟨rfl, hb25⟩
  skip
  refine ⟨_, rfl, hb25, fun kb25 _ bb25 => wV rfl ?_⟩
  (repeat first|refine wN ?_|refine wP rfl ?_|refine cxK_r rfl ?_|refine cxK_d rfl ?_|refine wO rfl rfl ?_)
  refine VS.back (48 - (z + 1)) (by omega) ⟨_, _, ?_, ?_, ?_, ?_, ⟨z + 1, by omega, rfl, rfl, rfl, by (with_reducible (repeat (first | assumption | exact kU _ | exact kR _ | exact Kp.of (U := UU) (by assumption) | exact KpS.of (by assumption) | refine kT ?_ (by assumption))))⟩⟩
  ·refine ⟨rfl, rfl, ?_, trivial⟩
   rw [step_8 hlt]; rfl
  ·(repeat first|exact trivial|refine ⟨rfl, ?_⟩)
  ·rfl
  ·(repeat first|exact trivial|refine ⟨ClosedC.lit rfl, ?_⟩|refine ⟨ClosedC.vals _, ?_⟩)
 ·refine VS.condN rfl (decide_eq_false (show ¬ (z : Int) - 8 < 40 by omega)) ?_
  (repeat first|refine wN ?_|refine wP rfl ?_|refine cxK_r rfl ?_|refine cxK_d rfl ?_|refine wO rfl rfl ?_)
  refine VO.call rfl rfl (fk Tryz.func36) (fun wa30 ka30 ba30 => (filBy_any 1 1 wa30 (by omega) (by omega) (by omega) (by omega)).mono ?_)
  rintro e w30 ⟨r30, rfl, q30, hb30⟩
  obtain ⟨s30, p30, n30, c30, t30, y30, m30, d30, rfl⟩ := q30.form
  refine ⟨_, rfl, hb30, fun kb30 _ bb30 => wV rfl ?_⟩
  (repeat first|refine wN ?_|refine wP rfl ?_|refine cxK_r rfl ?_|refine cxK_d rfl ?_|refine wO rfl rfl ?_)
  refine VO.call rfl rfl (fk Tryz.func36) (fun wa31 ka31 ba31 => (filBy_any 1 2 wa31 (by omega) (by omega) (by omega) (by omega)).mono ?_)
  rintro e w31 ⟨r31, rfl, q31, hb31⟩
  obtain ⟨s31, p31, n31, c31, t31, y31, m31, d31, rfl⟩ := q31.form
  refine ⟨_, rfl, hb31, fun kb31 _ bb31 => wV rfl ?_⟩
  (repeat first|refine wN ?_|refine wP rfl ?_|refine cxK_r rfl ?_|refine cxK_d rfl ?_|refine wO rfl rfl ?_)
  refine VO.litE (cxK_ok _ _) (sz := 8) [.agg #[.bool s30, .slice p30 n30 c30, .bool t30, .slice y30 m30 d30, .bool s31, .slice p31 n31 c31, .bool t31, .slice y31 m31 d31]] [.bool s30, .slice p30 n30 c30, .bool t30, .slice y30 m30 d30, .bool s31, .slice p31 n31 c31, .bool t31, .slice y31 m31 d31] rfl rfl rfl rfl rfl rfl rfl rfl rfl rfl (by decide) (fun w32 b32 kb32 bb32 hB32 hc32 => wV rfl ?_)
  have h32 : RowNew (BrE 2) 8 59 w.heap.size w32 (.slice (some ⟨b32, 0, none⟩) 1 1) bad28_0 := .inr ⟨b32, 1, [[.bool s30, .slice p30 n30 c30, .bool t30, .slice y30 m30 d30, .bool s31, .slice p31 n31 c31, .bool t31, .slice y31 m31 d31]], [], rfl, hB32, hc32, (RowE.cons (crr_E q30.kr (i64_rsz (by omega) (by omega) (by omega) (by omega)) q31.kr (i64_rsz (by omega) (by omega) (by omega) (by omega))) RowE.nil), rfl, by decide, by decide, rfl⟩
  (repeat first|refine wN ?_|refine wP rfl ?_|refine cxK_r rfl ?_|refine cxK_d rfl ?_|refine wO rfl rfl ?_)
  refine VO.call rfl rfl (fk Tryz.func36) (fun wa33 ka33 ba33 => (filBy_any 0 1 wa33 (by omega) (by omega) (by omega) (by omega)).mono ?_)
  rintro e w33 ⟨r33, rfl, q33, hb33⟩
  obtain ⟨s33, p33, n33, c33, t33, y33, m33, d33, rfl⟩ := q33.form
  refine ⟨_, rfl, hb33, fun kb33 _ bb33 => wV rfl ?_⟩
  (repeat first|refine wN ?_|refine wP rfl ?_|refine cxK_r rfl ?_|refine cxK_d rfl ?_|refine wO rfl rfl ?_)
  refine VO.call rfl rfl (fk Tryz.func36) (fun wa34 ka34 ba34 => (filBy_any 3 2 wa34 (by omega) (by omega) (by omega) (by omega)).mono ?_)
  rintro e w34 ⟨r34, rfl, q34, hb34⟩
  obtain ⟨s34, p34, n34, c34, t34, y34, m34, d34, rfl⟩ := q34.form
  refine ⟨_, rfl, hb34, fun kb34 _ bb34 => wV rfl ?_⟩
  (repeat first|refine wN ?_|refine wP rfl ?_|refine cxK_r rfl ?_|refine cxK_d rfl ?_|refine wO rfl rfl ?_)
  refine VO.litE (cxK_ok _ _) (sz := 8) [.agg #[.bool s33, .slice p33 n33 c33, .bool t33, .slice y33 m33 d33, .bool s34, .slice p34 n34 c34, .bool t34, .slice y34 m34 d34]] [.bool s33, .slice p33 n33 c33, .bool t33, .slice y33 m33 d33, .bool s34, .slice p34 n34 c34, .bool t34, .slice y34 m34 d34] rfl rfl rfl rfl rfl rfl rfl rfl rfl rfl (by decide) (fun w35 b35 kb35 bb35 hB35 hc35 => wV rfl ?_)
  have h35 : RowNew (BrE 2) 8 59 w.heap.size w35 (.slice (some ⟨b35, 0, none⟩) 1 1) bad28_1 := .inr ⟨b35, 1, [[.bool s33, .slice p33 n33 c33, .bool t33, .slice y33 m33 d33, .bool s34, .slice p34 n34 c34, .bool t34, .slice y34 m34 d34]], [], rfl, hB35, hc35, (RowE.cons (crr_E q33.kr (i64_rsz (by omega) (by omega) (by omega) (by omega)) q34.kr (i64_rsz (by omega) (by omega) (by omega) (by omega))) RowE.nil), rfl, by decide, by decide, rfl⟩
  (repeat first|refine wN ?_|refine wP rfl ?_|refine cxK_r rfl ?_|refine cxK_d rfl ?_|refine wO rfl rfl ?_)
  refine VO.call rfl rfl (fk Tryz.func36) (fun wa36 ka36 ba36 => (filBy_any 0 1 wa36 (by omega) (by omega) (by omega) (by omega)).mono ?_)
  rintro e w36 ⟨r36, rfl, q36, hb36⟩
  obtain ⟨s36, p36, n36, c36, t36, y36, m36, d36, rfl⟩ := q36.form
  refine ⟨_, rfl, hb36, fun kb36 _ bb36 => wV rfl ?_⟩
  (repeat first|refine wN ?_|refine wP rfl ?_|refine cxK_r rfl ?_|refine cxK_d rfl ?_|refine wO rfl rfl ?_)
  refine VO.call rfl rfl (fk Tryz.func36) (fun wa37 ka37 ba37 => (filBy_any (-1) 2 wa37 (by omega) (by omega) (by omega) (by omega)).mono ?_)
  rintro e w37 ⟨r37, rfl, q37, hb37⟩
  obtain ⟨s37, p37, n37, c37, t37, y37, m37, d37, rfl⟩ := q37.form
  refine ⟨_, rfl, hb37, fun kb37 _ bb37 => wV rfl ?_⟩
  (repeat first|refine wN ?_|refine wP rfl ?_|refine cxK_r rfl ?_|refine cxK_d rfl ?_|refine wO rfl rfl ?_)
  refine VO.litE (cxK_ok _ _) (sz := 8) [.agg #[.bool s36, .slice p36 n36 c36, .bool t36, .slice y36 m36 d36, .bool s37, .slice p37 n37 c37, .bool t37, .slice y37 m37 d37]] [.bool s36, .slice p36 n36 c36, .bool t36, .slice y36 m36 d36, .bool s37, .slice p37 n37 c37, .bool t37, .slice y37 m37 d37] rfl rfl rfl rfl rfl rfl rfl rfl rfl rfl (by decide) (fun w38 b38 kb38 bb38 hB38 hc38 => wV rfl ?_)
  have h38 : RowNew (BrE 2) 8 59 w.heap.size w38 (.slice (some ⟨b38, 0, none⟩) 1 1) bad28_2 := .inr ⟨b38, 1, [[.bool s36, .slice p36 n36 c36, .bool t36, .slice y36 m36 d36, .bool s37, .slice p37 n37 c37, .bool t37, .slice y37 m37 d37]], [], rfl, hB38, hc38, (RowE.cons (crr_E q36.kr (i64_rsz (by omega) (by omega) (by omega) (by omega)) q37.kr (i64_rsz (by omega) (by omega) (by omega) (by omega))) RowE.nil), rfl, by decide, by decide, rfl⟩
  (repeat first|refine wN ?_|refine wP rfl ?_|refine cxK_r rfl ?_|refine cxK_d rfl ?_|refine wO rfl rfl ?_)
  refine VO.call rfl rfl (fk Tryz.func36) (fun wa39 ka39 ba39 => (filBy_any 0 1 wa39 (by omega) (by omega) (by omega) (by omega)).mono ?_)
  rintro e w39 ⟨r39, rfl, q39, hb39⟩
  obtain ⟨s39, p39, n39, c39, t39, y39, m39, d39, rfl⟩ := q39.form
  refine ⟨_, rfl, hb39, fun kb39 _ bb39 => wV rfl ?_⟩
  (repeat first|refine wN ?_|refine wP rfl ?_|refine cxK_r rfl ?_|refine cxK_d rfl ?_|refine wO rfl rfl ?_)
  refine VO.litE (cxK_ok _ _) (sz := 8) [.agg #[.bool s39, .slice p39 n39 c39, .bool t39, .slice y39 m39 d39, .bool false, .slice none 0 0, .bool false, .slice none 0 0]] [.bool s39, .slice p39 n39 c39, .bool t39, .slice y39 m39 d39, .bool false, .slice none 0 0, .bool false, .slice none 0 0] rfl rfl rfl rfl rfl rfl rfl rfl rfl rfl (by decide) (fun w40 b40 kb40 bb40 hB40 hc40 => wV rfl ?_)
  have h40 : RowNew (BrE 2) 8 59 w.heap.size w40 (.slice (some ⟨b40, 0, none⟩) 1 1) bad28_3 := .inr ⟨b40, 1, [[.bool s39, .slice p39 n39 c39, .bool t39, .slice y39 m39 d39, .bool false, .slice none 0 0, .bool false, .slice none 0 0]], [], rfl, hB40, hc40, (RowE.cons (crr_E0 q39.kr (i64_rsz (by omega) (by omega) (by omega) (by omega))) RowE.nil), rfl, by decide, by decide, rfl⟩
  (repeat first|refine wN ?_|refine wP rfl ?_|refine cxK_r rfl ?_|refine cxK_d rfl ?_|refine wO rfl rfl ?_)
  refine VO.call rfl rfl (fk Tryz.func36) (fun wa41 ka41 ba41 => (filBy_any 1 2 wa41 (by omega) (by omega) (by omega) (by omega)).mono ?_)
  rintro e w41 ⟨r41, rfl, q41, hb41⟩
  obtain ⟨s41, p41, n41, c41, t41, y41, m41, d41, rfl⟩ := q41.form
  refine ⟨_, rfl, hb41, fun kb41 _ bb41 => wV rfl ?_⟩
  (repeat first|refine wN ?_|refine wP rfl ?_|refine cxK_r rfl ?_|refine cxK_d rfl ?_|refine wO rfl rfl ?_)
  refine VO.litE (cxK_ok _ _) (sz := 8) [.agg #[.bool false, .slice none 0 0, .bool false, .slice none 0 0, .bool s41, .slice p41 n41 c41, .bool t41, .slice y41 m41 d41]] [.bool false, .slice none 0 0, .bool false, .slice none 0 0, .bool s41, .slice p41 n41 c41, .bool t41, .slice y41 m41 d41] rfl rfl rfl rfl rfl rfl rfl rfl rfl rfl (by decide) (fun w42 b42 kb42 bb42 hB42 hc42 => wV rfl ?_)
  have h42 : RowNew (BrE 2) 8 59 w.heap.size w42 (.slice (some ⟨b42, 0, none⟩) 1 1) bad28_4 := .inr ⟨b42, 1, [[.bool false, .slice none 0 0, .bool false, .slice none 0 0, .bool s41, .slice p41 n41 c41, .bool t41, .slice y41 m41 d41]], [], rfl, hB42, hc42, (RowE.cons (crr_0E q41.kr (i64_rsz (by omega) (by omega) (by omega) (by omega))) RowE.nil), rfl, by decide, by decide, rfl⟩
  (repeat first|refine wN ?_|refine wP rfl ?_|refine cxK_r rfl ?_|refine cxK_d rfl ?_|refine wO rfl rfl ?_)
  refine VO.call rfl rfl (fk Tryz.func36) (fun wa43 ka43 ba43 => (filBy_any 0 1 wa43 (by omega) (by omega) (by omega) (by omega)).mono ?_)
  rintro e w43 ⟨r43, rfl, q43, hb43⟩
  obtain ⟨s43, p43, n43, c43, t43, y43, m43, d43, rfl⟩ := q43.form
  refine ⟨_, rfl, hb43, fun kb43 _ bb43 => wV rfl ?_⟩
  (repeat first|refine wN ?_|refine wP rfl ?_|refine cxK_r rfl ?_|refine cxK_d rfl ?_|refine wO rfl rfl ?_)
  refine VO.call rfl rfl (fk Tryz.func36) (fun wa44 ka44 ba44 => (filBy_any 1 2 wa44 (by omega) (by omega) (by omega) (by omega)).mono ?_)
  rintro e w44 ⟨r44, rfl, q44, hb44⟩
  obtain ⟨s44, p44, n44, c44, t44, y44, m44, d44, rfl⟩ := q44.form
  refine ⟨_, rfl, hb44, fun kb44 _ bb44 => wV rfl ?_⟩
  (repeat first|refine wN ?_|refine wP rfl ?_|refine cxK_r rfl ?_|refine cxK_d rfl ?_|refine wO rfl rfl ?_)
  refine VO.call rfl rfl (fk Tryz.func36) (fun wa45 ka45 ba45 => (filBy_any 0 1 wa45 (by omega) (by omega) (by omega) (by omega)).mono ?_)
  rintro e w45 ⟨r45, rfl, q45, hb45⟩
  obtain ⟨s45, p45, n45, c45, t45, y45, m45, d45, rfl⟩ := q45.form
  refine ⟨_, rfl, hb45, fun kb45 _ bb45 => wV rfl ?_⟩
  (repeat first|refine wN ?_|refine wP rfl ?_|refine cxK_r rfl ?_|refine cxK_d rfl ?_|refine wO rfl rfl ?_)
  refine VO.call rfl rfl (fk Tryz.func36) (fun wa46 ka46 ba46 => (filBy_any 1 2 wa46 (by omega) (by omega) (by omega) (by omega)).mono ?_)
  rintro e w46 ⟨r46, rfl, q46, hb46⟩
  obtain ⟨s46, p46, n46, c46, t46, y46, m46, d46, rfl⟩ := q46.form
  refine ⟨_, rfl, hb46, fun kb46 _ bb46 => wV rfl ?_⟩
  (repeat first|refine wN ?_|refine wP rfl ?_|refine cxK_r rfl ?_|refine cxK_d rfl ?_|refine wO rfl rfl ?_)
  refine VO.litE (cxK_ok _ _) (sz := 8) [.agg #[.bool s43, .slice p43 n43 c43, .bool t43, .slice y43 m43 d43, .bool s44, .slice p44 n44 c44, .bool t44, .slice y44 m44 d44], .agg #[.bool s45, .slice p45 n45 c45, .bool t45, .slice y45 m45 d45, .bool s46, .slice p46 n46 c46, .bool t46, .slice y46 m46 d46]] [.bool s43, .slice p43 n43 c43, .bool t43, .slice y43 m43 d43, .bool s44, .slice p44 n44 c44, .bool t44, .slice y44 m44 d44, .bool s45, .slice p45 n45 c45, .bool t45, .slice y45 m45 d45, .bool s46, .slice p46 n46 c46, .bool t46, .slice y46 m46 d46] rfl rfl rfl rfl rfl rfl rfl rfl rfl rfl (by decide) (fun w47 b47 kb47 bb47 hB47 hc47 => wV rfl ?_)
  have h47 : RowNew (BrE 2) 8 59 w.heap.size w47 (.slice (some ⟨b47, 0, none⟩) 2 2) bad28_5 := .inr ⟨b47, 2, [[.bool s43, .slice p43 n43 c43, .bool t43, .slice y43 m43 d43, .bool s44, .slice p44 n44 c44, .bool t44, .slice y44 m44 d44], [.bool s45, .slice p45 n45 c45, .bool t45, .slice y45 m45 d45, .bool s46, .slice p46 n46 c46, .bool t46, .slice y46 m46 d46]], [], rfl, hB47, hc47, (RowE.cons (crr_E q43.kr (i64_rsz (by omega) (by omega) (by omega) (by omega)) q44.kr (i64_rsz (by omega) (by omega) (by omega) (by omega))) (RowE.cons (crr_E q45.kr (i64_rsz (by omega) (by omega) (by omega) (by omega)) q46.kr (i64_rsz (by omega) (by omega) (by omega) (by omega))) RowE.nil)), rfl, by decide, by decide, rfl⟩
  (repeat first|refine wN ?_|refine wP rfl ?_|refine cxK_r rfl ?_|refine cxK_d rfl ?_|refine wO rfl rfl ?_)
  refine VO.call rfl rfl (fk Tryz.func36) (fun wa48 ka48 ba48 => (filBy_any 0 1 wa48 (by omega) (by omega) (by omega) (by omega)).mono ?_)
  rintro e w48 ⟨r48, rfl, q48, hb48⟩
  obtain ⟨s48, p48, n48, c48, t48, y48, m48, d48, rfl⟩ := q48.form
  refine ⟨_, rfl, hb48, fun kb48 _ bb48 => wV rfl ?_⟩
  (repeat first|refine wN ?_|refine wP rfl ?_|refine cxK_r rfl ?_|refine cxK_d rfl ?_|refine wO rfl rfl ?_)
  refine VO.call rfl rfl (fk Tryz.func36) (fun wa49 ka49 ba49 => (filBy_any 1 2 wa49 (by omega) (by omega) (by omega) (by omega)).mono ?_)
  rintro e w49 ⟨r49, rfl, q49, hb49⟩
  obtain ⟨s49, p49, n49, c49, t49, y49, m49, d49, rfl⟩ := q49.form
  refine ⟨_, rfl, hb49, fun kb49 _ bb49 => wV rfl ?_⟩
  (repeat first|refine wN ?_|refine wP rfl ?_|refine cxK_r rfl ?_|refine cxK_d rfl ?_|refine wO rfl rfl ?_)
  refine VO.call rfl rfl (fk Tryz.func36) (fun wa50 ka50 ba50 => (filBy_any 5 1 wa50 (by omega) (by omega) (by omega) (by omega)).mono ?_)
  rintro e w50 ⟨r50, rfl, q50, hb50⟩
  obtain ⟨s50, p50, n50, c50, t50, y50, m50, d50, rfl⟩ := q50.form
  refine ⟨_, rfl, hb50, fun kb50 _ bb50 => wV rfl ?_⟩
  (repeat first|refine wN ?_|refine wP rfl ?_|refine cxK_r rfl ?_|refine cxK_d rfl ?_|refine wO rfl rfl ?_)
  refine VO.call rfl rfl (fk Tryz.func36) (fun wa51 ka51 ba51 => (filBy_any 1 2 wa51 (by omega) (by omega) (by omega) (by omega)).mono ?_)
  rintro e w51 ⟨r51, rfl, q51, hb51⟩
  obtain ⟨s51, p51, n51, c51, t51, y51, m51, d51, rfl⟩ := q51.form
  refine ⟨_, rfl, hb51, fun kb51 _ bb51 => wV rfl ?_⟩
  (repeat first|refine wN ?_|refine wP rfl ?_|refine cxK_r rfl ?_|refine cxK_d rfl ?_|refine wO rfl rfl ?_)
  refine VO.call rfl rfl (fk Tryz.func36) (fun wa52 ka52 ba52 => (filBy_any 4 1 wa52 (by omega) (by omega) (by omega) (by omega)).mono ?_)
  rintro e w52 ⟨r52, rfl, q52, hb52⟩
  obtain ⟨s52, p52, n52, c52, t52, y52, m52, d52, rfl⟩ := q52.form
  refine ⟨_, rfl, hb52, fun kb52 _ bb52 => wV rfl ?_⟩
  (repeat first|refine wN ?_|refine wP rfl ?_|refine cxK_r rfl ?_|refine cxK_d rfl ?_|refine wO rfl rfl ?_)
  refine VO.call rfl rfl (fk Tryz.func36) (fun wa53 ka53 ba53 => (filBy_any 1 2 wa53 (by omega) (by omega) (by omega) (by omega)).mono ?_)
  rintro e w53 ⟨r53, rfl, q53, hb53⟩
  obtain ⟨s53, p53, n53, c53, t53, y53, m53, d53, rfl⟩ := q53.form
  refine ⟨_, rfl, hb53, fun kb53 _ bb53 => wV rfl ?_⟩
  (repeat first|refine wN ?_|refine wP rfl ?_|refine cxK_r rfl ?_|refine cxK_d rfl ?_|refine wO rfl rfl ?_)
  refine VO.litE (cxK_ok _ _) (sz := 8) [.agg #[.bool s48, .slice p48 n48 c48, .bool t48, .slice y48 m48 d48, .bool s49, .slice p49 n49 c49, .bool t49, .slice y49 m49 d49], .agg #[.bool s50, .slice p50 n50 c50, .bool t50, .slice y50 m50 d50, .bool s51, .slice p51 n51 c51, .bool t51, .slice y51 m51 d51], .agg #[.bool s52, .slice p52 n52 c52, .bool t52, .slice y52 m52 d52, .bool s53, .slice p53 n53 c53, .bool t53, .slice y53 m53 d53]] [.bool s48, .slice p48 n48 c48, .bool t48, .slice y48 m48 d48, .bool s49, .slice p49 n49 c49, .bool t49, .slice y49 m49 d49, .bool s50, .slice p50 n50 c50, .bool t50, .slice y50 m50 d50, .bool s51, .slice p51 n51 c51, .bool t51, .slice y51 m51 d51, .bool s52, .slice p52 n52 c52, .bool t52, .slice y52 m52 d52, .bool s53, .slice p53 n53 c53, .bool t53, .slice y53 m53 d53] rfl rfl rfl rfl rfl rfl rfl rfl rfl rfl (by decide) (fun w54 b54 kb54 bb54 hB54 hc54 => wV rfl ?_)
  have h54 : RowNew (BrE 2) 8 59 w.heap.size w54 (.slice (some ⟨b54, 0, none⟩) 3 3) bad28_6 := .inr ⟨b54, 3, [[.bool s48, .slice p48 n48 c48, .bool t48, .slice y48 m48 d48, .bool s49, .slice p49 n49 c49, .bool t49, .slice y49 m49 d49], [.bool s50, .slice p50 n50 c50, .bool t50, .slice y50 m50 d50, .bool s51, .slice p51 n51 c51, .bool t51, .slice y51 m51 d51], [.bool s52, .slice p52 n52 c52, .bool t52, .slice y52 m52 d52, .bool s53, .slice p53 n53 c53, .bool t53, .slice y53 m53 d53]], [], rfl, hB54, hc54, (RowE.cons (crr_E q48.kr (i64_rsz (by omega) (by omega) (by omega) (by omega)) q49.kr (i64_rsz (by omega) (by omega) (by omega) (by omega))) (RowE.cons (crr_E q50.kr (i64_rsz (by omega) (by omega) (by omega) (by omega)) q51.kr (i64_rsz (by omega) (by omega) (by omega) (by omega))) (RowE.cons (crr_E q52.kr (i64_rsz (by omega) (by omega) (by omega) (by omega)) q53.kr (i64_rsz (by omega) (by omega) (by omega) (by omega))) RowE.nil))), rfl, by decide, by decide, rfl⟩
  (repeat first|refine wN ?_|refine wP rfl ?_|refine cxK_r rfl ?_|refine cxK_d rfl ?_|refine wO rfl rfl ?_)
  obtain ⟨cs, hcs⟩ : ∃ cs : List Value, cs = [.slice none 0 0, .slice (some ⟨b32, 0, none⟩) 1 1, .slice (some ⟨b35, 0, none⟩) 1 1, .slice (some ⟨b38, 0, none⟩) 1 1, .slice (some ⟨b40, 0, none⟩) 1 1, .slice (some ⟨b42, 0, none⟩) 1 1, .slice (some ⟨b47, 0, none⟩) 2 2, .slice (some ⟨b54, 0, none⟩) 3 3] := ⟨_, rfl⟩
  have hbad : ∀ z, z < 8 → ∃ v l, cs[z]? = some v ∧ RowNew (BrE 2) 8 59 w.heap.size w54 v l ∧ bright l = false := by
   intro z hz
   rw [hcs]
   rcases (by omega : z = 0 ∨ z = 1 ∨ z = 2 ∨ z = 3 ∨ z = 4 ∨ z = 5 ∨ z = 6 ∨ z = 7) with rfl | rfl | rfl | rfl | rfl | rfl | rfl | rfl
   ·exact ⟨_, [], rfl, .inl ⟨rfl, rfl⟩, rfl⟩
   ·exact ⟨_, _, rfl, h32.kp (br_ok 2) (by (with_reducible (repeat (first | assumption | exact kU _ | exact kR _ | exact Kp.of (U := UU) (by assumption) | exact KpS.of (by assumption) | refine kT ?_ (by assumption))))) rfl, bad28_0_no⟩
   ·exact ⟨_, _, rfl, h35.kp (br_ok 2) (by (with_reducible (repeat (first | assumption | exact kU _ | exact kR _ | exact Kp.of (U := UU) (by assumption) | exact KpS.of (by assumption) | refine kT ?_ (by assumption))))) rfl, bad28_1_no⟩
   ·exact ⟨_, _, rfl, h38.kp (br_ok 2) (by (with_reducible (repeat (first | assumption | exact kU _ | exact kR _ | exact Kp.of (U := UU) (by assumption) | exact KpS.of (by assumption) | refine kT ?_ (by assumption))))) rfl, bad28_2_no⟩
   ·exact ⟨_, _, rfl, h40.kp (br_ok 2) (by (with_reducible (repeat (first | assumption | exact kU _ | exact kR _ | exact Kp.of (U := UU) (by assumption) | exact KpS.of (by assumption) | refine kT ?_ (by assumption))))) rfl, bad28_3_no⟩
   ·exact ⟨_, _, rfl, h42.kp (br_ok 2) (by (with_reducible (repeat (first | assumption | exact kU _ | exact kR _ | exact Kp.of (U := UU) (by assumption) | exact KpS.of (by assumption) | refine kT ?_ (by assumption))))) rfl, bad28_4_no⟩
   ·exact ⟨_, _, rfl, h47.kp (br_ok 2) (by (with_reducible (repeat (first | assumption | exact kU _ | exact kR _ | exact Kp.of (U := UU) (by assumption) | exact KpS.of (by assumption) | refine kT ?_ (by assumption))))) rfl, bad28_5_no⟩
   ·exact ⟨_, _, rfl, h54, bad28_6_no⟩
  refine VS.loop (J := fun m L M w' => ∃ z : Nat, z ≤ 8 ∧ m = 8 - z ∧ L = [(1, .val (.func (.func 36) #[] #[])), (6, .row 150 0 8 8), (7, .val (.int .i64 (z : Int)))] ∧ M = [(150, (22, cs.map .val))] ∧ KpS (cxK Tryz.prog w 189).K w54 w') 8 ⟨_, _, ?_, ?_, ?_, ?_, ⟨0, by omega, rfl, rfl, rfl, kR _⟩⟩ ?_
  ·(repeat first|exact trivial|refine ⟨rfl, ?_⟩)
  ·rw [hcs]; (repeat first|exact trivial|refine ⟨rfl, ?_⟩)
  ·rfl
  ·exact ⟨.vals _, trivial⟩
  clear hcs
  rintro m L M w80 ⟨y, hy, rfl, rfl, rfl, kw80⟩
  (repeat first|refine wN ?_|refine wP rfl ?_|refine cxK_r rfl ?_|refine cxK_d rfl ?_|refine wO rfl rfl ?_)
  by_cases hyt : y < 8
  ·refine VS.condY rfl (decide_eq_true (show (y : Int) < ((8 : Nat) : Int) by omega)) ?_
   obtain ⟨v, l, hv, hR, hno⟩ := hbad y hyt
   obtain ⟨pv, cv, rfl⟩ := hR.form
   (repeat first|refine wN ?_|refine wP rfl ?_|refine cxK_r rfl ?_|refine cxK_d rfl ?_|refine wO rfl rfl ?_)
   refine VO.cond rfl ⟨by omega, by omega⟩ ?_
   refine wV rfl ?_
   (repeat first|refine wN ?_|refine wP rfl ?_|refine cxK_r rfl ?_|refine cxK_d rfl ?_|refine wO rfl rfl ?_)
   refine VO.peek rfl [.val (.slice pv l.length cv)] rfl (peek_at hv) (wV rfl ?_)
   (repeat first|refine wN ?_|refine wP rfl ?_|refine cxK_r rfl ?_|refine cxK_d rfl ?_|refine wO rfl rfl ?_)
   refine VO.call rfl rfl (fk Tryz.func36) (fun wa81 ka81 ba81 => (filBy_any 7 2 wa81 (by omega) (by omega) (by omega) (by omega)).mono ?_)
   rintro e w81 ⟨r81, rfl, q81, hb81⟩
   obtain ⟨s81, p81, n81, c81, t81, y81, m81, d81, rfl⟩ := q81.form
   refine ⟨_, rfl, hb81, fun kb81 _ bb81 => wV rfl ?_⟩
   (repeat first|refine wN ?_|refine wP rfl ?_|refine cxK_r rfl ?_|refine cxK_d rfl ?_|refine wO rfl rfl ?_)
   refine VO.call rfl rfl (fk Tryz.func36) (fun wa82 ka82 ba82 => (filBy_any 1 1 wa82 (by omega) (by omega) (by omega) (by omega)).mono ?_)
   rintro e w82 ⟨r82, rfl, q82, hb82⟩
   obtain ⟨s82, p82, n82, c82, t82, y82, m82, d82, rfl⟩ := q82.form
   refine ⟨_, rfl, hb82, fun kb82 _ bb82 => wV rfl ?_⟩
   (repeat first|refine wN ?_|refine wP rfl ?_|refine cxK_r rfl ?_|refine cxK_d rfl ?_|refine wO rfl rfl ?_)
   refine VO.call rfl rfl (fk Tryz.func3) (fun wa83 ka83 ba83 => (tax28_any _ _ _ l _ _ _ _ _ _ _ _ 2 wa83 ((hR.kp (br_ok 2) (by (with_reducible (repeat (first | assumption | exact kU _ | exact kR _ | exact Kp.of (U := UU) (by assumption) | exact KpS.of (by assumption) | refine kT ?_ (by assumption))))) rfl).sl (br_ok 2)) q81.kr.raw q82.kr.raw).mono ?_)
   rintro e w83 ⟨rfl, hb83⟩
   skip
   refine ⟨_, rfl, hb83, fun kb83 _ bb83 => wV rfl ?_⟩
   (repeat first|refine wN ?_|refine wP rfl ?_|refine cxK_r rfl ?_|refine cxK_d rfl ?_|refine wO rfl rfl ?_)
   refine VO.cond rfl ⟨by omega, by omega⟩ ?_
   refine wV rfl ?_
   (repeat first|refine wN ?_|refine wP rfl ?_|refine cxK_r rfl ?_|refine cxK_d rfl ?_|refine wO rfl rfl ?_)
   refine VO.peek rfl [.val (.slice pv l.length cv)] rfl (peek_at hv) (wV rfl ?_)
   (repeat first|refine wN ?_|refine wP rfl ?_|refine cxK_r rfl ?_|refine cxK_d rfl ?_|refine wO rfl rfl ?_)
   refine VO.call rfl rfl (fk Tryz.func19) (fun wa84 ka84 ba84 => (bRight_ok _ l 2 wa84 ((hR.kp (br_ok 2) (by (with_reducible (repeat (first | assumption | exact kU _ | exact kR _ | exact Kp.of (U := UU) (by assumption) | exact KpS.of (by assumption) | refine kT ?_ (by assumption))))) rfl).sl (br_ok 2)) (by omega) false hno).mono ?_)
   rintro e w84 ⟨rfl, hb84⟩
   skip
   refine ⟨_, rfl, hb84, fun kb84 _ bb84 => wV rfl ?_⟩
   (repeat first|refine wN ?_|refine wP rfl ?_|refine cxK_r rfl ?_|refine cxK_d rfl ?_|refine wO rfl rfl ?_)
   refine VS.back (8 - (y + 1)) (by omega) ⟨_, _, ?_, ?_, ?_, ?_, ⟨y + 1, by omega, rfl, rfl, rfl, by (with_reducible (repeat (first | assumption | exact kU _ | exact kR _ | exact Kp.of (U := UU) (by assumption) | exact KpS.of (by assumption) | refine kT ?_ (by assumption))))⟩⟩
   ·refine ⟨rfl, rfl, ?_, trivial⟩
    rw [← nat_step (i := y) (by omega)]; rfl
   ·(repeat first|exact trivial|refine ⟨rfl, ?_⟩)
   ·rfl
   ·exact ⟨.vals _, trivial⟩
  ·refine VS.condN rfl (decide_eq_false (show ¬ (y : Int) < ((8 : Nat) : Int) by omega)) ?_
   (repeat first|refine wN ?_|refine wP rfl ?_|refine cxK_r rfl ?_|refine cxK_d rfl ?_|refine wO rfl rfl ?_)
   refine VO.call rfl rfl (fk Tryz.func37) (fun wa85 ka85 ba85 => (ex28_any wa85).mono ?_)
   rintro e w85 ⟨r85, rfl, q85, hb85⟩
   obtain ⟨pe85, ce85, rfl⟩ := q85.form
   refine ⟨_, rfl, hb85, fun kb85 _ bb85 => wV rfl ?_⟩
   (repeat first|refine wN ?_|refine wP rfl ?_|refine cxK_r rfl ?_|refine cxK_d rfl ?_|refine wO rfl rfl ?_)
   refine VO.call rfl rfl (fk Tryz.func36) (fun wa86 ka86 ba86 => (filBy_any 1 1 wa86 (by omega) (by omega) (by omega) (by omega)).mono ?_)
   rintro e w86 ⟨r86, rfl, q86, hb86⟩
   obtain ⟨s86, p86, n86, c86, t86, y86, m86, d86, rfl⟩ := q86.form
   refine ⟨_, rfl, hb86, fun kb86 _ bb86 => wV rfl ?_⟩
   (repeat first|refine wN ?_|refine wP rfl ?_|refine cxK_r rfl ?_|refine cxK_d rfl ?_|refine wO rfl rfl ?_)
   refine VO.call rfl rfl (fk Tryz.func3) (fun wa87 ka87 ba87 => (tax28_any _ _ _ ex28 _ _ _ _ _ _ _ _ 2 wa87 ((q85.kp (br_ok 2) (by (with_reducible (repeat (first | assumption | exact kU _ | exact kR _ | exact Kp.of (U := UU) (by assumption) | exact KpS.of (by assumption) | refine kT ?_ (by assumption))))) rfl).sl (br_ok 2)) (nul_raw _) q86.kr.raw).mono ?_)
   rintro e w87 ⟨rfl, hb87⟩
   skip
   refine ⟨_, rfl, hb87, fun kb87 _ bb87 => wV rfl ?_⟩
   (repeat first|refine wN ?_|refine wP rfl ?_|refine cxK_r rfl ?_|refine cxK_d rfl ?_|refine wO rfl rfl ?_)
   refine VO.call rfl rfl (fk Tryz.func37) (fun wa88 ka88 ba88 => (ex28_any wa88).mono ?_)
   rintro e w88 ⟨r88, rfl, q88, hb88⟩
   obtain ⟨pe88, ce88, rfl⟩ := q88.form
   refine ⟨_, rfl, hb88, fun kb88 _ bb88 => wV rfl ?_⟩
   (repeat first|refine wN ?_|refine wP rfl ?_|refine cxK_r rfl ?_|refine cxK_d rfl ?_|refine wO rfl rfl ?_)
   refine VO.call rfl rfl (fk Tryz.func38) (fun wa89 ka89 ba89 => (bOf_any (-3) wa89 (by omega) (by omega)).mono ?_)
   rintro e w89 ⟨r89, rfl, q89, hb89⟩
   obtain ⟨s89, p89, n89, c89, rfl⟩ := q89.form
   refine ⟨_, rfl, hb89, fun kb89 _ bb89 => wV rfl ?_⟩
   (repeat first|refine wN ?_|refine wP rfl ?_|refine cxK_r rfl ?_|refine cxK_d rfl ?_|refine wO rfl rfl ?_)
   refine VO.call rfl rfl (fk Tryz.func3) (fun wa90 ka90 ba90 => (tax28_any _ _ _ ex28 _ _ _ _ _ _ _ _ 2 wa90 ((q88.kp (br_ok 2) (by (with_reducible (repeat (first | assumption | exact kU _ | exact kR _ | exact Kp.of (U := UU) (by assumption) | exact KpS.of (by assumption) | refine kT ?_ (by assumption))))) rfl).sl (br_ok 2)) (num_raw q89.kr) (nul_raw _)).mono ?_)
   rintro e w90 ⟨rfl, hb90⟩
   skip
   refine ⟨_, rfl, hb90, fun kb90 _ bb90 => wV rfl ?_⟩
   (repeat first|refine wN ?_|refine wP rfl ?_|refine cxK_r rfl ?_|refine cxK_d rfl ?_|refine wO rfl rfl ?_)
   refine VO.call rfl rfl (fk Tryz.func8) (fun wa91 ka91 ba91 => (works28_any wa91).mono ?_)
   rintro e w91 ⟨rfl, hb91⟩
   skip
   refine ⟨_, rfl, hb91, fun kb91 _ bb91 => wV rfl ?_⟩
   (repeat first|refine wN ?_|refine wP rfl ?_|refine cxK_r rfl ?_|refine cxK_d rfl ?_|refine wO rfl rfl ?_)
   refine VS.ret (cxK_ok _ _) rfl rfl (fun wz kz bz => ?_)
   exact ⟨rfl, bz⟩
end Go.Proofs.YtofdiijioejljaaGreat
