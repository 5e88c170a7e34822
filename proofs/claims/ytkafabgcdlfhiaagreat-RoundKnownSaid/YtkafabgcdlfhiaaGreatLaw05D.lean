/- RoundTells: what this statement's function answers. -/
import Derived.Test.YtkafabgcdlfhiaaGreatLaw05C
set_option linter.all false
namespace Go.Proofs.YtkafabgcdlfhiaaGreat
open Go.RowKit
attribute [local irreducible] vcOps VS

theorem Sz.tr {q : Rat} {k : Nat} (h : RSz q k) : Sz (tr q) k := by
  unfold Proofs.YtkafabgcdlfhiaaGreat.tr
  split
  · exact Sz.cl h
  · exact Sz.floor h
/-- a row's block is not another row's -/
def Off (p : Option Addr) (n : Nat) (p' : Option Addr) (n' : Nat) : Prop := 0 < n → ∀ b off sp, p = some ⟨b, off, sp⟩ → Lies (fun g => g ≠ b) p' n'
theorem Off.of {p p' : Option Addr} {n n' B : Nat} (h : Lies (fun b => b < B) p n) (h' : Lies (fun b => B ≤ b) p' n') : Off p n p' n' := fun h0 b off sp e => h'.imp fun g hg hgb => by
  have := h h0 b off sp e
  omega
theorem lies_to {w w' : World} {p : Option Addr} {n : Nat} (h : Lies (fun b => b < w.heap.size) p n) (hs : w.heap.size ≤ w'.heap.size) : Lies (fun b => b < w'.heap.size) p n := h.imp fun b hb => Nat.lt_of_lt_of_le hb hs
theorem NumAt.in' {w : World} {v : Value} {s : Bool} {xs : List Nat} (h : NumAt w v s xs) {k : Nat} (hk : xs.length ≤ k) : IntIn w v (numOf s xs) k := ⟨s, xs, h, rfl, hk⟩
theorem RatRaw.nums {w : World} {s t : Bool} {xs ys : List Nat} {p r : Option Addr} {c d : Nat} (h : RatRaw w (.agg #[.bool s, .slice p xs.length c, .bool t, .slice r ys.length d]) s xs t ys) : NumAt w (.agg #[.bool s, .slice p xs.length c]) s xs := by
  obtain ⟨p', c', r', d', hv, h1, h2⟩ := h
  simp only [Value.agg.injEq, Array.mk.injEq, List.cons.injEq, and_true, Value.slice.injEq, true_and] at hv
  obtain ⟨⟨rfl, rfl⟩, _⟩ := hv
  exact h1
theorem divInt_szX {X : Int} {k : Nat} (h : Sz X k) (n : Int) (hn : n ≠ 0) (h1 : n.natAbs < 4294967296) : RSz (Rat.divInt X n) (up1 k) := by
  obtain ⟨a, b⟩ := divInt_sz h (Sz.small h1) hn
  exact ⟨a.mono (by unfold up1; omega), b.mono (by unfold up1; omega)⟩
set_option maxRecDepth 8000 in
set_option maxHeartbeats 8000000 in
theorem roundTells_any (s t : Bool) (xs ys : List Nat) (v : Value) (w : World) (hv : RatRaw w v s xs t ys) :
    Calls Tryz.prog 8 #[v] w fun e w' => e = .returned (.bool true) ∧ Beh w w' := by
  have hv0 := hv
  obtain ⟨px, cx, rx, dx, rfl, _, _⟩ := hv
  refine calm_enter (C := cxOf Tryz.prog w _) (args := [_]) Tryz.func8 rfl Tryz.ntmps8 (Nat.le_of_ble_eq_true rfl) ?_
  (repeat (first | refine wN ?_ | refine wP rfl ?_ | refine cx_r rfl ?_ | refine cx_d (by kernel_rfl) rfl ?_ | refine wO rfl rfl ?_))
  refine VO.call rfl rfl (fk Tryz.func46) (fun wa1 ka1 ba1 => (few05_any s t xs ys _ 12 wa1 (hv0.kp ka1)).mono ?_)
  rintro e w1 ⟨rfl, hb1⟩
  by_cases hf12 : xs.length ≤ 12 ∧ ys.length ≤ 12
  rotate_left
  · rw [decide_eq_false hf12]
    refine ⟨_, rfl, hb1, fun kb1 _ bb1 => wV rfl ?_⟩
    (repeat (first | refine wN ?_ | refine wP rfl ?_ | refine cx_r rfl ?_ | refine cx_d (by kernel_rfl) rfl ?_ | refine wO rfl rfl ?_))
    refine VO.call rfl rfl (fk Tryz.func47) (fun wa2 ka2 ba2 => (works05_any wa2).mono ?_)
    rintro e w2 ⟨rfl, hb2⟩
    skip
    refine ⟨_, rfl, hb2, fun kb2 _ bb2 => wV rfl ?_⟩
    (repeat (first | refine wN ?_ | refine wP rfl ?_ | refine cx_r rfl ?_ | refine cx_d (by kernel_rfl) rfl ?_ | refine wO rfl rfl ?_))
    refine VS.ret (cx_ok _ _) rfl rfl (fun wz kz bz => ?_)
    exact ⟨rfl, bz⟩
  rw [decide_eq_true hf12]
  refine ⟨_, rfl, hb1, fun kb1 _ bb1 => wV rfl ?_⟩
  (repeat (first | refine wN ?_ | refine wP rfl ?_ | refine cx_r rfl ?_ | refine cx_d (by kernel_rfl) rfl ?_ | refine wO rfl rfl ?_))
  have hq := hv0.in hf12.1 hf12.2
  obtain ⟨q, hqq⟩ : ∃ q, q = rq s xs t ys := ⟨_, rfl⟩
  rw [← hqq] at hq
  have hqs : RSz q 12 := hq.sz (by omega)
  have h100 : RSz ((100 : Int) : Rat) 1 := ⟨Sz.small (by decide), Sz.small (by decide)⟩
  have z0 : Sz (q.floor) 14 := (Sz.floor hqs).mono (by omega)
  have z1 : Sz (cl q) 14 := (Sz.cl hqs).mono (by omega)
  have z2 : Sz (tr q) 14 := (Sz.tr hqs).mono (by omega)
  have z3 : Sz (hf q) 14 := (Sz.hf hqs).mono (by unfold up1; omega)
  have z4 : Sz (hf (q * ((100 : Int) : Rat))) 14 := (Sz.hf (hqs.mul h100)).mono (by unfold up1; omega)
  refine VO.call rfl rfl (fk Tryz.func48) (fun wa2 ka2 ba2 => (ref05_any s t xs ys _ wa2 (hv0.kp (by (with_reducible (repeat (first | assumption | exact kU _ | exact kR _ | exact Kp.of (U := UU) (by assumption) | exact KpS.of (by assumption) | refine kT ?_ (by assumption)))))) (by omega) (by omega)).mono ?_)
  rintro e w2 ⟨r2, rfl, q2, hb2⟩
  obtain ⟨pr, cr, rr, dr, rfl, q2a⟩ := q2.form'
  refine ⟨_, rfl, hb2, fun kb2 _ bb2 => wV rfl ?_⟩
  (repeat (first | refine wN ?_ | refine wP rfl ?_ | refine cx_r rfl ?_ | refine cx_d (by kernel_rfl) rfl ?_ | refine wO rfl rfl ?_))
  have hR2 : RatIn w2 (.agg #[.bool s, .slice pr xs.length cr, .bool t, .slice rr ys.length dr]) q 12 := hqq ▸ q2.in hf12.1 hf12.2
  refine VO.call rfl rfl (fk Tryz.func54) (fun wa3 ka3 ba3 => (q05Floor_any _ q 12 wa3 hR2.k (by omega)).mono ?_)
  rintro e w3 ⟨r3, rfl, q3, hb3⟩
  obtain ⟨sw0, pw0, nw0, cw0, rfl⟩ := q3.form
  refine ⟨_, rfl, hb3, fun kb3 _ bb3 => wV rfl ?_⟩
  (repeat (first | refine wN ?_ | refine wP rfl ?_ | refine cx_r rfl ?_ | refine cx_d (by kernel_rfl) rfl ?_ | refine wO rfl rfl ?_))
  refine VO.call rfl rfl (fk Tryz.func55) (fun wa4 ka4 ba4 => (q05Ceil_any _ q 12 wa4 hR2.k (by omega)).mono ?_)
  rintro e w4 ⟨r4, rfl, q4, hb4⟩
  obtain ⟨sw1, pw1, nw1, cw1, rfl⟩ := q4.form
  refine ⟨_, rfl, hb4, fun kb4 _ bb4 => wV rfl ?_⟩
  (repeat (first | refine wN ?_ | refine wP rfl ?_ | refine cx_r rfl ?_ | refine cx_d (by kernel_rfl) rfl ?_ | refine wO rfl rfl ?_))
  refine VO.call rfl rfl (fk Tryz.func56) (fun wa5 ka5 ba5 => (q05Trunc_any _ q 12 wa5 hR2.k (by omega)).mono ?_)
  rintro e w5 ⟨r5, rfl, q5, hb5⟩
  obtain ⟨sw2, pw2, nw2, cw2, rfl⟩ := q5.form
  refine ⟨_, rfl, hb5, fun kb5 _ bb5 => wV rfl ?_⟩
  (repeat (first | refine wN ?_ | refine wP rfl ?_ | refine cx_r rfl ?_ | refine cx_d (by kernel_rfl) rfl ?_ | refine wO rfl rfl ?_))
  refine VO.call rfl rfl (fk Tryz.func57) (fun wa6 ka6 ba6 => (q05Half_any _ q 12 wa6 hR2.k (by omega)).mono ?_)
  rintro e w6 ⟨r6, rfl, q6, hb6⟩
  obtain ⟨sw3, pw3, nw3, cw3, rfl⟩ := q6.form
  refine ⟨_, rfl, hb6, fun kb6 _ bb6 => wV rfl ?_⟩
  (repeat (first | refine wN ?_ | refine wP rfl ?_ | refine cx_r rfl ?_ | refine cx_d (by kernel_rfl) rfl ?_ | refine wO rfl rfl ?_))
  refine VO.call rfl rfl (fk Tryz.func58) (fun wa7 ka7 ba7 => (q05Cents_any _ q 12 wa7 hR2.k (by omega)).mono ?_)
  rintro e w7 ⟨r7, rfl, q7, hb7⟩
  obtain ⟨sw4, pw4, nw4, cw4, rfl⟩ := q7.form
  refine ⟨_, rfl, hb7, fun kb7 _ bb7 => wV rfl ?_⟩
  (repeat (first | refine wN ?_ | refine wP rfl ?_ | refine cx_r rfl ?_ | refine cx_d (by kernel_rfl) rfl ?_ | refine wO rfl rfl ?_))
  refine VS.loop (J := fun m L M w' => ∃ tt : Nat, tt ≤ 2 ∧ m = 2 - tt ∧ L = [(1, .box 1 0), (3, .box 3 0), (4, .row 25 0 5 5), (5, .val (.int .i64 (tt : Int)))] ∧ M = [(1, (27, ([.bool s, .slice px xs.length cx, .bool t, .slice rx ys.length dx] : List Value).map .val)), (3, (35, ([.bool s, .slice pr xs.length cr, .bool t, .slice rr ys.length dr] : List Value).map .val)), (25, (33, ([.bool sw0, .slice pw0 nw0 cw0, .bool sw1, .slice pw1 nw1 cw1, .bool sw2, .slice pw2 nw2 cw2, .bool sw3, .slice pw3 nw3 cw3, .bool sw4, .slice pw4 nw4 cw4] : List Value).map .val))] ∧ RatRaw w' (.agg #[.bool s, .slice pr xs.length cr, .bool t, .slice rr ys.length dr]) s xs t ys ∧ IntRd w' (.agg #[.bool sw0, .slice pw0 nw0 cw0]) (q.floor) ∧ IntRd w' (.agg #[.bool sw1, .slice pw1 nw1 cw1]) (cl q) ∧ IntRd w' (.agg #[.bool sw2, .slice pw2 nw2 cw2]) (tr q) ∧ IntRd w' (.agg #[.bool sw3, .slice pw3 nw3 cw3]) (hf q) ∧ IntRd w' (.agg #[.bool sw4, .slice pw4 nw4 cw4]) (hf (q * ((100 : Int) : Rat)))) 2 ⟨_, _, ?_, ?_, ?_, ?_, ⟨0, by omega, rfl, rfl, rfl, q2.kp (by (with_reducible (repeat (first | assumption | exact kU _ | exact kR _ | exact Kp.of (U := UU) (by assumption) | exact KpS.of (by assumption) | refine kT ?_ (by assumption))))), q3.kr, q4.kr, q5.kr, q6.kr, q7.kr⟩⟩ ?_
  · (repeat (first | exact trivial | refine ⟨rfl, ?_⟩))
  · (repeat (first | exact trivial | refine ⟨rfl, ?_⟩))
  · rfl
  · (repeat (first | exact trivial | refine ⟨ClosedC.lit rfl, ?_⟩ | refine ⟨ClosedC.vals _, ?_⟩))
  rintro m L M wJ ⟨tt, htt, rfl, rfl, rfl, hRJ, hW0J, hW1J, hW2J, hW3J, hW4J⟩
  refine VS.now (fun W kJ hb0 => ?_)
  have hR0 : RatRaw W _ s xs t ys := hRJ.kp kJ
  have hW0 := hW0J.kp kJ
  have hW1 := hW1J.kp kJ
  have hW2 := hW2J.kp kJ
  have hW3 := hW3J.kp kJ
  have hW4 := hW4J.kp kJ
  clear hRJ hW0J hW1J hW2J hW3J hW4J kJ ka1 ba1 hb1 kb1 bb1 ka2 ba2 hb2 kb2 bb2 q2 ka3 ba3 hb3 kb3 bb3 q3 ka4 ba4 hb4 kb4 bb4 q4 ka5 ba5 hb5 kb5 bb5 q5 ka6 ba6 hb6 kb6 bb6 q6 ka7 ba7 hb7 kb7 bb7 q7 q2a hR2
  have hR : RatIn W (.agg #[.bool s, .slice pr xs.length cr, .bool t, .slice rr ys.length dr]) q 12 := hqq ▸ hR0.in hf12.1 hf12.2
  have hbW : w.heap.size ≤ W.heap.size := Beh.size hb0
  (repeat (first | refine wN ?_ | refine wP rfl ?_ | refine cx_r rfl ?_ | refine cx_d (by kernel_rfl) rfl ?_ | refine wO rfl rfl ?_))
  by_cases hlt : tt < 2
  · refine VS.condY rfl (decide_eq_true (Int.ofNat_lt.2 hlt)) ?_
    (repeat (first | refine wN ?_ | refine wP rfl ?_ | refine cx_r rfl ?_ | refine cx_d (by kernel_rfl) rfl ?_ | refine wO rfl rfl ?_))
    refine VO.call rfl rfl (fk Tryz.func59) (fun wa11 ka11 ba11 => (rdFloor_any _ q 12 wa11 (hq.kp (Kp.of (U := UU) ba11)) (by omega)).mono ?_)
    rintro e w11 ⟨r11, rfl, q11, hb11⟩
    obtain ⟨sl0, pl0, nl0, cl0, rfl⟩ := q11.form
    refine ⟨_, rfl, hb11, fun kb11 _ bb11 => wV rfl ?_⟩
    (repeat (first | refine wN ?_ | refine wP rfl ?_ | refine cx_r rfl ?_ | refine cx_d (by kernel_rfl) rfl ?_ | refine wO rfl rfl ?_))
    refine VO.call rfl rfl (fk Tryz.func60) (fun wa12 ka12 ba12 => (rdCeil_any _ q 12 wa12 (hq.kp (Kp.of (U := UU) ba12)) (by omega)).mono ?_)
    rintro e w12 ⟨r12, rfl, q12, hb12⟩
    obtain ⟨sl1, pl1, nl1, cl1, rfl⟩ := q12.form
    refine ⟨_, rfl, hb12, fun kb12 _ bb12 => wV rfl ?_⟩
    (repeat (first | refine wN ?_ | refine wP rfl ?_ | refine cx_r rfl ?_ | refine cx_d (by kernel_rfl) rfl ?_ | refine wO rfl rfl ?_))
    refine VO.call rfl rfl (fk Tryz.func61) (fun wa13 ka13 ba13 => (rdTrunc_any _ q 12 wa13 (hq.kp (Kp.of (U := UU) ba13)) (by omega)).mono ?_)
    rintro e w13 ⟨r13, rfl, q13, hb13⟩
    obtain ⟨sl2, pl2, nl2, cl2, rfl⟩ := q13.form
    refine ⟨_, rfl, hb13, fun kb13 _ bb13 => wV rfl ?_⟩
    (repeat (first | refine wN ?_ | refine wP rfl ?_ | refine cx_r rfl ?_ | refine cx_d (by kernel_rfl) rfl ?_ | refine wO rfl rfl ?_))
    refine VO.call rfl rfl (fk Tryz.func62) (fun wa14 ka14 ba14 => (rdHalf_any _ q 12 wa14 (hq.kp (Kp.of (U := UU) ba14)) (by omega)).mono ?_)
    rintro e w14 ⟨r14, rfl, q14, hb14⟩
    obtain ⟨sl3, pl3, nl3, cl3, rfl⟩ := q14.form
    refine ⟨_, rfl, hb14, fun kb14 _ bb14 => wV rfl ?_⟩
    (repeat (first | refine wN ?_ | refine wP rfl ?_ | refine cx_r rfl ?_ | refine cx_d (by kernel_rfl) rfl ?_ | refine wO rfl rfl ?_))
    refine VO.call rfl rfl (fk Tryz.func63) (fun wa15 ka15 ba15 => (rdCents_any _ q 12 wa15 (hq.kp (Kp.of (U := UU) ba15)) (by omega)).mono ?_)
    rintro e w15 ⟨r15, rfl, q15, hb15⟩
    obtain ⟨sl4, pl4, nl4, cl4, rfl⟩ := q15.form
    refine ⟨_, rfl, hb15, fun kb15 _ bb15 => wV rfl ?_⟩
    (repeat (first | refine wN ?_ | refine wP rfl ?_ | refine cx_r rfl ?_ | refine cx_d (by kernel_rfl) rfl ?_ | refine wO rfl rfl ?_))
    have e0 : W.heap.size ≤ wa11.heap.size := ka11.size
    have f0 : wa11.heap.size ≤ w11.heap.size := hb11.size
    have e1 : w11.heap.size ≤ wa12.heap.size := ka12.size
    have f1 : wa12.heap.size ≤ w12.heap.size := hb12.size
    have e2 : w12.heap.size ≤ wa13.heap.size := ka13.size
    have f2 : wa13.heap.size ≤ w13.heap.size := hb13.size
    have e3 : w13.heap.size ≤ wa14.heap.size := ka14.size
    have f3 : wa14.heap.size ≤ w14.heap.size := hb14.size
    have e4 : w14.heap.size ≤ wa15.heap.size := ka15.size
    have f4 : wa15.heap.size ≤ w15.heap.size := hb15.size
    have b0 : Lies (fun b => W.heap.size ≤ b) pl0 nl0 := q11.lies.imp fun b hb => by omega
    have u0 : Lies (fun b => b < w11.heap.size) pl0 nl0 := q11.rd.lies
    have b1 : Lies (fun b => W.heap.size ≤ b) pl1 nl1 := q12.lies.imp fun b hb => by omega
    have u1 : Lies (fun b => b < w12.heap.size) pl1 nl1 := q12.rd.lies
    have b2 : Lies (fun b => W.heap.size ≤ b) pl2 nl2 := q13.lies.imp fun b hb => by omega
    have u2 : Lies (fun b => b < w13.heap.size) pl2 nl2 := q13.rd.lies
    have b3 : Lies (fun b => W.heap.size ≤ b) pl3 nl3 := q14.lies.imp fun b hb => by omega
    have u3 : Lies (fun b => b < w14.heap.size) pl3 nl3 := q14.rd.lies
    have b4 : Lies (fun b => W.heap.size ≤ b) pl4 nl4 := q15.lies.imp fun b hb => by omega
    have u4 : Lies (fun b => b < w15.heap.size) pl4 nl4 := q15.rd.lies
    have d01 : Off pl0 nl0 pl1 nl1 := Off.of (u0.imp fun b hb => (by omega : b < wa12.heap.size)) q12.lies
    have d02 : Off pl0 nl0 pl2 nl2 := Off.of (u0.imp fun b hb => (by omega : b < wa13.heap.size)) q13.lies
    have d03 : Off pl0 nl0 pl3 nl3 := Off.of (u0.imp fun b hb => (by omega : b < wa14.heap.size)) q14.lies
    have d04 : Off pl0 nl0 pl4 nl4 := Off.of (u0.imp fun b hb => (by omega : b < wa15.heap.size)) q15.lies
    have d12 : Off pl1 nl1 pl2 nl2 := Off.of (u1.imp fun b hb => (by omega : b < wa13.heap.size)) q13.lies
    have d13 : Off pl1 nl1 pl3 nl3 := Off.of (u1.imp fun b hb => (by omega : b < wa14.heap.size)) q14.lies
    have d14 : Off pl1 nl1 pl4 nl4 := Off.of (u1.imp fun b hb => (by omega : b < wa15.heap.size)) q15.lies
    have d23 : Off pl2 nl2 pl3 nl3 := Off.of (u2.imp fun b hb => (by omega : b < wa14.heap.size)) q14.lies
    have d24 : Off pl2 nl2 pl4 nl4 := Off.of (u2.imp fun b hb => (by omega : b < wa15.heap.size)) q15.lies
    have d34 : Off pl3 nl3 pl4 nl4 := Off.of (u3.imp fun b hb => (by omega : b < wa15.heap.size)) q15.lies
    have m0 : nl0 ≤ 14 := by rw [q11.rd.parts.1]; exact z0
    have m1 : nl1 ≤ 14 := by rw [q12.rd.parts.1]; exact z1
    have m2 : nl2 ≤ 14 := by rw [q13.rd.parts.1]; exact z2
    have m3 : nl3 ≤ 14 := by rw [q14.rd.parts.1]; exact z3
    have m4 : nl4 ≤ 14 := by rw [q15.rd.parts.1]; exact z4
    have hk0 : Huk w15 pl0 nl0 := q11.k.huk
    have hk1 : Huk w15 pl1 nl1 := q12.k.huk
    have hk2 : Huk w15 pl2 nl2 := q13.k.huk
    have hk3 : Huk w15 pl3 nl3 := q14.k.huk
    have hk4 : Huk w15 pl4 nl4 := q15.k.huk
    refine VS.loop (J := fun m L M w' => ∃ zz : Nat, zz ≤ 5 ∧ m = 5 - zz ∧ L = [(1, .box 1 0), (3, .box 3 0), (4, .row 25 0 5 5), (5, .val (.int .i64 (tt : Int))), (6, .row 40 0 5 5), (7, .val (.int .i64 (zz : Int)))] ∧ M = [(1, (27, ([.bool s, .slice px xs.length cx, .bool t, .slice rx ys.length dx] : List Value).map .val)), (3, (35, ([.bool s, .slice pr xs.length cr, .bool t, .slice rr ys.length dr] : List Value).map .val)), (25, (33, ([.bool sw0, .slice pw0 nw0 cw0, .bool sw1, .slice pw1 nw1 cw1, .bool sw2, .slice pw2 nw2 cw2, .bool sw3, .slice pw3 nw3 cw3, .bool sw4, .slice pw4 nw4 cw4] : List Value).map .val)), (40, (25, ([.bool sl0, .slice pl0 nl0 cl0, .bool sl1, .slice pl1 nl1 cl1, .bool sl2, .slice pl2 nl2 cl2, .bool sl3, .slice pl3 nl3 cl3, .bool sl4, .slice pl4 nl4 cl4] : List Value).map .val))] ∧ KpS (KU UU) W w' ∧ (zz ≤ 0 → IntRd w' (.agg #[.bool sl0, .slice pl0 nl0 cl0]) (q.floor)) ∧ (zz ≤ 1 → IntRd w' (.agg #[.bool sl1, .slice pl1 nl1 cl1]) (cl q)) ∧ (zz ≤ 2 → IntRd w' (.agg #[.bool sl2, .slice pl2 nl2 cl2]) (tr q)) ∧ (zz ≤ 3 → IntRd w' (.agg #[.bool sl3, .slice pl3 nl3 cl3]) (hf q)) ∧ (zz ≤ 4 → IntRd w' (.agg #[.bool sl4, .slice pl4 nl4 cl4]) (hf (q * ((100 : Int) : Rat)))) ∧ Huk w' pl0 nl0 ∧ Huk w' pl1 nl1 ∧ Huk w' pl2 nl2 ∧ Huk w' pl3 nl3 ∧ Huk w' pl4 nl4) 5 ⟨_, _, ?_, ?_, ?_, ?_, ⟨0, by omega, rfl, rfl, rfl, (by (with_reducible (repeat (first | assumption | exact kU _ | exact kR _ | exact Kp.of (U := UU) (by assumption) | exact KpS.of (by assumption) | refine kT ?_ (by assumption))))), fun _ => q11.kr, fun _ => q12.kr, fun _ => q13.kr, fun _ => q14.kr, fun _ => q15.kr, hk0, hk1, hk2, hk3, hk4⟩⟩ ?_
    · (repeat (first | exact trivial | refine ⟨rfl, ?_⟩))
    · (repeat (first | exact trivial | refine ⟨rfl, ?_⟩))
    · rfl
    · (repeat (first | exact trivial | refine ⟨ClosedC.lit rfl, ?_⟩ | refine ⟨ClosedC.vals _, ?_⟩))
    clear hk0 hk1 hk2 hk3 hk4
    rintro m L M wi ⟨zz, hzz, rfl, rfl, rfl, kWi, hx0, hx1, hx2, hx3, hx4, hk0, hk1, hk2, hk3, hk4⟩
    have hcases : zz = 0 ∨ zz = 1 ∨ zz = 2 ∨ zz = 3 ∨ zz = 4 ∨ zz = 5 := by omega
    rcases hcases with rfl | rfl | rfl | rfl | rfl | rfl
    · (repeat (first | refine wN ?_ | refine wP rfl ?_ | refine cx_r rfl ?_ | refine cx_d (by kernel_rfl) rfl ?_ | refine wO rfl rfl ?_))
      refine VO.cond rfl ⟨by decide, by decide⟩ ?_
      refine wV rfl ?_
      (repeat (first | refine wN ?_ | refine wP rfl ?_ | refine cx_r rfl ?_ | refine cx_d (by kernel_rfl) rfl ?_ | refine wO rfl rfl ?_))
      refine VO.peek rfl ([.bool sl0, .slice pl0 nl0 cl0].map .val) rfl (fun j u hj => by match j, hj with | 0, hj => exact hj | 1, hj => exact hj | (n + 2), hj => cases hj) (wV rfl ?_)
      (repeat (first | refine wN ?_ | refine wP rfl ?_ | refine cx_r rfl ?_ | refine cx_d (by kernel_rfl) rfl ?_ | refine wO rfl rfl ?_))
      refine VO.cond rfl ⟨by decide, by decide⟩ ?_
      refine wV rfl ?_
      (repeat (first | refine wN ?_ | refine wP rfl ?_ | refine cx_r rfl ?_ | refine cx_d (by kernel_rfl) rfl ?_ | refine wO rfl rfl ?_))
      refine VO.peek rfl ([.bool sw0, .slice pw0 nw0 cw0].map .val) rfl (fun j u hj => by match j, hj with | 0, hj => exact hj | 1, hj => exact hj | (n + 2), hj => cases hj) (wV rfl ?_)
      (repeat (first | refine wN ?_ | refine wP rfl ?_ | refine cx_r rfl ?_ | refine cx_d (by kernel_rfl) rfl ?_ | refine wO rfl rfl ?_))
      refine VO.call rfl rfl (fk Tryz.func51) (fun wa21 ka21 ba21 => (same05_any (q.floor) _ _ 14 14 wa21 ((hx0 (Nat.le_refl _)).kp ka21) z0 ((hW0.kp (kWi.thn ka21)).to z0) (by omega) (by omega)).mono ?_)
      rintro e w21 ⟨rfl, hb21⟩
      skip
      refine ⟨_, rfl, hb21, fun kb21 _ bb21 => wV rfl ?_⟩
      (repeat (first | refine wN ?_ | refine wP rfl ?_ | refine cx_r rfl ?_ | refine cx_d (by kernel_rfl) rfl ?_ | refine wO rfl rfl ?_))
      refine VS.now (fun wi2 k22 b22 => ?_)
      have kWi2 : KpS (KU UU) W wi2 := kWi.thn (kb21.thn k22)
      have hy1 := (hx1 (by omega)).kp (kb21.thn k22)
      have hy2 := (hx2 (by omega)).kp (kb21.thn k22)
      have hy3 := (hx3 (by omega)).kp (kb21.thn k22)
      have hy4 := (hx4 (by omega)).kp (kb21.thn k22)
      have hj0 := hk0.kpS (kb21.thn k22) (fun _ _ _ _ _ => trivial)
      have hj1 := hk1.kpS (kb21.thn k22) (fun _ _ _ _ _ => trivial)
      have hj2 := hk2.kpS (kb21.thn k22) (fun _ _ _ _ _ => trivial)
      have hj3 := hk3.kpS (kb21.thn k22) (fun _ _ _ _ _ => trivial)
      have hj4 := hk4.kpS (kb21.thn k22) (fun _ _ _ _ _ => trivial)
      clear kWi hx0 hk0 hx1 hk1 hx2 hk2 hx3 hk3 hx4 hk4 ka21 ba21 hb21 kb21 bb21 k22
      refine VS.loop (J := fun m L M w' => ∃ kk : Nat, kk ≤ nl0 ∧ m = nl0 - kk ∧ L = [(1, .box 1 0), (3, .box 3 0), (4, .row 25 0 5 5), (5, .val (.int .i64 (tt : Int))), (6, .row 40 0 5 5), (7, .val (.int .i64 ((0 : Nat) : Int))), (8, .val (.int .i64 (kk : Int)))] ∧ M = [(1, (27, ([.bool s, .slice px xs.length cx, .bool t, .slice rx ys.length dx] : List Value).map .val)), (3, (35, ([.bool s, .slice pr xs.length cr, .bool t, .slice rr ys.length dr] : List Value).map .val)), (25, (33, ([.bool sw0, .slice pw0 nw0 cw0, .bool sw1, .slice pw1 nw1 cw1, .bool sw2, .slice pw2 nw2 cw2, .bool sw3, .slice pw3 nw3 cw3, .bool sw4, .slice pw4 nw4 cw4] : List Value).map .val)), (40, (25, ([.bool sl0, .slice pl0 nl0 cl0, .bool sl1, .slice pl1 nl1 cl1, .bool sl2, .slice pl2 nl2 cl2, .bool sl3, .slice pl3 nl3 cl3, .bool sl4, .slice pl4 nl4 cl4] : List Value).map .val))] ∧ (0 < nl0 → ∃ g, pl0 = some ⟨g, 0, none⟩ ∧ Over (fun _ => false) g wi2 w') ∧ (nl0 = 0 → KpS (KU UU) wi2 w')) nl0 ⟨_, _, ?_, ?_, ?_, ?_, ⟨0, by omega, rfl, rfl, rfl, fun h0 => (by obtain ⟨g, cur, hp, _⟩ := hj0 h0; exact ⟨g, hp, Over.refl _ _ _⟩), fun _ => kR _⟩⟩ ?_
      · (repeat (first | exact trivial | refine ⟨rfl, ?_⟩))
      · (repeat (first | exact trivial | refine ⟨rfl, ?_⟩))
      · rfl
      · (repeat (first | exact trivial | refine ⟨ClosedC.lit rfl, ?_⟩ | refine ⟨ClosedC.vals _, ?_⟩))
      rintro m L M wk ⟨kk, hkk, rfl, rfl, rfl, hov, hnz⟩
      (repeat (first | refine wN ?_ | refine wP rfl ?_ | refine cx_r rfl ?_ | refine cx_d (by kernel_rfl) rfl ?_ | refine wO rfl rfl ?_))
      refine VO.cond rfl ⟨by decide, by decide⟩ ?_
      refine wV rfl ?_
      (repeat (first | refine wN ?_ | refine wP rfl ?_ | refine cx_r rfl ?_ | refine cx_d (by kernel_rfl) rfl ?_ | refine wO rfl rfl ?_))
      refine VO.peek rfl ([.slice pl0 nl0 cl0].map .val) rfl (fun j u hj => by match j, hj with | 0, hj => exact hj | (n + 1), hj => cases hj) (wV rfl ?_)
      (repeat (first | refine wN ?_ | refine wP rfl ?_ | refine cx_r rfl ?_ | refine cx_d (by kernel_rfl) rfl ?_ | refine wO rfl rfl ?_))
      by_cases hkn : kk < nl0
      · obtain ⟨g, hpg, hover⟩ := hov (by omega)
        subst hpg
        refine VS.condY rfl (decide_eq_true (Int.ofNat_lt.2 hkn)) ?_
        (repeat (first | refine wN ?_ | refine wP rfl ?_))
        refine VS.regionWn (cx_ok _ _) (fun _ => Iff.rfl) rfl ?_
        refine wV rfl ?_
        refine VO.cond rfl ⟨by decide, by decide⟩ ?_
        refine wV rfl ?_
        refine VO.peek rfl ([.slice (some ⟨g, 0, none⟩) nl0 cl0].map .val) rfl (fun j u hj => by match j, hj with | 0, hj => exact hj | (n + 1), hj => cases hj) (wV rfl ?_)
        refine VO.cond rfl ⟨by omega, by omega⟩ ?_
        refine wV rfl ?_
        refine wN ?_
        refine ⟨_, _, _, g, 0 + (kk : Int).toNat * 1, _, .int .u32 77, rfl, rfl, rfl, rfl, rfl, rfl, rfl, rfl, ?_, fun w1 k1 bo1 => ?_⟩
        · exact Nat.le_trans hbW (b0 (by omega) g 0 none rfl)
        obtain ⟨g', cur, hp', hcur, hsz⟩ := (hj0.over hover) (by omega)
        cases hp'
        obtain hcur1 := k1.block UU g cur (by simp [KC.fz]) trivial hcur
        refine ⟨cur, UU, hcur1, by rw [Int.toNat_natCast]; show 0 + kk * 1 + 1 ≤ _; omega, by simp [KC.fz], fun bo2 => ?_⟩
        have hov2 : Over (fun _ => false) g wi2 (w1.setCells g (0 + (kk : Int).toNat * 1) (Value.cells (.int .u32 77)).toList) := (hover.thn (Over.of k1)).thn (Over.set hcur1)
        generalize w1.setCells g (0 + (kk : Int).toNat * 1) (Value.cells (.int .u32 77)).toList = w2 at *
        (repeat (first | refine wN ?_ | refine wP rfl ?_ | refine cx_r rfl ?_ | refine cx_d (by kernel_rfl) rfl ?_ | refine wO rfl rfl ?_))
        refine VS.back (nl0 - (kk + 1)) (by omega) ⟨_, _, ?_, ?_, ?_, ?_, ⟨kk + 1, by omega, rfl, rfl, rfl, fun _ => ⟨g, rfl, hov2⟩, fun e => by omega⟩⟩
        · refine ⟨rfl, rfl, rfl, rfl, rfl, rfl, ?_, trivial⟩
          rw [← nat_step (i := kk) (by have := m0; omega)]; rfl
        · (repeat (first | exact trivial | refine ⟨rfl, ?_⟩))
        · rfl
        · (repeat (first | exact trivial | refine ⟨ClosedC.lit rfl, ?_⟩ | refine ⟨ClosedC.vals _, ?_⟩))
      · refine VS.condN rfl (decide_eq_false (fun e => hkn (Int.ofNat_lt.1 e))) ?_
        (repeat (first | refine wN ?_ | refine wP rfl ?_ | refine cx_r rfl ?_ | refine cx_d (by kernel_rfl) rfl ?_ | refine wO rfl rfl ?_))
        have hfin : KpS (KU UU) W wk ∧ IntRd wk (.agg #[.bool sl1, .slice pl1 nl1 cl1]) (cl q) ∧ IntRd wk (.agg #[.bool sl2, .slice pl2 nl2 cl2]) (tr q) ∧ IntRd wk (.agg #[.bool sl3, .slice pl3 nl3 cl3]) (hf q) ∧ IntRd wk (.agg #[.bool sl4, .slice pl4 nl4 cl4]) (hf (q * ((100 : Int) : Rat))) ∧ Huk wk pl0 nl0 ∧ Huk wk pl1 nl1 ∧ Huk wk pl2 nl2 ∧ Huk wk pl3 nl3 ∧ Huk wk pl4 nl4 := by
          rcases Nat.eq_zero_or_pos nl0 with e0' | e0'
          · have kz := hnz e0'
            exact ⟨kWi2.thn kz, hy1.kp kz, hy2.kp kz, hy3.kp kz, hy4.kp kz, hj0.kpS kz (fun _ _ _ _ _ => trivial), hj1.kpS kz (fun _ _ _ _ _ => trivial), hj2.kpS kz (fun _ _ _ _ _ => trivial), hj3.kpS kz (fun _ _ _ _ _ => trivial), hj4.kpS kz (fun _ _ _ _ _ => trivial)⟩
          · obtain ⟨g, hpg, hover⟩ := hov e0'
            subst hpg
            exact ⟨Over.old kWi2 hover (b0 e0' g 0 none rfl), hy1.kpS hover.kp (d01 e0' g 0 none rfl), hy2.kpS hover.kp (d02 e0' g 0 none rfl), hy3.kpS hover.kp (d03 e0' g 0 none rfl), hy4.kpS hover.kp (d04 e0' g 0 none rfl), hj0.over hover, hj1.kpS hover.kp (d01 e0' g 0 none rfl), hj2.kpS hover.kp (d02 e0' g 0 none rfl), hj3.kpS hover.kp (d03 e0' g 0 none rfl), hj4.kpS hover.kp (d04 e0' g 0 none rfl)⟩
        obtain ⟨kf, hz1, hz2, hz3, hz4, hm0, hm1, hm2, hm3, hm4⟩ := hfin
        refine VS.back (5 - (0 + 1)) (by omega) ⟨_, _, ?_, ?_, ?_, ?_, ⟨0 + 1, by omega, rfl, rfl, rfl, kf, fun e => absurd e (by omega), fun _ => hz1, fun _ => hz2, fun _ => hz3, fun _ => hz4, hm0, hm1, hm2, hm3, hm4⟩⟩
        · (repeat (first | exact trivial | refine ⟨rfl, ?_⟩))
        · (repeat (first | exact trivial | refine ⟨rfl, ?_⟩))
        · rfl
        · (repeat (first | exact trivial | refine ⟨ClosedC.lit rfl, ?_⟩ | refine ⟨ClosedC.vals _, ?_⟩))
    · (repeat (first | refine wN ?_ | refine wP rfl ?_ | refine cx_r rfl ?_ | refine cx_d (by kernel_rfl) rfl ?_ | refine wO rfl rfl ?_))
      refine VO.cond rfl ⟨by decide, by decide⟩ ?_
      refine wV rfl ?_
      (repeat (first | refine wN ?_ | refine wP rfl ?_ | refine cx_r rfl ?_ | refine cx_d (by kernel_rfl) rfl ?_ | refine wO rfl rfl ?_))
      refine VO.peek rfl ([.bool sl1, .slice pl1 nl1 cl1].map .val) rfl (fun j u hj => by match j, hj with | 0, hj => exact hj | 1, hj => exact hj | (n + 2), hj => cases hj) (wV rfl ?_)
      (repeat (first | refine wN ?_ | refine wP rfl ?_ | refine cx_r rfl ?_ | refine cx_d (by kernel_rfl) rfl ?_ | refine wO rfl rfl ?_))
      refine VO.cond rfl ⟨by decide, by decide⟩ ?_
      refine wV rfl ?_
      (repeat (first | refine wN ?_ | refine wP rfl ?_ | refine cx_r rfl ?_ | refine cx_d (by kernel_rfl) rfl ?_ | refine wO rfl rfl ?_))
      refine VO.peek rfl ([.bool sw1, .slice pw1 nw1 cw1].map .val) rfl (fun j u hj => by match j, hj with | 0, hj => exact hj | 1, hj => exact hj | (n + 2), hj => cases hj) (wV rfl ?_)
      (repeat (first | refine wN ?_ | refine wP rfl ?_ | refine cx_r rfl ?_ | refine cx_d (by kernel_rfl) rfl ?_ | refine wO rfl rfl ?_))
      refine VO.call rfl rfl (fk Tryz.func51) (fun wa21 ka21 ba21 => (same05_any (cl q) _ _ 14 14 wa21 ((hx1 (Nat.le_refl _)).kp ka21) z1 ((hW1.kp (kWi.thn ka21)).to z1) (by omega) (by omega)).mono ?_)
      rintro e w21 ⟨rfl, hb21⟩
      skip
      refine ⟨_, rfl, hb21, fun kb21 _ bb21 => wV rfl ?_⟩
      (repeat (first | refine wN ?_ | refine wP rfl ?_ | refine cx_r rfl ?_ | refine cx_d (by kernel_rfl) rfl ?_ | refine wO rfl rfl ?_))
      refine VS.now (fun wi2 k22 b22 => ?_)
      have kWi2 : KpS (KU UU) W wi2 := kWi.thn (kb21.thn k22)
      have hy2 := (hx2 (by omega)).kp (kb21.thn k22)
      have hy3 := (hx3 (by omega)).kp (kb21.thn k22)
      have hy4 := (hx4 (by omega)).kp (kb21.thn k22)
      have hj0 := hk0.kpS (kb21.thn k22) (fun _ _ _ _ _ => trivial)
      have hj1 := hk1.kpS (kb21.thn k22) (fun _ _ _ _ _ => trivial)
      have hj2 := hk2.kpS (kb21.thn k22) (fun _ _ _ _ _ => trivial)
      have hj3 := hk3.kpS (kb21.thn k22) (fun _ _ _ _ _ => trivial)
      have hj4 := hk4.kpS (kb21.thn k22) (fun _ _ _ _ _ => trivial)
      clear kWi hx0 hk0 hx1 hk1 hx2 hk2 hx3 hk3 hx4 hk4 ka21 ba21 hb21 kb21 bb21 k22
      refine VS.loop (J := fun m L M w' => ∃ kk : Nat, kk ≤ nl1 ∧ m = nl1 - kk ∧ L = [(1, .box 1 0), (3, .box 3 0), (4, .row 25 0 5 5), (5, .val (.int .i64 (tt : Int))), (6, .row 40 0 5 5), (7, .val (.int .i64 ((1 : Nat) : Int))), (8, .val (.int .i64 (kk : Int)))] ∧ M = [(1, (27, ([.bool s, .slice px xs.length cx, .bool t, .slice rx ys.length dx] : List Value).map .val)), (3, (35, ([.bool s, .slice pr xs.length cr, .bool t, .slice rr ys.length dr] : List Value).map .val)), (25, (33, ([.bool sw0, .slice pw0 nw0 cw0, .bool sw1, .slice pw1 nw1 cw1, .bool sw2, .slice pw2 nw2 cw2, .bool sw3, .slice pw3 nw3 cw3, .bool sw4, .slice pw4 nw4 cw4] : List Value).map .val)), (40, (25, ([.bool sl0, .slice pl0 nl0 cl0, .bool sl1, .slice pl1 nl1 cl1, .bool sl2, .slice pl2 nl2 cl2, .bool sl3, .slice pl3 nl3 cl3, .bool sl4, .slice pl4 nl4 cl4] : List Value).map .val))] ∧ (0 < nl1 → ∃ g, pl1 = some ⟨g, 0, none⟩ ∧ Over (fun _ => false) g wi2 w') ∧ (nl1 = 0 → KpS (KU UU) wi2 w')) nl1 ⟨_, _, ?_, ?_, ?_, ?_, ⟨0, by omega, rfl, rfl, rfl, fun h0 => (by obtain ⟨g, cur, hp, _⟩ := hj1 h0; exact ⟨g, hp, Over.refl _ _ _⟩), fun _ => kR _⟩⟩ ?_
      · (repeat (first | exact trivial | refine ⟨rfl, ?_⟩))
      · (repeat (first | exact trivial | refine ⟨rfl, ?_⟩))
      · rfl
      · (repeat (first | exact trivial | refine ⟨ClosedC.lit rfl, ?_⟩ | refine ⟨ClosedC.vals _, ?_⟩))
      rintro m L M wk ⟨kk, hkk, rfl, rfl, rfl, hov, hnz⟩
      (repeat (first | refine wN ?_ | refine wP rfl ?_ | refine cx_r rfl ?_ | refine cx_d (by kernel_rfl) rfl ?_ | refine wO rfl rfl ?_))
      refine VO.cond rfl ⟨by decide, by decide⟩ ?_
      refine wV rfl ?_
      (repeat (first | refine wN ?_ | refine wP rfl ?_ | refine cx_r rfl ?_ | refine cx_d (by kernel_rfl) rfl ?_ | refine wO rfl rfl ?_))
      refine VO.peek rfl ([.slice pl1 nl1 cl1].map .val) rfl (fun j u hj => by match j, hj with | 0, hj => exact hj | (n + 1), hj => cases hj) (wV rfl ?_)
      (repeat (first | refine wN ?_ | refine wP rfl ?_ | refine cx_r rfl ?_ | refine cx_d (by kernel_rfl) rfl ?_ | refine wO rfl rfl ?_))
      by_cases hkn : kk < nl1
      · obtain ⟨g, hpg, hover⟩ := hov (by omega)
        subst hpg
        refine VS.condY rfl (decide_eq_true (Int.ofNat_lt.2 hkn)) ?_
        (repeat (first | refine wN ?_ | refine wP rfl ?_))
        refine VS.regionWn (cx_ok _ _) (fun _ => Iff.rfl) rfl ?_
        refine wV rfl ?_
        refine VO.cond rfl ⟨by decide, by decide⟩ ?_
        refine wV rfl ?_
        refine VO.peek rfl ([.slice (some ⟨g, 0, none⟩) nl1 cl1].map .val) rfl (fun j u hj => by match j, hj with | 0, hj => exact hj | (n + 1), hj => cases hj) (wV rfl ?_)
        refine VO.cond rfl ⟨by omega, by omega⟩ ?_
        refine wV rfl ?_
        refine wN ?_
        refine ⟨_, _, _, g, 0 + (kk : Int).toNat * 1, _, .int .u32 77, rfl, rfl, rfl, rfl, rfl, rfl, rfl, rfl, ?_, fun w1 k1 bo1 => ?_⟩
        · exact Nat.le_trans hbW (b1 (by omega) g 0 none rfl)
        obtain ⟨g', cur, hp', hcur, hsz⟩ := (hj1.over hover) (by omega)
        cases hp'
        obtain hcur1 := k1.block UU g cur (by simp [KC.fz]) trivial hcur
        refine ⟨cur, UU, hcur1, by rw [Int.toNat_natCast]; show 0 + kk * 1 + 1 ≤ _; omega, by simp [KC.fz], fun bo2 => ?_⟩
        have hov2 : Over (fun _ => false) g wi2 (w1.setCells g (0 + (kk : Int).toNat * 1) (Value.cells (.int .u32 77)).toList) := (hover.thn (Over.of k1)).thn (Over.set hcur1)
        generalize w1.setCells g (0 + (kk : Int).toNat * 1) (Value.cells (.int .u32 77)).toList = w2 at *
        (repeat (first | refine wN ?_ | refine wP rfl ?_ | refine cx_r rfl ?_ | refine cx_d (by kernel_rfl) rfl ?_ | refine wO rfl rfl ?_))
        refine VS.back (nl1 - (kk + 1)) (by omega) ⟨_, _, ?_, ?_, ?_, ?_, ⟨kk + 1, by omega, rfl, rfl, rfl, fun _ => ⟨g, rfl, hov2⟩, fun e => by omega⟩⟩
        · refine ⟨rfl, rfl, rfl, rfl, rfl, rfl, ?_, trivial⟩
          rw [← nat_step (i := kk) (by have := m1; omega)]; rfl
        · (repeat (first | exact trivial | refine ⟨rfl, ?_⟩))
        · rfl
        · (repeat (first | exact trivial | refine ⟨ClosedC.lit rfl, ?_⟩ | refine ⟨ClosedC.vals _, ?_⟩))
      · refine VS.condN rfl (decide_eq_false (fun e => hkn (Int.ofNat_lt.1 e))) ?_
        (repeat (first | refine wN ?_ | refine wP rfl ?_ | refine cx_r rfl ?_ | refine cx_d (by kernel_rfl) rfl ?_ | refine wO rfl rfl ?_))
        have hfin : KpS (KU UU) W wk ∧ IntRd wk (.agg #[.bool sl2, .slice pl2 nl2 cl2]) (tr q) ∧ IntRd wk (.agg #[.bool sl3, .slice pl3 nl3 cl3]) (hf q) ∧ IntRd wk (.agg #[.bool sl4, .slice pl4 nl4 cl4]) (hf (q * ((100 : Int) : Rat))) ∧ Huk wk pl0 nl0 ∧ Huk wk pl1 nl1 ∧ Huk wk pl2 nl2 ∧ Huk wk pl3 nl3 ∧ Huk wk pl4 nl4 := by
          rcases Nat.eq_zero_or_pos nl1 with e0' | e0'
          · have kz := hnz e0'
            exact ⟨kWi2.thn kz, hy2.kp kz, hy3.kp kz, hy4.kp kz, hj0.kpS kz (fun _ _ _ _ _ => trivial), hj1.kpS kz (fun _ _ _ _ _ => trivial), hj2.kpS kz (fun _ _ _ _ _ => trivial), hj3.kpS kz (fun _ _ _ _ _ => trivial), hj4.kpS kz (fun _ _ _ _ _ => trivial)⟩
          · obtain ⟨g, hpg, hover⟩ := hov e0'
            subst hpg
            exact ⟨Over.old kWi2 hover (b1 e0' g 0 none rfl), hy2.kpS hover.kp (d12 e0' g 0 none rfl), hy3.kpS hover.kp (d13 e0' g 0 none rfl), hy4.kpS hover.kp (d14 e0' g 0 none rfl), hj0.kpS hover.kp (fun h0 b off sp e hb => (d01 h0 b off sp e e0' g 0 none rfl) hb.symm), hj1.over hover, hj2.kpS hover.kp (d12 e0' g 0 none rfl), hj3.kpS hover.kp (d13 e0' g 0 none rfl), hj4.kpS hover.kp (d14 e0' g 0 none rfl)⟩
        obtain ⟨kf, hz2, hz3, hz4, hm0, hm1, hm2, hm3, hm4⟩ := hfin
        refine VS.back (5 - (1 + 1)) (by omega) ⟨_, _, ?_, ?_, ?_, ?_, ⟨1 + 1, by omega, rfl, rfl, rfl, kf, fun e => absurd e (by omega), fun e => absurd e (by omega), fun _ => hz2, fun _ => hz3, fun _ => hz4, hm0, hm1, hm2, hm3, hm4⟩⟩
        · (repeat (first | exact trivial | refine ⟨rfl, ?_⟩))
        · (repeat (first | exact trivial | refine ⟨rfl, ?_⟩))
        · rfl
        · (repeat (first | exact trivial | refine ⟨ClosedC.lit rfl, ?_⟩ | refine ⟨ClosedC.vals _, ?_⟩))
    · (repeat (first | refine wN ?_ | refine wP rfl ?_ | refine cx_r rfl ?_ | refine cx_d (by kernel_rfl) rfl ?_ | refine wO rfl rfl ?_))
      refine VO.cond rfl ⟨by decide, by decide⟩ ?_
      refine wV rfl ?_
      (repeat (first | refine wN ?_ | refine wP rfl ?_ | refine cx_r rfl ?_ | refine cx_d (by kernel_rfl) rfl ?_ | refine wO rfl rfl ?_))
      refine VO.peek rfl ([.bool sl2, .slice pl2 nl2 cl2].map .val) rfl (fun j u hj => by match j, hj with | 0, hj => exact hj | 1, hj => exact hj | (n + 2), hj => cases hj) (wV rfl ?_)
      (repeat (first | refine wN ?_ | refine wP rfl ?_ | refine cx_r rfl ?_ | refine cx_d (by kernel_rfl) rfl ?_ | refine wO rfl rfl ?_))
      refine VO.cond rfl ⟨by decide, by decide⟩ ?_
      refine wV rfl ?_
      (repeat (first | refine wN ?_ | refine wP rfl ?_ | refine cx_r rfl ?_ | refine cx_d (by kernel_rfl) rfl ?_ | refine wO rfl rfl ?_))
      refine VO.peek rfl ([.bool sw2, .slice pw2 nw2 cw2].map .val) rfl (fun j u hj => by match j, hj with | 0, hj => exact hj | 1, hj => exact hj | (n + 2), hj => cases hj) (wV rfl ?_)
      (repeat (first | refine wN ?_ | refine wP rfl ?_ | refine cx_r rfl ?_ | refine cx_d (by kernel_rfl) rfl ?_ | refine wO rfl rfl ?_))
      refine VO.call rfl rfl (fk Tryz.func51) (fun wa21 ka21 ba21 => (same05_any (tr q) _ _ 14 14 wa21 ((hx2 (Nat.le_refl _)).kp ka21) z2 ((hW2.kp (kWi.thn ka21)).to z2) (by omega) (by omega)).mono ?_)
      rintro e w21 ⟨rfl, hb21⟩
      skip
      refine ⟨_, rfl, hb21, fun kb21 _ bb21 => wV rfl ?_⟩
      (repeat (first | refine wN ?_ | refine wP rfl ?_ | refine cx_r rfl ?_ | refine cx_d (by kernel_rfl) rfl ?_ | refine wO rfl rfl ?_))
      refine VS.now (fun wi2 k22 b22 => ?_)
      have kWi2 : KpS (KU UU) W wi2 := kWi.thn (kb21.thn k22)
      have hy3 := (hx3 (by omega)).kp (kb21.thn k22)
      have hy4 := (hx4 (by omega)).kp (kb21.thn k22)
      have hj0 := hk0.kpS (kb21.thn k22) (fun _ _ _ _ _ => trivial)
      have hj1 := hk1.kpS (kb21.thn k22) (fun _ _ _ _ _ => trivial)
      have hj2 := hk2.kpS (kb21.thn k22) (fun _ _ _ _ _ => trivial)
      have hj3 := hk3.kpS (kb21.thn k22) (fun _ _ _ _ _ => trivial)
      have hj4 := hk4.kpS (kb21.thn k22) (fun _ _ _ _ _ => trivial)
      clear kWi hx0 hk0 hx1 hk1 hx2 hk2 hx3 hk3 hx4 hk4 ka21 ba21 hb21 kb21 bb21 k22
      refine VS.loop (J := fun m L M w' => ∃ kk : Nat, kk ≤ nl2 ∧ m = nl2 - kk ∧ L = [(1, .box 1 0), (3, .box 3 0), (4, .row 25 0 5 5), (5, .val (.int .i64 (tt : Int))), (6, .row 40 0 5 5), (7, .val (.int .i64 ((2 : Nat) : Int))), (8, .val (.int .i64 (kk : Int)))] ∧ M = [(1, (27, ([.bool s, .slice px xs.length cx, .bool t, .slice rx ys.length dx] : List Value).map .val)), (3, (35, ([.bool s, .slice pr xs.length cr, .bool t, .slice rr ys.length dr] : List Value).map .val)), (25, (33, ([.bool sw0, .slice pw0 nw0 cw0, .bool sw1, .slice pw1 nw1 cw1, .bool sw2, .slice pw2 nw2 cw2, .bool sw3, .slice pw3 nw3 cw3, .bool sw4, .slice pw4 nw4 cw4] : List Value).map .val)), (40, (25, ([.bool sl0, .slice pl0 nl0 cl0, .bool sl1, .slice pl1 nl1 cl1, .bool sl2, .slice pl2 nl2 cl2, .bool sl3, .slice pl3 nl3 cl3, .bool sl4, .slice pl4 nl4 cl4] : List Value).map .val))] ∧ (0 < nl2 → ∃ g, pl2 = some ⟨g, 0, none⟩ ∧ Over (fun _ => false) g wi2 w') ∧ (nl2 = 0 → KpS (KU UU) wi2 w')) nl2 ⟨_, _, ?_, ?_, ?_, ?_, ⟨0, by omega, rfl, rfl, rfl, fun h0 => (by obtain ⟨g, cur, hp, _⟩ := hj2 h0; exact ⟨g, hp, Over.refl _ _ _⟩), fun _ => kR _⟩⟩ ?_
      · (repeat (first | exact trivial | refine ⟨rfl, ?_⟩))
      · (repeat (first | exact trivial | refine ⟨rfl, ?_⟩))
      · rfl
      · (repeat (first | exact trivial | refine ⟨ClosedC.lit rfl, ?_⟩ | refine ⟨ClosedC.vals _, ?_⟩))
      rintro m L M wk ⟨kk, hkk, rfl, rfl, rfl, hov, hnz⟩
      (repeat (first | refine wN ?_ | refine wP rfl ?_ | refine cx_r rfl ?_ | refine cx_d (by kernel_rfl) rfl ?_ | refine wO rfl rfl ?_))
      refine VO.cond rfl ⟨by decide, by decide⟩ ?_
      refine wV rfl ?_
      (repeat (first | refine wN ?_ | refine wP rfl ?_ | refine cx_r rfl ?_ | refine cx_d (by kernel_rfl) rfl ?_ | refine wO rfl rfl ?_))
      refine VO.peek rfl ([.slice pl2 nl2 cl2].map .val) rfl (fun j u hj => by match j, hj with | 0, hj => exact hj | (n + 1), hj => cases hj) (wV rfl ?_)
      (repeat (first | refine wN ?_ | refine wP rfl ?_ | refine cx_r rfl ?_ | refine cx_d (by kernel_rfl) rfl ?_ | refine wO rfl rfl ?_))
      by_cases hkn : kk < nl2
      · obtain ⟨g, hpg, hover⟩ := hov (by omega)
        subst hpg
        refine VS.condY rfl (decide_eq_true (Int.ofNat_lt.2 hkn)) ?_
        (repeat (first | refine wN ?_ | refine wP rfl ?_))
        refine VS.regionWn (cx_ok _ _) (fun _ => Iff.rfl) rfl ?_
        refine wV rfl ?_
        refine VO.cond rfl ⟨by decide, by decide⟩ ?_
        refine wV rfl ?_
        refine VO.peek rfl ([.slice (some ⟨g, 0, none⟩) nl2 cl2].map .val) rfl (fun j u hj => by match j, hj with | 0, hj => exact hj | (n + 1), hj => cases hj) (wV rfl ?_)
        refine VO.cond rfl ⟨by omega, by omega⟩ ?_
        refine wV rfl ?_
        refine wN ?_
        refine ⟨_, _, _, g, 0 + (kk : Int).toNat * 1, _, .int .u32 77, rfl, rfl, rfl, rfl, rfl, rfl, rfl, rfl, ?_, fun w1 k1 bo1 => ?_⟩
        · exact Nat.le_trans hbW (b2 (by omega) g 0 none rfl)
        obtain ⟨g', cur, hp', hcur, hsz⟩ := (hj2.over hover) (by omega)
        cases hp'
        obtain hcur1 := k1.block UU g cur (by simp [KC.fz]) trivial hcur
        refine ⟨cur, UU, hcur1, by rw [Int.toNat_natCast]; show 0 + kk * 1 + 1 ≤ _; omega, by simp [KC.fz], fun bo2 => ?_⟩
        have hov2 : Over (fun _ => false) g wi2 (w1.setCells g (0 + (kk : Int).toNat * 1) (Value.cells (.int .u32 77)).toList) := (hover.thn (Over.of k1)).thn (Over.set hcur1)
        generalize w1.setCells g (0 + (kk : Int).toNat * 1) (Value.cells (.int .u32 77)).toList = w2 at *
        (repeat (first | refine wN ?_ | refine wP rfl ?_ | refine cx_r rfl ?_ | refine cx_d (by kernel_rfl) rfl ?_ | refine wO rfl rfl ?_))
        refine VS.back (nl2 - (kk + 1)) (by omega) ⟨_, _, ?_, ?_, ?_, ?_, ⟨kk + 1, by omega, rfl, rfl, rfl, fun _ => ⟨g, rfl, hov2⟩, fun e => by omega⟩⟩
        · refine ⟨rfl, rfl, rfl, rfl, rfl, rfl, ?_, trivial⟩
          rw [← nat_step (i := kk) (by have := m2; omega)]; rfl
        · (repeat (first | exact trivial | refine ⟨rfl, ?_⟩))
        · rfl
        · (repeat (first | exact trivial | refine ⟨ClosedC.lit rfl, ?_⟩ | refine ⟨ClosedC.vals _, ?_⟩))
      · refine VS.condN rfl (decide_eq_false (fun e => hkn (Int.ofNat_lt.1 e))) ?_
        (repeat (first | refine wN ?_ | refine wP rfl ?_ | refine cx_r rfl ?_ | refine cx_d (by kernel_rfl) rfl ?_ | refine wO rfl rfl ?_))
        have hfin : KpS (KU UU) W wk ∧ IntRd wk (.agg #[.bool sl3, .slice pl3 nl3 cl3]) (hf q) ∧ IntRd wk (.agg #[.bool sl4, .slice pl4 nl4 cl4]) (hf (q * ((100 : Int) : Rat))) ∧ Huk wk pl0 nl0 ∧ Huk wk pl1 nl1 ∧ Huk wk pl2 nl2 ∧ Huk wk pl3 nl3 ∧ Huk wk pl4 nl4 := by
          rcases Nat.eq_zero_or_pos nl2 with e0' | e0'
          · have kz := hnz e0'
            exact ⟨kWi2.thn kz, hy3.kp kz, hy4.kp kz, hj0.kpS kz (fun _ _ _ _ _ => trivial), hj1.kpS kz (fun _ _ _ _ _ => trivial), hj2.kpS kz (fun _ _ _ _ _ => trivial), hj3.kpS kz (fun _ _ _ _ _ => trivial), hj4.kpS kz (fun _ _ _ _ _ => trivial)⟩
          · obtain ⟨g, hpg, hover⟩ := hov e0'
            subst hpg
            exact ⟨Over.old kWi2 hover (b2 e0' g 0 none rfl), hy3.kpS hover.kp (d23 e0' g 0 none rfl), hy4.kpS hover.kp (d24 e0' g 0 none rfl), hj0.kpS hover.kp (fun h0 b off sp e hb => (d02 h0 b off sp e e0' g 0 none rfl) hb.symm), hj1.kpS hover.kp (fun h0 b off sp e hb => (d12 h0 b off sp e e0' g 0 none rfl) hb.symm), hj2.over hover, hj3.kpS hover.kp (d23 e0' g 0 none rfl), hj4.kpS hover.kp (d24 e0' g 0 none rfl)⟩
        obtain ⟨kf, hz3, hz4, hm0, hm1, hm2, hm3, hm4⟩ := hfin
        refine VS.back (5 - (2 + 1)) (by omega) ⟨_, _, ?_, ?_, ?_, ?_, ⟨2 + 1, by omega, rfl, rfl, rfl, kf, fun e => absurd e (by omega), fun e => absurd e (by omega), fun e => absurd e (by omega), fun _ => hz3, fun _ => hz4, hm0, hm1, hm2, hm3, hm4⟩⟩
        · (repeat (first | exact trivial | refine ⟨rfl, ?_⟩))
        · (repeat (first | exact trivial | refine ⟨rfl, ?_⟩))
        · rfl
        · (repeat (first | exact trivial | refine ⟨ClosedC.lit rfl, ?_⟩ | refine ⟨ClosedC.vals _, ?_⟩))
    · (repeat (first | refine wN ?_ | refine wP rfl ?_ | refine cx_r rfl ?_ | refine cx_d (by kernel_rfl) rfl ?_ | refine wO rfl rfl ?_))
      refine VO.cond rfl ⟨by decide, by decide⟩ ?_
      refine wV rfl ?_
      (repeat (first | refine wN ?_ | refine wP rfl ?_ | refine cx_r rfl ?_ | refine cx_d (by kernel_rfl) rfl ?_ | refine wO rfl rfl ?_))
      refine VO.peek rfl ([.bool sl3, .slice pl3 nl3 cl3].map .val) rfl (fun j u hj => by match j, hj with | 0, hj => exact hj | 1, hj => exact hj | (n + 2), hj => cases hj) (wV rfl ?_)
      (repeat (first | refine wN ?_ | refine wP rfl ?_ | refine cx_r rfl ?_ | refine cx_d (by kernel_rfl) rfl ?_ | refine wO rfl rfl ?_))
      refine VO.cond rfl ⟨by decide, by decide⟩ ?_
      refine wV rfl ?_
      (repeat (first | refine wN ?_ | refine wP rfl ?_ | refine cx_r rfl ?_ | refine cx_d (by kernel_rfl) rfl ?_ | refine wO rfl rfl ?_))
      refine VO.peek rfl ([.bool sw3, .slice pw3 nw3 cw3].map .val) rfl (fun j u hj => by match j, hj with | 0, hj => exact hj | 1, hj => exact hj | (n + 2), hj => cases hj) (wV rfl ?_)
      (repeat (first | refine wN ?_ | refine wP rfl ?_ | refine cx_r rfl ?_ | refine cx_d (by kernel_rfl) rfl ?_ | refine wO rfl rfl ?_))
      refine VO.call rfl rfl (fk Tryz.func51) (fun wa21 ka21 ba21 => (same05_any (hf q) _ _ 14 14 wa21 ((hx3 (Nat.le_refl _)).kp ka21) z3 ((hW3.kp (kWi.thn ka21)).to z3) (by omega) (by omega)).mono ?_)
      rintro e w21 ⟨rfl, hb21⟩
      skip
      refine ⟨_, rfl, hb21, fun kb21 _ bb21 => wV rfl ?_⟩
      (repeat (first | refine wN ?_ | refine wP rfl ?_ | refine cx_r rfl ?_ | refine cx_d (by kernel_rfl) rfl ?_ | refine wO rfl rfl ?_))
      refine VS.now (fun wi2 k22 b22 => ?_)
      have kWi2 : KpS (KU UU) W wi2 := kWi.thn (kb21.thn k22)
      have hy4 := (hx4 (by omega)).kp (kb21.thn k22)
      have hj0 := hk0.kpS (kb21.thn k22) (fun _ _ _ _ _ => trivial)
      have hj1 := hk1.kpS (kb21.thn k22) (fun _ _ _ _ _ => trivial)
      have hj2 := hk2.kpS (kb21.thn k22) (fun _ _ _ _ _ => trivial)
      have hj3 := hk3.kpS (kb21.thn k22) (fun _ _ _ _ _ => trivial)
      have hj4 := hk4.kpS (kb21.thn k22) (fun _ _ _ _ _ => trivial)
      clear kWi hx0 hk0 hx1 hk1 hx2 hk2 hx3 hk3 hx4 hk4 ka21 ba21 hb21 kb21 bb21 k22
      refine VS.loop (J := fun m L M w' => ∃ kk : Nat, kk ≤ nl3 ∧ m = nl3 - kk ∧ L = [(1, .box 1 0), (3, .box 3 0), (4, .row 25 0 5 5), (5, .val (.int .i64 (tt : Int))), (6, .row 40 0 5 5), (7, .val (.int .i64 ((3 : Nat) : Int))), (8, .val (.int .i64 (kk : Int)))] ∧ M = [(1, (27, ([.bool s, .slice px xs.length cx, .bool t, .slice rx ys.length dx] : List Value).map .val)), (3, (35, ([.bool s, .slice pr xs.length cr, .bool t, .slice rr ys.length dr] : List Value).map .val)), (25, (33, ([.bool sw0, .slice pw0 nw0 cw0, .bool sw1, .slice pw1 nw1 cw1, .bool sw2, .slice pw2 nw2 cw2, .bool sw3, .slice pw3 nw3 cw3, .bool sw4, .slice pw4 nw4 cw4] : List Value).map .val)), (40, (25, ([.bool sl0, .slice pl0 nl0 cl0, .bool sl1, .slice pl1 nl1 cl1, .bool sl2, .slice pl2 nl2 cl2, .bool sl3, .slice pl3 nl3 cl3, .bool sl4, .slice pl4 nl4 cl4] : List Value).map .val))] ∧ (0 < nl3 → ∃ g, pl3 = some ⟨g, 0, none⟩ ∧ Over (fun _ => false) g wi2 w') ∧ (nl3 = 0 → KpS (KU UU) wi2 w')) nl3 ⟨_, _, ?_, ?_, ?_, ?_, ⟨0, by omega, rfl, rfl, rfl, fun h0 => (by obtain ⟨g, cur, hp, _⟩ := hj3 h0; exact ⟨g, hp, Over.refl _ _ _⟩), fun _ => kR _⟩⟩ ?_
      · (repeat (first | exact trivial | refine ⟨rfl, ?_⟩))
      · (repeat (first | exact trivial | refine ⟨rfl, ?_⟩))
      · rfl
      · (repeat (first | exact trivial | refine ⟨ClosedC.lit rfl, ?_⟩ | refine ⟨ClosedC.vals _, ?_⟩))
      rintro m L M wk ⟨kk, hkk, rfl, rfl, rfl, hov, hnz⟩
      (repeat (first | refine wN ?_ | refine wP rfl ?_ | refine cx_r rfl ?_ | refine cx_d (by kernel_rfl) rfl ?_ | refine wO rfl rfl ?_))
      refine VO.cond rfl ⟨by decide, by decide⟩ ?_
      refine wV rfl ?_
      (repeat (first | refine wN ?_ | refine wP rfl ?_ | refine cx_r rfl ?_ | refine cx_d (by kernel_rfl) rfl ?_ | refine wO rfl rfl ?_))
      refine VO.peek rfl ([.slice pl3 nl3 cl3].map .val) rfl (fun j u hj => by match j, hj with | 0, hj => exact hj | (n + 1), hj => cases hj) (wV rfl ?_)
      (repeat (first | refine wN ?_ | refine wP rfl ?_ | refine cx_r rfl ?_ | refine cx_d (by kernel_rfl) rfl ?_ | refine wO rfl rfl ?_))
      by_cases hkn : kk < nl3
      · obtain ⟨g, hpg, hover⟩ := hov (by omega)
        subst hpg
        refine VS.condY rfl (decide_eq_true (Int.ofNat_lt.2 hkn)) ?_
        (repeat (first | refine wN ?_ | refine wP rfl ?_))
        refine VS.regionWn (cx_ok _ _) (fun _ => Iff.rfl) rfl ?_
        refine wV rfl ?_
        refine VO.cond rfl ⟨by decide, by decide⟩ ?_
        refine wV rfl ?_
        refine VO.peek rfl ([.slice (some ⟨g, 0, none⟩) nl3 cl3].map .val) rfl (fun j u hj => by match j, hj with | 0, hj => exact hj | (n + 1), hj => cases hj) (wV rfl ?_)
        refine VO.cond rfl ⟨by omega, by omega⟩ ?_
        refine wV rfl ?_
        refine wN ?_
        refine ⟨_, _, _, g, 0 + (kk : Int).toNat * 1, _, .int .u32 77, rfl, rfl, rfl, rfl, rfl, rfl, rfl, rfl, ?_, fun w1 k1 bo1 => ?_⟩
        · exact Nat.le_trans hbW (b3 (by omega) g 0 none rfl)
        obtain ⟨g', cur, hp', hcur, hsz⟩ := (hj3.over hover) (by omega)
        cases hp'
        obtain hcur1 := k1.block UU g cur (by simp [KC.fz]) trivial hcur
        refine ⟨cur, UU, hcur1, by rw [Int.toNat_natCast]; show 0 + kk * 1 + 1 ≤ _; omega, by simp [KC.fz], fun bo2 => ?_⟩
        have hov2 : Over (fun _ => false) g wi2 (w1.setCells g (0 + (kk : Int).toNat * 1) (Value.cells (.int .u32 77)).toList) := (hover.thn (Over.of k1)).thn (Over.set hcur1)
        generalize w1.setCells g (0 + (kk : Int).toNat * 1) (Value.cells (.int .u32 77)).toList = w2 at *
        (repeat (first | refine wN ?_ | refine wP rfl ?_ | refine cx_r rfl ?_ | refine cx_d (by kernel_rfl) rfl ?_ | refine wO rfl rfl ?_))
        refine VS.back (nl3 - (kk + 1)) (by omega) ⟨_, _, ?_, ?_, ?_, ?_, ⟨kk + 1, by omega, rfl, rfl, rfl, fun _ => ⟨g, rfl, hov2⟩, fun e => by omega⟩⟩
        · refine ⟨rfl, rfl, rfl, rfl, rfl, rfl, ?_, trivial⟩
          rw [← nat_step (i := kk) (by have := m3; omega)]; rfl
        · (repeat (first | exact trivial | refine ⟨rfl, ?_⟩))
        · rfl
        · (repeat (first | exact trivial | refine ⟨ClosedC.lit rfl, ?_⟩ | refine ⟨ClosedC.vals _, ?_⟩))
      · refine VS.condN rfl (decide_eq_false (fun e => hkn (Int.ofNat_lt.1 e))) ?_
        (repeat (first | refine wN ?_ | refine wP rfl ?_ | refine cx_r rfl ?_ | refine cx_d (by kernel_rfl) rfl ?_ | refine wO rfl rfl ?_))
        have hfin : KpS (KU UU) W wk ∧ IntRd wk (.agg #[.bool sl4, .slice pl4 nl4 cl4]) (hf (q * ((100 : Int) : Rat))) ∧ Huk wk pl0 nl0 ∧ Huk wk pl1 nl1 ∧ Huk wk pl2 nl2 ∧ Huk wk pl3 nl3 ∧ Huk wk pl4 nl4 := by
          rcases Nat.eq_zero_or_pos nl3 with e0' | e0'
          · have kz := hnz e0'
            exact ⟨kWi2.thn kz, hy4.kp kz, hj0.kpS kz (fun _ _ _ _ _ => trivial), hj1.kpS kz (fun _ _ _ _ _ => trivial), hj2.kpS kz (fun _ _ _ _ _ => trivial), hj3.kpS kz (fun _ _ _ _ _ => trivial), hj4.kpS kz (fun _ _ _ _ _ => trivial)⟩
          · obtain ⟨g, hpg, hover⟩ := hov e0'
            subst hpg
            exact ⟨Over.old kWi2 hover (b3 e0' g 0 none rfl), hy4.kpS hover.kp (d34 e0' g 0 none rfl), hj0.kpS hover.kp (fun h0 b off sp e hb => (d03 h0 b off sp e e0' g 0 none rfl) hb.symm), hj1.kpS hover.kp (fun h0 b off sp e hb => (d13 h0 b off sp e e0' g 0 none rfl) hb.symm), hj2.kpS hover.kp (fun h0 b off sp e hb => (d23 h0 b off sp e e0' g 0 none rfl) hb.symm), hj3.over hover, hj4.kpS hover.kp (d34 e0' g 0 none rfl)⟩
        obtain ⟨kf, hz4, hm0, hm1, hm2, hm3, hm4⟩ := hfin
        refine VS.back (5 - (3 + 1)) (by omega) ⟨_, _, ?_, ?_, ?_, ?_, ⟨3 + 1, by omega, rfl, rfl, rfl, kf, fun e => absurd e (by omega), fun e => absurd e (by omega), fun e => absurd e (by omega), fun e => absurd e (by omega), fun _ => hz4, hm0, hm1, hm2, hm3, hm4⟩⟩
        · (repeat (first | exact trivial | refine ⟨rfl, ?_⟩))
        · (repeat (first | exact trivial | refine ⟨rfl, ?_⟩))
        · rfl
        · (repeat (first | exact trivial | refine ⟨ClosedC.lit rfl, ?_⟩ | refine ⟨ClosedC.vals _, ?_⟩))
    · (repeat (first | refine wN ?_ | refine wP rfl ?_ | refine cx_r rfl ?_ | refine cx_d (by kernel_rfl) rfl ?_ | refine wO rfl rfl ?_))
      refine VO.cond rfl ⟨by decide, by decide⟩ ?_
      refine wV rfl ?_
      (repeat (first | refine wN ?_ | refine wP rfl ?_ | refine cx_r rfl ?_ | refine cx_d (by kernel_rfl) rfl ?_ | refine wO rfl rfl ?_))
      refine VO.peek rfl ([.bool sl4, .slice pl4 nl4 cl4].map .val) rfl (fun j u hj => by match j, hj with | 0, hj => exact hj | 1, hj => exact hj | (n + 2), hj => cases hj) (wV rfl ?_)
      (repeat (first | refine wN ?_ | refine wP rfl ?_ | refine cx_r rfl ?_ | refine cx_d (by kernel_rfl) rfl ?_ | refine wO rfl rfl ?_))
      refine VO.cond rfl ⟨by decide, by decide⟩ ?_
      refine wV rfl ?_
      (repeat (first | refine wN ?_ | refine wP rfl ?_ | refine cx_r rfl ?_ | refine cx_d (by kernel_rfl) rfl ?_ | refine wO rfl rfl ?_))
      refine VO.peek rfl ([.bool sw4, .slice pw4 nw4 cw4].map .val) rfl (fun j u hj => by match j, hj with | 0, hj => exact hj | 1, hj => exact hj | (n + 2), hj => cases hj) (wV rfl ?_)
      (repeat (first | refine wN ?_ | refine wP rfl ?_ | refine cx_r rfl ?_ | refine cx_d (by kernel_rfl) rfl ?_ | refine wO rfl rfl ?_))
      refine VO.call rfl rfl (fk Tryz.func51) (fun wa21 ka21 ba21 => (same05_any (hf (q * ((100 : Int) : Rat))) _ _ 14 14 wa21 ((hx4 (Nat.le_refl _)).kp ka21) z4 ((hW4.kp (kWi.thn ka21)).to z4) (by omega) (by omega)).mono ?_)
      rintro e w21 ⟨rfl, hb21⟩
      skip
      refine ⟨_, rfl, hb21, fun kb21 _ bb21 => wV rfl ?_⟩
      (repeat (first | refine wN ?_ | refine wP rfl ?_ | refine cx_r rfl ?_ | refine cx_d (by kernel_rfl) rfl ?_ | refine wO rfl rfl ?_))
      refine VS.now (fun wi2 k22 b22 => ?_)
      have kWi2 : KpS (KU UU) W wi2 := kWi.thn (kb21.thn k22)
      have hj0 := hk0.kpS (kb21.thn k22) (fun _ _ _ _ _ => trivial)
      have hj1 := hk1.kpS (kb21.thn k22) (fun _ _ _ _ _ => trivial)
      have hj2 := hk2.kpS (kb21.thn k22) (fun _ _ _ _ _ => trivial)
      have hj3 := hk3.kpS (kb21.thn k22) (fun _ _ _ _ _ => trivial)
      have hj4 := hk4.kpS (kb21.thn k22) (fun _ _ _ _ _ => trivial)
      clear kWi hx0 hk0 hx1 hk1 hx2 hk2 hx3 hk3 hx4 hk4 ka21 ba21 hb21 kb21 bb21 k22
      refine VS.loop (J := fun m L M w' => ∃ kk : Nat, kk ≤ nl4 ∧ m = nl4 - kk ∧ L = [(1, .box 1 0), (3, .box 3 0), (4, .row 25 0 5 5), (5, .val (.int .i64 (tt : Int))), (6, .row 40 0 5 5), (7, .val (.int .i64 ((4 : Nat) : Int))), (8, .val (.int .i64 (kk : Int)))] ∧ M = [(1, (27, ([.bool s, .slice px xs.length cx, .bool t, .slice rx ys.length dx] : List Value).map .val)), (3, (35, ([.bool s, .slice pr xs.length cr, .bool t, .slice rr ys.length dr] : List Value).map .val)), (25, (33, ([.bool sw0, .slice pw0 nw0 cw0, .bool sw1, .slice pw1 nw1 cw1, .bool sw2, .slice pw2 nw2 cw2, .bool sw3, .slice pw3 nw3 cw3, .bool sw4, .slice pw4 nw4 cw4] : List Value).map .val)), (40, (25, ([.bool sl0, .slice pl0 nl0 cl0, .bool sl1, .slice pl1 nl1 cl1, .bool sl2, .slice pl2 nl2 cl2, .bool sl3, .slice pl3 nl3 cl3, .bool sl4, .slice pl4 nl4 cl4] : List Value).map .val))] ∧ (0 < nl4 → ∃ g, pl4 = some ⟨g, 0, none⟩ ∧ Over (fun _ => false) g wi2 w') ∧ (nl4 = 0 → KpS (KU UU) wi2 w')) nl4 ⟨_, _, ?_, ?_, ?_, ?_, ⟨0, by omega, rfl, rfl, rfl, fun h0 => (by obtain ⟨g, cur, hp, _⟩ := hj4 h0; exact ⟨g, hp, Over.refl _ _ _⟩), fun _ => kR _⟩⟩ ?_
      · (repeat (first | exact trivial | refine ⟨rfl, ?_⟩))
      · (repeat (first | exact trivial | refine ⟨rfl, ?_⟩))
      · rfl
      · (repeat (first | exact trivial | refine ⟨ClosedC.lit rfl, ?_⟩ | refine ⟨ClosedC.vals _, ?_⟩))
      rintro m L M wk ⟨kk, hkk, rfl, rfl, rfl, hov, hnz⟩
      (repeat (first | refine wN ?_ | refine wP rfl ?_ | refine cx_r rfl ?_ | refine cx_d (by kernel_rfl) rfl ?_ | refine wO rfl rfl ?_))
      refine VO.cond rfl ⟨by decide, by decide⟩ ?_
      refine wV rfl ?_
      (repeat (first | refine wN ?_ | refine wP rfl ?_ | refine cx_r rfl ?_ | refine cx_d (by kernel_rfl) rfl ?_ | refine wO rfl rfl ?_))
      refine VO.peek rfl ([.slice pl4 nl4 cl4].map .val) rfl (fun j u hj => by match j, hj with | 0, hj => exact hj | (n + 1), hj => cases hj) (wV rfl ?_)
      (repeat (first | refine wN ?_ | refine wP rfl ?_ | refine cx_r rfl ?_ | refine cx_d (by kernel_rfl) rfl ?_ | refine wO rfl rfl ?_))
      by_cases hkn : kk < nl4
      · obtain ⟨g, hpg, hover⟩ := hov (by omega)
        subst hpg
        refine VS.condY rfl (decide_eq_true (Int.ofNat_lt.2 hkn)) ?_
        (repeat (first | refine wN ?_ | refine wP rfl ?_))
        refine VS.regionWn (cx_ok _ _) (fun _ => Iff.rfl) rfl ?_
        refine wV rfl ?_
        refine VO.cond rfl ⟨by decide, by decide⟩ ?_
        refine wV rfl ?_
        refine VO.peek rfl ([.slice (some ⟨g, 0, none⟩) nl4 cl4].map .val) rfl (fun j u hj => by match j, hj with | 0, hj => exact hj | (n + 1), hj => cases hj) (wV rfl ?_)
        refine VO.cond rfl ⟨by omega, by omega⟩ ?_
        refine wV rfl ?_
        refine wN ?_
        refine ⟨_, _, _, g, 0 + (kk : Int).toNat * 1, _, .int .u32 77, rfl, rfl, rfl, rfl, rfl, rfl, rfl, rfl, ?_, fun w1 k1 bo1 => ?_⟩
        · exact Nat.le_trans hbW (b4 (by omega) g 0 none rfl)
        obtain ⟨g', cur, hp', hcur, hsz⟩ := (hj4.over hover) (by omega)
        cases hp'
        obtain hcur1 := k1.block UU g cur (by simp [KC.fz]) trivial hcur
        refine ⟨cur, UU, hcur1, by rw [Int.toNat_natCast]; show 0 + kk * 1 + 1 ≤ _; omega, by simp [KC.fz], fun bo2 => ?_⟩
        have hov2 : Over (fun _ => false) g wi2 (w1.setCells g (0 + (kk : Int).toNat * 1) (Value.cells (.int .u32 77)).toList) := (hover.thn (Over.of k1)).thn (Over.set hcur1)
        generalize w1.setCells g (0 + (kk : Int).toNat * 1) (Value.cells (.int .u32 77)).toList = w2 at *
        (repeat (first | refine wN ?_ | refine wP rfl ?_ | refine cx_r rfl ?_ | refine cx_d (by kernel_rfl) rfl ?_ | refine wO rfl rfl ?_))
        refine VS.back (nl4 - (kk + 1)) (by omega) ⟨_, _, ?_, ?_, ?_, ?_, ⟨kk + 1, by omega, rfl, rfl, rfl, fun _ => ⟨g, rfl, hov2⟩, fun e => by omega⟩⟩
        · refine ⟨rfl, rfl, rfl, rfl, rfl, rfl, ?_, trivial⟩
          rw [← nat_step (i := kk) (by have := m4; omega)]; rfl
        · (repeat (first | exact trivial | refine ⟨rfl, ?_⟩))
        · rfl
        · (repeat (first | exact trivial | refine ⟨ClosedC.lit rfl, ?_⟩ | refine ⟨ClosedC.vals _, ?_⟩))
      · refine VS.condN rfl (decide_eq_false (fun e => hkn (Int.ofNat_lt.1 e))) ?_
        (repeat (first | refine wN ?_ | refine wP rfl ?_ | refine cx_r rfl ?_ | refine cx_d (by kernel_rfl) rfl ?_ | refine wO rfl rfl ?_))
        have hfin : KpS (KU UU) W wk ∧ Huk wk pl0 nl0 ∧ Huk wk pl1 nl1 ∧ Huk wk pl2 nl2 ∧ Huk wk pl3 nl3 ∧ Huk wk pl4 nl4 := by
          rcases Nat.eq_zero_or_pos nl4 with e0' | e0'
          · have kz := hnz e0'
            exact ⟨kWi2.thn kz, hj0.kpS kz (fun _ _ _ _ _ => trivial), hj1.kpS kz (fun _ _ _ _ _ => trivial), hj2.kpS kz (fun _ _ _ _ _ => trivial), hj3.kpS kz (fun _ _ _ _ _ => trivial), hj4.kpS kz (fun _ _ _ _ _ => trivial)⟩
          · obtain ⟨g, hpg, hover⟩ := hov e0'
            subst hpg
            exact ⟨Over.old kWi2 hover (b4 e0' g 0 none rfl), hj0.kpS hover.kp (fun h0 b off sp e hb => (d04 h0 b off sp e e0' g 0 none rfl) hb.symm), hj1.kpS hover.kp (fun h0 b off sp e hb => (d14 h0 b off sp e e0' g 0 none rfl) hb.symm), hj2.kpS hover.kp (fun h0 b off sp e hb => (d24 h0 b off sp e e0' g 0 none rfl) hb.symm), hj3.kpS hover.kp (fun h0 b off sp e hb => (d34 h0 b off sp e e0' g 0 none rfl) hb.symm), hj4.over hover⟩
        obtain ⟨kf, hm0, hm1, hm2, hm3, hm4⟩ := hfin
        refine VS.back (5 - (4 + 1)) (by omega) ⟨_, _, ?_, ?_, ?_, ?_, ⟨4 + 1, by omega, rfl, rfl, rfl, kf, fun e => absurd e (by omega), fun e => absurd e (by omega), fun e => absurd e (by omega), fun e => absurd e (by omega), fun e => absurd e (by omega), hm0, hm1, hm2, hm3, hm4⟩⟩
        · (repeat (first | exact trivial | refine ⟨rfl, ?_⟩))
        · (repeat (first | exact trivial | refine ⟨rfl, ?_⟩))
        · rfl
        · (repeat (first | exact trivial | refine ⟨ClosedC.lit rfl, ?_⟩ | refine ⟨ClosedC.vals _, ?_⟩))
    · (repeat (first | refine wN ?_ | refine wP rfl ?_ | refine cx_r rfl ?_ | refine cx_d (by kernel_rfl) rfl ?_ | refine wO rfl rfl ?_))
      refine VS.back (2 - (tt + 1)) (by omega) ⟨_, _, ?_, ?_, ?_, ?_, ⟨tt + 1, by omega, rfl, rfl, rfl, hR0.kp kWi, hW0.kp kWi, hW1.kp kWi, hW2.kp kWi, hW3.kp kWi, hW4.kp kWi⟩⟩
      · refine ⟨rfl, rfl, rfl, ?_, trivial⟩
        rw [← nat_step (i := tt) (by omega)]; rfl
      · (repeat (first | exact trivial | refine ⟨rfl, ?_⟩))
      · rfl
      · (repeat (first | exact trivial | refine ⟨ClosedC.lit rfl, ?_⟩ | refine ⟨ClosedC.vals _, ?_⟩))
  · refine VS.condN rfl (decide_eq_false (fun e => hlt (Int.ofNat_lt.1 e))) ?_
    (repeat (first | refine wN ?_ | refine wP rfl ?_ | refine cx_r rfl ?_ | refine cx_d (by kernel_rfl) rfl ?_ | refine wO rfl rfl ?_))
    have hnx := hv0.nums
    have hnr := hR0.nums
    have hX : Sz (numOf s xs) 12 := numOf_sz hnx.lim hf12.1
    have hfr : RSz (frac q) 12 := by
      rw [← frac_div]
      exact divInt_sz (Sz.left hqs) hqs.2 (by have := den_pos q; omega)
    refine VO.call rfl rfl (fk Tryz.func65) (fun wa11 ka11 ba11 => (rdFrac_any _ q 12 wa11 hq.k (by omega)).mono ?_)
    rintro e w11 ⟨r11, rfl, q11, hb11⟩
    obtain ⟨s11, p11, n11, c11, t11, y11, m11, d11, rfl⟩ := q11.form
    refine ⟨_, rfl, hb11, fun kb11 _ bb11 => wV rfl ?_⟩
    (repeat (first | refine wN ?_ | refine wP rfl ?_ | refine cx_r rfl ?_ | refine cx_d (by kernel_rfl) rfl ?_ | refine wO rfl rfl ?_))
    refine VO.call rfl rfl (fk Tryz.func66) (fun wa12 ka12 ba12 => (q05Frac_any _ q 12 wa12 hR.k (by omega)).mono ?_)
    rintro e w12 ⟨r12, rfl, q12, hb12⟩
    obtain ⟨s12, p12, n12, c12, t12, y12, m12, d12, rfl⟩ := q12.form
    refine ⟨_, rfl, hb12, fun kb12 _ bb12 => wV rfl ?_⟩
    (repeat (first | refine wN ?_ | refine wP rfl ?_ | refine cx_r rfl ?_ | refine cx_d (by kernel_rfl) rfl ?_ | refine wO rfl rfl ?_))
    refine VO.call rfl rfl (fk Tryz.func64) (fun wa13 ka13 ba13 => (is05_any (frac q) _ _ 12 12 wa13 q11.kr hfr (q12.ki hfr) (by omega) (by omega)).mono ?_)
    rintro e w13 ⟨rfl, hb13⟩
    skip
    refine ⟨_, rfl, hb13, fun kb13 _ bb13 => wV rfl ?_⟩
    (repeat (first | refine wN ?_ | refine wP rfl ?_ | refine cx_r rfl ?_ | refine cx_d (by kernel_rfl) rfl ?_ | refine wO rfl rfl ?_))
    refine VO.call rfl rfl (fk Tryz.func40) (fun wa14 ka14 ba14 => (rdFromCents_any _ (numOf s xs) 12 wa14 ((hnx.in' hf12.1).k) (by omega)).mono ?_)
    rintro e w14 ⟨r14, rfl, q14, hb14⟩
    obtain ⟨s14, p14, n14, c14, t14, y14, m14, d14, rfl⟩ := q14.form
    refine ⟨_, rfl, hb14, fun kb14 _ bb14 => wV rfl ?_⟩
    (repeat (first | refine wN ?_ | refine wP rfl ?_ | refine cx_r rfl ?_ | refine cx_d (by kernel_rfl) rfl ?_ | refine wO rfl rfl ?_))
    refine VO.call rfl rfl (fk Tryz.func67) (fun wa15 ka15 ba15 => (q05FromCents_any _ (numOf s xs) 12 wa15 ((hnr.in' hf12.1).k) (by omega)).mono ?_)
    rintro e w15 ⟨r15, rfl, q15, hb15⟩
    obtain ⟨s15, p15, n15, c15, t15, y15, m15, d15, rfl⟩ := q15.form
    refine ⟨_, rfl, hb15, fun kb15 _ bb15 => wV rfl ?_⟩
    (repeat (first | refine wN ?_ | refine wP rfl ?_ | refine cx_r rfl ?_ | refine cx_d (by kernel_rfl) rfl ?_ | refine wO rfl rfl ?_))
    refine VO.call rfl rfl (fk Tryz.func64) (fun wa16 ka16 ba16 => (is05_any (Rat.divInt (numOf s xs) 100) _ _ 12 12 wa16 q14.kr (divInt_szX hX 100 (by decide) (by decide)) (q15.ki (divInt_szX hX 100 (by decide) (by decide))) (by omega) (by omega)).mono ?_)
    rintro e w16 ⟨rfl, hb16⟩
    skip
    refine ⟨_, rfl, hb16, fun kb16 _ bb16 => wV rfl ?_⟩
    (repeat (first | refine wN ?_ | refine wP rfl ?_ | refine cx_r rfl ?_ | refine cx_d (by kernel_rfl) rfl ?_ | refine wO rfl rfl ?_))
    refine VO.call rfl rfl (fk Tryz.func68) (fun wa17 ka17 ba17 => (rdWhole_any _ (numOf s xs) 12 wa17 ((hnx.in' hf12.1).k) (by omega)).mono ?_)
    rintro e w17 ⟨r17, rfl, q17, hb17⟩
    obtain ⟨s17, p17, n17, c17, t17, y17, m17, d17, rfl⟩ := q17.form
    refine ⟨_, rfl, hb17, fun kb17 _ bb17 => wV rfl ?_⟩
    (repeat (first | refine wN ?_ | refine wP rfl ?_ | refine cx_r rfl ?_ | refine cx_d (by kernel_rfl) rfl ?_ | refine wO rfl rfl ?_))
    refine VO.call rfl rfl (fk Tryz.func69) (fun wa18 ka18 ba18 => (q05Whole_any _ (numOf s xs) 12 wa18 ((hnr.in' hf12.1).k) (by omega)).mono ?_)
    rintro e w18 ⟨r18, rfl, q18, hb18⟩
    obtain ⟨s18, p18, n18, c18, t18, y18, m18, d18, rfl⟩ := q18.form
    refine ⟨_, rfl, hb18, fun kb18 _ bb18 => wV rfl ?_⟩
    (repeat (first | refine wN ?_ | refine wP rfl ?_ | refine cx_r rfl ?_ | refine cx_d (by kernel_rfl) rfl ?_ | refine wO rfl rfl ?_))
    refine VO.call rfl rfl (fk Tryz.func64) (fun wa19 ka19 ba19 => (is05_any (numOf s xs : Rat) _ _ 12 12 wa19 q17.kr (RSz.whole hX) (q18.ki (RSz.whole hX)) (by omega) (by omega)).mono ?_)
    rintro e w19 ⟨rfl, hb19⟩
    skip
    refine ⟨_, rfl, hb19, fun kb19 _ bb19 => wV rfl ?_⟩
    (repeat (first | refine wN ?_ | refine wP rfl ?_ | refine cx_r rfl ?_ | refine cx_d (by kernel_rfl) rfl ?_ | refine wO rfl rfl ?_))
    refine VO.callF rfl (fk Tryz.func52) (fun wa20 β ka20 ba20 ho => (rdIsWhole_any _ [(rtB s xs t ys, rq s xs t ys)] 12 wa20 (ownV_sl (rawE_ok 12) (ho.own 99 (.base (List.mem_singleton.2 rfl)) _ _ rfl) [] (vs := [[.bool s, .slice px xs.length cx, .bool t, .slice rx ys.length dx]]) rfl (.cons (RawE.mk (hv0.kp (by (with_reducible (repeat (first | assumption | exact kU _ | exact kR _ | exact Kp.of (U := UU) (by assumption) | exact KpS.of (by assumption) | refine kT ?_ (by assumption)))))) hf12.1 hf12.2) .nil) rfl (Nat.le_refl _) (show (1 : Nat) ≤ 9223372036854775807 by omega)) (by omega)).mono ?_)
    rintro e w20 ⟨rfl, hb20⟩
    refine ⟨_, rfl, hb20, fun kb20 _ bb20 => wV rfl ?_⟩
    (repeat (first | refine wN ?_ | refine wP rfl ?_ | refine cx_r rfl ?_ | refine cx_d (by kernel_rfl) rfl ?_ | refine wO rfl rfl ?_))
    refine VO.callF rfl (fk Tryz.func53) (fun wa21 β ka21 ba21 ho => (q05IsWhole_any _ [(rtB s xs t ys, rq s xs t ys)] 12 wa21 (ownV_sl (rawE_ok 12) (ho.own 102 (.base (List.mem_singleton.2 rfl)) _ _ rfl) [] (vs := [[.bool s, .slice pr xs.length cr, .bool t, .slice rr ys.length dr]]) rfl (.cons (RawE.mk (hR0.kp (by (with_reducible (repeat (first | assumption | exact kU _ | exact kR _ | exact Kp.of (U := UU) (by assumption) | exact KpS.of (by assumption) | refine kT ?_ (by assumption)))))) hf12.1 hf12.2) .nil) rfl (Nat.le_refl _) (show (1 : Nat) ≤ 9223372036854775807 by omega)) (by omega)).mono ?_)
    rintro e w21 ⟨rfl, hb21⟩
    refine ⟨_, rfl, hb21, fun kb21 _ bb21 => wV rfl ?_⟩
    (repeat (first | refine wN ?_ | refine wP rfl ?_ | refine cx_r rfl ?_ | refine cx_d (by kernel_rfl) rfl ?_ | refine wO rfl rfl ?_))
    refine VO.fix 106 rfl (congrArg (fun b => AV.val (.bool b)) (show ([(rtB s xs t ys, rq s xs t ys)].all wholeB == [(rtB s xs t ys, rq s xs t ys)].all wholeB) = true by simp)) ?_
    (repeat (first | refine wN ?_ | refine wP rfl ?_ | refine cx_r rfl ?_ | refine cx_d (by kernel_rfl) rfl ?_ | refine wO rfl rfl ?_))
    refine VO.call rfl rfl (fk Tryz.func47) (fun wa22 ka22 ba22 => (works05_any wa22).mono ?_)
    rintro e w22 ⟨rfl, hb22⟩
    skip
    refine ⟨_, rfl, hb22, fun kb22 _ bb22 => wV rfl ?_⟩
    (repeat (first | refine wN ?_ | refine wP rfl ?_ | refine cx_r rfl ?_ | refine cx_d (by kernel_rfl) rfl ?_ | refine wO rfl rfl ?_))
    refine VS.ret (cx_ok _ _) rfl rfl (fun wz kz bz => ?_)
    exact ⟨rfl, bz⟩
end Go.Proofs.YtkafabgcdlfhiaaGreat
