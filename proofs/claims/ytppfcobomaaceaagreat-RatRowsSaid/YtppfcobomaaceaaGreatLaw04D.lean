/- RatTwo: what two fractions come to. -/
import Derived.Test.YtppfcobomaaceaaGreatLaw04C
namespace Go.Proofs.YtppfcobomaaceaaGreat
open Go.RowKit
attribute [local irreducible] vcOps VS

theorem ratSign_ok (v : Value) (q : Rat) (k : Nat) (w : World) (hv : RatIn w v q k) (hk : k ≤ 536870912) (c : Int) (hc : rcmp q 0 = c) :
    Calls Tryz.prog 21 #[v] w fun e w' => e = .returned (.int .i64 c) ∧ Beh w w' := hc ▸ ratSign_any v q k w hv hk
theorem ratSame_ok (v u : Value) (q r : Rat) (k l : Nat) (w : World) (hv : RatIn w v q k) (hu : RatIn w u r l) (hk : k ≤ 67108864) (hl : l ≤ 67108864) (b : Bool) (hb : decide (q = r) = b) :
    Calls Tryz.prog 27 #[v, u] w fun e w' => e = .returned (.bool b) ∧ Beh w w' := hb ▸ ratSame_any v u q r k l w hv hu hk hl
/-- blocks of limbs stay blocks of limbs, of their size -/
def Hk (w w' : World) : Prop := ∀ (g : Nat) (cur : Array Value), w.heap[g]? = some (Obj.cells cur UU (0, 0)) → ∃ cur', w'.heap[g]? = some (Obj.cells cur' UU (0, 0)) ∧ cur'.size = cur.size
theorem kpSize {w w' : World} (h : Kp UU w w') : w.heap.size ≤ w'.heap.size := h.size
theorem Hk.thn {a b c : World} (h : Hk a b) (k : Hk b c) : Hk a c := fun g cur hg => by
  obtain ⟨c1, h1, e1⟩ := h g cur hg
  obtain ⟨c2, h2, e2⟩ := k g c1 h1
  exact ⟨c2, h2, e2.trans e1⟩
theorem Hk.spo {B : Nat} {w w' : World} (h : Spo B w w') : Hk w w' := h.shp
theorem Hk.kp {w w' : World} (h : Kp UU w w') : Hk w w' := fun g cur hg => ⟨cur, h.block UU g cur rfl trivial hg, rfl⟩
theorem HuskRow.hk {B : Nat} {w w' : World} {p : Option Addr} {n : Nat} (h : HuskRow w B p n) (k : Hk w w') : HuskRow w' B p n := by
  rcases h with h | ⟨g, cur, hp, hb, hg, hn⟩
  · exact .inl h
  · obtain ⟨c1, h1, e1⟩ := k g cur hg
    exact .inr ⟨g, c1, hp, hb, h1, by omega⟩
theorem Husk.hk {B : Nat} {w w' : World} {v : Value} (h : Husk w B v) (k : Hk w w') : Husk w' B v := by
  obtain ⟨s, p, n, c, t, r, m, d, hv, h1, h2, h3, h4⟩ := h
  exact ⟨s, p, n, c, t, r, m, d, hv, h1.hk k, h2, h3.hk k, h4⟩
/-- what is older than what is written over is kept -/
theorem KpS.spo {w w1 w2 : World} (h : Kp UU w w1) (k : Spo w.heap.size w1 w2) : Kp UU w w2 :=
  ⟨Nat.le_trans h.size k.size, fun a x s hc => by
    have hb := World.block_lt_of_cell? w a hc
    rw [World.cell?_of_block (w := w1) (k.blk a.block (Nat.lt_of_lt_of_le hb h.size) (.inl hb))]
    exact h.cell a x s hc, fun t g cur f s hg => by
    have hb := (Array.getElem?_eq_some_iff.1 hg).1
    rw [k.blk g (Nat.lt_of_lt_of_le hb h.size) (.inl hb)]
    exact h.block t g cur f s hg⟩
theorem VS.regionS2 {C : Cx} {Q : Exit → Act → World → Prop} {k : List It} {F : Fr} {H : Hp} {w : World} (hC : C.Ok) (hU : C.K.U = UU) {id : Nat} {ops : Array Oper} {o1 o2 : Oper} (hops : ops.toList = [o1, o2]) (h : vcOps C none ops [o1] (SpoK C Q k ops o2) F H w) : VS C Q (.code (.region id ops false) :: k) F H w :=
  VS.regionS hC hU [o1] o2 hops h
theorem is04_raw (s t : Bool) (xs ys : List Nat) (v u : Value) (w : World) (hv : RatRaw w v s xs t ys) (hu : RatRaw w u s xs t ys) :
    Calls Tryz.prog 16 #[v, u] w fun e w' => e = .returned (.bool true) ∧ Beh w w' := by
  obtain ⟨p, c, r, d, rfl, v1, v2⟩ := hv
  obtain ⟨p', c', r', d', rfl, u1, u2⟩ := hu
  refine calm_enter (C := cxOf Tryz.prog w _) (args := [_, _]) Tryz.func16 rfl Tryz.ntmps16 (Nat.le_of_ble_eq_true rfl) ?_
  (repeat (first | refine wN ?_ | refine wQ ?_ | refine cx_r rfl ?_ | refine cx_d (by kernel_rfl) rfl ?_ | refine wO rfl rfl ?_ | refine wT rfl ?_ | refine wF rfl ?_ | refine wB ?_ | refine wK ?_ | refine wE rfl ?_ | refine wS ?_))
  refine VO.call rfl rfl ⟨_, Tryz.func55, by kernel_rfl, by kernel_rfl⟩ (fun wa1 ka1 ba1 => (whole04_any _ _ _ _ wa1 (v1.beh ba1) (u1.beh ba1)).mono ?_)
  rintro e w1 ⟨rfl, hb1⟩
  skip
  refine ⟨_, rfl, hb1, fun kb1 _ bb1 => wV rfl ?_⟩
  (repeat (first | refine wN ?_ | refine wQ ?_ | refine cx_r rfl ?_ | refine cx_d (by kernel_rfl) rfl ?_ | refine wO rfl rfl ?_ | refine wT rfl ?_ | refine wF rfl ?_ | refine wB ?_ | refine wK ?_ | refine wE rfl ?_ | refine wS ?_))
  refine VO.call rfl rfl ⟨_, Tryz.func55, by kernel_rfl, by kernel_rfl⟩ (fun wa2 ka2 ba2 => (whole04_any _ _ _ _ wa2 (v2.beh ba2) (u2.beh ba2)).mono ?_)
  rintro e w2 ⟨rfl, hb2⟩
  skip
  refine ⟨_, rfl, hb2, fun kb2 _ bb2 => wV rfl ?_⟩
  (repeat (first | refine wN ?_ | refine wQ ?_ | refine cx_r rfl ?_ | refine cx_d (by kernel_rfl) rfl ?_ | refine wO rfl rfl ?_ | refine wT rfl ?_ | refine wF rfl ?_ | refine wB ?_ | refine wK ?_ | refine wE rfl ?_ | refine wS ?_))
  refine VS.ret (cx_ok _ _) rfl rfl (fun wz kz bz => ?_)
  exact ⟨rfl, bz⟩
theorem RatRaw.in {w : World} {v : Value} {s t : Bool} {xs ys : List Nat} {k : Nat} (h : RatRaw w v s xs t ys) (hx : xs.length ≤ k) (hy : ys.length ≤ k) : RatIn w v (rq s xs t ys) k := ⟨s, xs, t, ys, h, rfl, hx, hy⟩
theorem RatRaw.form' {w : World} {v : Value} {s t : Bool} {xs ys : List Nat} (h : RatRaw w v s xs t ys) : ∃ p c r d, v = .agg #[.bool s, .slice p xs.length c, .bool t, .slice r ys.length d] ∧ True := by
  obtain ⟨p, c, r, d, rfl, _⟩ := h
  exact ⟨_, _, _, _, rfl, trivial⟩
theorem q04Div_ok (v u : Value) (q r : Rat) (k l : Nat) (w : World) (hv : RatIn w v q k) (hu : RatIn w u r l) (hk : k ≤ 33554432) (hl : l ≤ 33554432) (c : Int) (hc : rcode r = c) :
    Calls Tryz.prog 10 #[v, u] w fun e w' => ∃ x, e = .returned (.tuple #[x, .int .i64 c]) ∧ RatOwn w' w.heap.size x (q / r) ∧ Beh w w' := hc ▸ q04Div_any v u q r k l w hv hu hk hl
theorem rcode_cases (q : Rat) : rcode q = 0 ∨ rcode q = 20 := by
  unfold rcode
  split
  · exact .inr rfl
  · exact .inl rfl

set_option maxRecDepth 4000 in
set_option maxHeartbeats 4000000 in
theorem ratTwo_any (s t s' t' : Bool) (xs ys xs' ys' : List Nat) (v u : Value) (w : World) (hv : RatRaw w v s xs t ys) (hu : RatRaw w u s' xs' t' ys') :
    Calls Tryz.prog 3 #[v, u] w fun e w' => e = .returned (.bool true) ∧ Beh w w' := by
  have hAr := hv
  have hBr := hu
  obtain ⟨ap, ac, ar, ad, rfl, _, _⟩ := hv
  obtain ⟨bp, bc, br, bd, rfl, _, _⟩ := hu
  refine calm_enter (C := cxOf Tryz.prog w _) (args := [_, _]) Tryz.func3 rfl Tryz.ntmps3 (Nat.le_of_ble_eq_true rfl) ?_
  (repeat (first | refine wN ?_ | refine wQ ?_ | refine cx_r rfl ?_ | refine cx_d (by kernel_rfl) rfl ?_ | refine wO rfl rfl ?_ | refine wT rfl ?_ | refine wF rfl ?_ | refine wB ?_ | refine wK ?_ | refine wE rfl ?_ | refine wS ?_))
  refine VO.call rfl rfl ⟨_, Tryz.func7, by kernel_rfl, by kernel_rfl⟩ (fun wa1 ka1 ba1 => (few04_any s t xs ys _ 4 wa1 (hAr.kp ka1)).mono ?_)
  rintro e w1 ⟨rfl, hb1⟩
  by_cases hfa : xs.length ≤ 4 ∧ ys.length ≤ 4
  · rw [decide_eq_true hfa]
    refine ⟨_, rfl, hb1, fun kb1 _ bb1 => wV rfl ?_⟩
    (repeat (first | refine wN ?_ | refine wQ ?_ | refine cx_r rfl ?_ | refine cx_d (by kernel_rfl) rfl ?_ | refine wO rfl rfl ?_ | refine wT rfl ?_ | refine wF rfl ?_ | refine wB ?_ | refine wK ?_ | refine wE rfl ?_ | refine wS ?_))
    refine VO.call rfl rfl ⟨_, Tryz.func7, by kernel_rfl, by kernel_rfl⟩ (fun wa2 ka2 ba2 => (few04_any s' t' xs' ys' _ 4 wa2 (hBr.kp (by (with_reducible (repeat (first | assumption | exact kR _ | refine kT ?_ (by assumption))))))).mono ?_)
    rintro e w2 ⟨rfl, hb2⟩
    by_cases hfb : xs'.length ≤ 4 ∧ ys'.length ≤ 4
    · rw [decide_eq_true hfb]
      refine ⟨_, rfl, hb2, fun kb2 _ bb2 => wV rfl ?_⟩
      (repeat (first | refine wN ?_ | refine wQ ?_ | refine cx_r rfl ?_ | refine cx_d (by kernel_rfl) rfl ?_ | refine wO rfl rfl ?_ | refine wT rfl ?_ | refine wF rfl ?_ | refine wB ?_ | refine wK ?_ | refine wE rfl ?_ | refine wS ?_))
      have hA := hAr.in hfa.1 hfa.2
      have hB := hBr.in hfb.1 hfb.2
      obtain ⟨qa, hqa⟩ : ∃ q, q = rq s xs t ys := ⟨_, rfl⟩
      obtain ⟨qb, hqb⟩ : ∃ q, q = rq s' xs' t' ys' := ⟨_, rfl⟩
      rw [← hqa] at hA
      rw [← hqb] at hB
      have hA4 : RSz qa 4 := hA.sz (by omega)
      have hB4 : RSz qb 4 := hB.sz (by omega)
      refine VO.call rfl rfl ⟨_, Tryz.func9, by kernel_rfl, by kernel_rfl⟩ (fun wa3 ka3 ba3 => (ref04_any s t xs ys _ wa3 (hAr.kp (by (with_reducible (repeat (first | assumption | exact kR _ | refine kT ?_ (by assumption)))))) (by omega) (by omega)).mono ?_)
      rintro e w3 ⟨r3, rfl, q3, hb3⟩
      obtain ⟨p3, c3, y3, d3, rfl, q3a⟩ := q3.form'
      refine ⟨_, rfl, hb3, fun kb3 _ bb3 => wV rfl ?_⟩
      (repeat (first | refine wN ?_ | refine wQ ?_ | refine cx_r rfl ?_ | refine cx_d (by kernel_rfl) rfl ?_ | refine wO rfl rfl ?_ | refine wT rfl ?_ | refine wF rfl ?_ | refine wB ?_ | refine wK ?_ | refine wE rfl ?_ | refine wS ?_))
      refine VO.call rfl rfl ⟨_, Tryz.func9, by kernel_rfl, by kernel_rfl⟩ (fun wa4 ka4 ba4 => (ref04_any s' t' xs' ys' _ wa4 (hBr.kp (by (with_reducible (repeat (first | assumption | exact kR _ | refine kT ?_ (by assumption)))))) (by omega) (by omega)).mono ?_)
      rintro e w4 ⟨r4, rfl, q4, hb4⟩
      obtain ⟨p4, c4, y4, d4, rfl, q4a⟩ := q4.form'
      refine ⟨_, rfl, hb4, fun kb4 _ bb4 => wV rfl ?_⟩
      (repeat (first | refine wN ?_ | refine wQ ?_ | refine cx_r rfl ?_ | refine cx_d (by kernel_rfl) rfl ?_ | refine wO rfl rfl ?_ | refine wT rfl ?_ | refine wF rfl ?_ | refine wB ?_ | refine wK ?_ | refine wE rfl ?_ | refine wS ?_))
      obtain ⟨cd, hcd⟩ : ∃ c, rcode qb = c := ⟨_, rfl⟩
      have hcc : cd = 0 ∨ cd = 20 := hcd ▸ rcode_cases qb
      have hz0 : cd = 20 → rcmp (qa / qb) 0 = 0 := fun e => by
        have : qb = 0 := by
          unfold rcode at hcd
          split at hcd
          · assumption
          · omega
        rw [this, Rat.div_def, Rat.inv_zero, Rat.mul_zero]; decide +kernel
      refine VO.call rfl rfl ⟨_, Tryz.func10, by kernel_rfl, by kernel_rfl⟩ (fun wa5 ka5 ba5 => (q04Div_ok _ _ qa qb 4 4 wa5 (hqa ▸ (q3.kp (by (with_reducible (repeat (first | assumption | exact kR _ | refine kT ?_ (by assumption)))))).in hfa.1 hfa.2) (hqb ▸ (q4.kp (by (with_reducible (repeat (first | assumption | exact kR _ | refine kT ?_ (by assumption)))))).in hfb.1 hfb.2) (by omega) (by omega) cd hcd).mono ?_)
      rintro e w5 ⟨r5, rfl, q5, hb5⟩
      obtain ⟨s5, p5, n5, c5, t5, y5, m5, d5, rfl⟩ := q5.form
      refine ⟨_, rfl, hb5, fun kb5 _ bb5 => wV rfl ?_⟩
      (repeat (first | refine wN ?_ | refine wQ ?_ | refine cx_r rfl ?_ | refine cx_d (by kernel_rfl) rfl ?_ | refine wO rfl rfl ?_ | refine wT rfl ?_ | refine wF rfl ?_ | refine wB ?_ | refine wK ?_ | refine wE rfl ?_ | refine wS ?_))
      refine VS.loop (J := fun n L M w' => ∃ z : Nat, z ≤ 2 ∧ n = 2 - z ∧ L = [(2, .box 2 0), (3, .box 3 0), (5, .box 5 0), (6, .box 6 0), (7, .box 7 0), (8, .val (.int .i64 cd)), (9, .val (.int .i64 (z : Int)))] ∧
        M = [(2, (26, ([.bool s, .slice ap xs.length ac, .bool t, .slice ar ys.length ad] : List Value).map .val)), (3, (26, ([.bool s', .slice bp xs'.length bc, .bool t', .slice br ys'.length bd] : List Value).map .val)),
          (5, (31, ([.bool s, .slice p3 xs.length c3, .bool t, .slice y3 ys.length d3] : List Value).map .val)), (6, (31, ([.bool s', .slice p4 xs'.length c4, .bool t', .slice y4 ys'.length d4] : List Value).map .val)),
          (7, (31, ([.bool s5, .slice p5 n5 c5, .bool t5, .slice y5 m5 d5] : List Value).map .val))] ∧
        RatRaw w' (.agg #[.bool s, .slice p3 xs.length c3, .bool t, .slice y3 ys.length d3]) s xs t ys ∧ RatRaw w' (.agg #[.bool s', .slice p4 xs'.length c4, .bool t', .slice y4 ys'.length d4]) s' xs' t' ys' ∧ RatRd w' (.agg #[.bool s5, .slice p5 n5 c5, .bool t5, .slice y5 m5 d5]) (qa / qb)) 2
        ⟨_, _, ?_, ?_, ?_, ?_, ⟨0, by omega, rfl, rfl, rfl, q3.kp (by (with_reducible (repeat (first | assumption | exact kR _ | refine kT ?_ (by assumption))))), q4.kp (by (with_reducible (repeat (first | assumption | exact kR _ | refine kT ?_ (by assumption))))), q5.rd⟩⟩ ?_
      · (repeat (first | exact trivial | refine ⟨rfl, ?_⟩))
      · (repeat (first | exact trivial | refine ⟨rfl, ?_⟩))
      · rfl
      · (repeat (first | exact trivial | refine ⟨ClosedC.lit rfl, ?_⟩ | refine ⟨ClosedC.vals _, ?_⟩))
      rintro n L M wJ ⟨z, hz2, rfl, rfl, rfl, hXJ, hYJ, hWJ⟩
      refine VS.now (fun w' kJ hb0 => ?_)
      have hXr := hXJ.kp kJ
      have hYr := hYJ.kp kJ
      have hWant := hWJ.kp kJ
      clear hXJ hYJ hWJ kJ ka1 ba1 hb1 kb1 bb1 ka2 ba2 hb2 kb2 bb2 ka3 ba3 hb3 kb3 bb3 ka4 ba4 hb4 kb4 bb4 ka5 ba5 hb5 kb5 bb5 q3 q4 q5 q3a q4a
      have hX := hXr.in hfa.1 hfa.2
      have hY := hYr.in hfb.1 hfb.2
      rw [← hqa] at hX
      rw [← hqb] at hY
      (repeat (first | refine wN ?_ | refine wQ ?_ | refine cx_r rfl ?_ | refine cx_d (by kernel_rfl) rfl ?_ | refine wO rfl rfl ?_ | refine wT rfl ?_ | refine wF rfl ?_ | refine wB ?_ | refine wK ?_ | refine wE rfl ?_ | refine wS ?_))
      by_cases hlt : z < 2
      · refine VS.condY rfl (decide_eq_true (Int.ofNat_lt.2 hlt)) ?_
        (repeat (first | refine wN ?_ | refine wQ ?_ | refine cx_r rfl ?_ | refine cx_d (by kernel_rfl) rfl ?_ | refine wO rfl rfl ?_ | refine wT rfl ?_ | refine wF rfl ?_ | refine wB ?_ | refine wK ?_ | refine wE rfl ?_ | refine wS ?_))
        --ROUND
        refine VO.call rfl rfl ⟨_, Tryz.func11, by kernel_rfl, by kernel_rfl⟩ (fun wa11 ka11 ba11 => (ratAdd_any _ _ (qa) (qb) (4) (4) wa11 (hA.kp (Kp.of (U := UU) ba11)) (hB.kp (Kp.of (U := UU) ba11)) (by omega) (by omega)).mono ?_)
        rintro e w11 ⟨r11, rfl, q11, hb11⟩
        obtain ⟨s11, p11, n11, c11, t11, y11, m11, d11, rfl⟩ := q11.form
        refine ⟨_, rfl, hb11, fun kb11 _ bb11 => wV rfl ?_⟩
        (repeat (first | refine wN ?_ | refine wQ ?_ | refine cx_r rfl ?_ | refine cx_d (by kernel_rfl) rfl ?_ | refine wO rfl rfl ?_ | refine wT rfl ?_ | refine wF rfl ?_ | refine wB ?_ | refine wK ?_ | refine wE rfl ?_ | refine wS ?_))
        refine VO.call rfl rfl ⟨_, Tryz.func12, by kernel_rfl, by kernel_rfl⟩ (fun wa12 ka12 ba12 => (ratSub_any _ _ (qa) (qb) (4) (4) wa12 (hA.kp (Kp.of (U := UU) ba12)) (hB.kp (Kp.of (U := UU) ba12)) (by omega) (by omega)).mono ?_)
        rintro e w12 ⟨r12, rfl, q12, hb12⟩
        obtain ⟨s12, p12, n12, c12, t12, y12, m12, d12, rfl⟩ := q12.form
        refine ⟨_, rfl, hb12, fun kb12 _ bb12 => wV rfl ?_⟩
        (repeat (first | refine wN ?_ | refine wQ ?_ | refine cx_r rfl ?_ | refine cx_d (by kernel_rfl) rfl ?_ | refine wO rfl rfl ?_ | refine wT rfl ?_ | refine wF rfl ?_ | refine wB ?_ | refine wK ?_ | refine wE rfl ?_ | refine wS ?_))
        refine VO.call rfl rfl ⟨_, Tryz.func13, by kernel_rfl, by kernel_rfl⟩ (fun wa13 ka13 ba13 => (ratMul_any _ _ (qa) (qb) (4) (4) wa13 (hA.kp (Kp.of (U := UU) ba13)) (hB.kp (Kp.of (U := UU) ba13)) (by omega) (by omega)).mono ?_)
        rintro e w13 ⟨r13, rfl, q13, hb13⟩
        obtain ⟨s13, p13, n13, c13, t13, y13, m13, d13, rfl⟩ := q13.form
        refine ⟨_, rfl, hb13, fun kb13 _ bb13 => wV rfl ?_⟩
        (repeat (first | refine wN ?_ | refine wQ ?_ | refine cx_r rfl ?_ | refine cx_d (by kernel_rfl) rfl ?_ | refine wO rfl rfl ?_ | refine wT rfl ?_ | refine wF rfl ?_ | refine wB ?_ | refine wK ?_ | refine wE rfl ?_ | refine wS ?_))
        refine VO.call rfl rfl ⟨_, Tryz.func14, by kernel_rfl, by kernel_rfl⟩ (fun wa14 ka14 ba14 => (ratDiv_ok _ _ (qa) (qb) (4) (4) wa14 (hA.kp (Kp.of (U := UU) ba14)) (hB.kp (Kp.of (U := UU) ba14)) (by omega) (by omega) cd hcd).mono ?_)
        rintro e w14 ⟨r14, rfl, q14, hb14⟩
        obtain ⟨s14, p14, n14, c14, t14, y14, m14, d14, rfl⟩ := q14.form
        refine ⟨_, rfl, hb14, fun kb14 _ bb14 => wV rfl ?_⟩
        (repeat (first | refine wN ?_ | refine wQ ?_ | refine cx_r rfl ?_ | refine cx_d (by kernel_rfl) rfl ?_ | refine wO rfl rfl ?_ | refine wT rfl ?_ | refine wF rfl ?_ | refine wB ?_ | refine wK ?_ | refine wE rfl ?_ | refine wS ?_))
        refine VO.call rfl rfl ⟨_, Tryz.func15, by kernel_rfl, by kernel_rfl⟩ (fun wa15 ka15 ba15 => (ratNeg_any _ (qa) (4) wa15 (hA.kp (Kp.of (U := UU) ba15)) (by omega)).mono ?_)
        rintro e w15 ⟨r15, rfl, q15, hb15⟩
        obtain ⟨s15, p15, n15, c15, t15, y15, m15, d15, rfl⟩ := q15.form
        refine ⟨_, rfl, hb15, fun kb15 _ bb15 => wV rfl ?_⟩
        (repeat (first | refine wN ?_ | refine wQ ?_ | refine cx_r rfl ?_ | refine cx_d (by kernel_rfl) rfl ?_ | refine wO rfl rfl ?_ | refine wT rfl ?_ | refine wF rfl ?_ | refine wB ?_ | refine wK ?_ | refine wE rfl ?_ | refine wS ?_))
        refine VO.call rfl rfl ⟨_, Tryz.func17, by kernel_rfl, by kernel_rfl⟩ (fun wa16 ka16 ba16 => (q04Add_any _ _ (qa) (qb) (4) (4) wa16 (hX.kp (by (with_reducible (repeat (first | assumption | exact kR _ | refine kT ?_ (by assumption)))))) (hY.kp (by (with_reducible (repeat (first | assumption | exact kR _ | refine kT ?_ (by assumption)))))) (by omega) (by omega)).mono ?_)
        rintro e w16 ⟨r16, rfl, q16, hb16⟩
        obtain ⟨s16, p16, n16, c16, t16, y16, m16, d16, rfl⟩ := q16.form
        refine ⟨_, rfl, hb16, fun kb16 _ bb16 => wV rfl ?_⟩
        (repeat (first | refine wN ?_ | refine wQ ?_ | refine cx_r rfl ?_ | refine cx_d (by kernel_rfl) rfl ?_ | refine wO rfl rfl ?_ | refine wT rfl ?_ | refine wF rfl ?_ | refine wB ?_ | refine wK ?_ | refine wE rfl ?_ | refine wS ?_))
        refine VO.call rfl rfl ⟨_, Tryz.func16, by kernel_rfl, by kernel_rfl⟩ (fun wa17 ka17 ba17 => (is04_any ((qa) + (qb)) _ _ wa17 (q11.kp (by (with_reducible (repeat (first | assumption | exact kR _ | refine kT ?_ (by assumption)))))).rd (RatRd.cast (q16.kp (by (with_reducible (repeat (first | assumption | exact kR _ | refine kT ?_ (by assumption)))))).rd rfl)).mono ?_)
        rintro e w17 ⟨rfl, hb17⟩
        skip
        refine ⟨_, rfl, hb17, fun kb17 _ bb17 => wV rfl ?_⟩
        (repeat (first | refine wN ?_ | refine wQ ?_ | refine cx_r rfl ?_ | refine cx_d (by kernel_rfl) rfl ?_ | refine wO rfl rfl ?_ | refine wT rfl ?_ | refine wF rfl ?_ | refine wB ?_ | refine wK ?_ | refine wE rfl ?_ | refine wS ?_))
        refine VO.call rfl rfl ⟨_, Tryz.func18, by kernel_rfl, by kernel_rfl⟩ (fun wa18 ka18 ba18 => (q04Sub_any _ _ (qa) (qb) (4) (4) wa18 (hX.kp (by (with_reducible (repeat (first | assumption | exact kR _ | refine kT ?_ (by assumption)))))) (hY.kp (by (with_reducible (repeat (first | assumption | exact kR _ | refine kT ?_ (by assumption)))))) (by omega) (by omega)).mono ?_)
        rintro e w18 ⟨r18, rfl, q18, hb18⟩
        obtain ⟨s18, p18, n18, c18, t18, y18, m18, d18, rfl⟩ := q18.form
        refine ⟨_, rfl, hb18, fun kb18 _ bb18 => wV rfl ?_⟩
        (repeat (first | refine wN ?_ | refine wQ ?_ | refine cx_r rfl ?_ | refine cx_d (by kernel_rfl) rfl ?_ | refine wO rfl rfl ?_ | refine wT rfl ?_ | refine wF rfl ?_ | refine wB ?_ | refine wK ?_ | refine wE rfl ?_ | refine wS ?_))
        refine VO.call rfl rfl ⟨_, Tryz.func16, by kernel_rfl, by kernel_rfl⟩ (fun wa19 ka19 ba19 => (is04_any ((qa) - (qb)) _ _ wa19 (q12.kp (by (with_reducible (repeat (first | assumption | exact kR _ | refine kT ?_ (by assumption)))))).rd (RatRd.cast (q18.kp (by (with_reducible (repeat (first | assumption | exact kR _ | refine kT ?_ (by assumption)))))).rd rfl)).mono ?_)
        rintro e w19 ⟨rfl, hb19⟩
        skip
        refine ⟨_, rfl, hb19, fun kb19 _ bb19 => wV rfl ?_⟩
        (repeat (first | refine wN ?_ | refine wQ ?_ | refine cx_r rfl ?_ | refine cx_d (by kernel_rfl) rfl ?_ | refine wO rfl rfl ?_ | refine wT rfl ?_ | refine wF rfl ?_ | refine wB ?_ | refine wK ?_ | refine wE rfl ?_ | refine wS ?_))
        refine VO.call rfl rfl ⟨_, Tryz.func19, by kernel_rfl, by kernel_rfl⟩ (fun wa20 ka20 ba20 => (q04Mul_any _ _ (qa) (qb) (4) (4) wa20 (hX.kp (by (with_reducible (repeat (first | assumption | exact kR _ | refine kT ?_ (by assumption)))))) (hY.kp (by (with_reducible (repeat (first | assumption | exact kR _ | refine kT ?_ (by assumption)))))) (by omega) (by omega)).mono ?_)
        rintro e w20 ⟨r20, rfl, q20, hb20⟩
        obtain ⟨s20, p20, n20, c20, t20, y20, m20, d20, rfl⟩ := q20.form
        refine ⟨_, rfl, hb20, fun kb20 _ bb20 => wV rfl ?_⟩
        (repeat (first | refine wN ?_ | refine wQ ?_ | refine cx_r rfl ?_ | refine cx_d (by kernel_rfl) rfl ?_ | refine wO rfl rfl ?_ | refine wT rfl ?_ | refine wF rfl ?_ | refine wB ?_ | refine wK ?_ | refine wE rfl ?_ | refine wS ?_))
        refine VO.call rfl rfl ⟨_, Tryz.func16, by kernel_rfl, by kernel_rfl⟩ (fun wa21 ka21 ba21 => (is04_any ((qa) * (qb)) _ _ wa21 (q13.kp (by (with_reducible (repeat (first | assumption | exact kR _ | refine kT ?_ (by assumption)))))).rd (RatRd.cast (q20.kp (by (with_reducible (repeat (first | assumption | exact kR _ | refine kT ?_ (by assumption)))))).rd rfl)).mono ?_)
        rintro e w21 ⟨rfl, hb21⟩
        skip
        refine ⟨_, rfl, hb21, fun kb21 _ bb21 => wV rfl ?_⟩
        (repeat (first | refine wN ?_ | refine wQ ?_ | refine cx_r rfl ?_ | refine cx_d (by kernel_rfl) rfl ?_ | refine wO rfl rfl ?_ | refine wT rfl ?_ | refine wF rfl ?_ | refine wB ?_ | refine wK ?_ | refine wE rfl ?_ | refine wS ?_))
        refine VO.call rfl rfl ⟨_, Tryz.func20, by kernel_rfl, by kernel_rfl⟩ (fun wa22 ka22 ba22 => (q04Neg_any _ (qa) (4) wa22 (hX.kp (by (with_reducible (repeat (first | assumption | exact kR _ | refine kT ?_ (by assumption)))))) (by omega)).mono ?_)
        rintro e w22 ⟨r22, rfl, q22, hb22⟩
        obtain ⟨s22, p22, n22, c22, t22, y22, m22, d22, rfl⟩ := q22.form
        refine ⟨_, rfl, hb22, fun kb22 _ bb22 => wV rfl ?_⟩
        (repeat (first | refine wN ?_ | refine wQ ?_ | refine cx_r rfl ?_ | refine cx_d (by kernel_rfl) rfl ?_ | refine wO rfl rfl ?_ | refine wT rfl ?_ | refine wF rfl ?_ | refine wB ?_ | refine wK ?_ | refine wE rfl ?_ | refine wS ?_))
        refine VO.call rfl rfl ⟨_, Tryz.func16, by kernel_rfl, by kernel_rfl⟩ (fun wa23 ka23 ba23 => (is04_any (-(qa)) _ _ wa23 (q15.kp (by (with_reducible (repeat (first | assumption | exact kR _ | refine kT ?_ (by assumption)))))).rd (RatRd.cast (q22.kp (by (with_reducible (repeat (first | assumption | exact kR _ | refine kT ?_ (by assumption)))))) rfl)).mono ?_)
        rintro e w23 ⟨rfl, hb23⟩
        skip
        refine ⟨_, rfl, hb23, fun kb23 _ bb23 => wV rfl ?_⟩
        (repeat (first | refine wN ?_ | refine wQ ?_ | refine cx_r rfl ?_ | refine cx_d (by kernel_rfl) rfl ?_ | refine wO rfl rfl ?_ | refine wT rfl ?_ | refine wF rfl ?_ | refine wB ?_ | refine wK ?_ | refine wE rfl ?_ | refine wS ?_))
        refine VS.condN rfl (by simp) ?_
        (repeat (first | refine wN ?_ | refine wQ ?_ | refine cx_r rfl ?_ | refine cx_d (by kernel_rfl) rfl ?_ | refine wO rfl rfl ?_ | refine wT rfl ?_ | refine wF rfl ?_ | refine wB ?_ | refine wK ?_ | refine wE rfl ?_ | refine wS ?_))
        rcases hcc with rfl | rfl
        · skip
          (repeat (first | refine wN ?_ | refine wQ ?_ | refine cx_r rfl ?_ | refine cx_d (by kernel_rfl) rfl ?_ | refine wO rfl rfl ?_ | refine wT rfl ?_ | refine wF rfl ?_ | refine wB ?_ | refine wK ?_ | refine wE rfl ?_ | refine wS ?_))
          refine VO.call rfl rfl ⟨_, Tryz.func16, by kernel_rfl, by kernel_rfl⟩ (fun wa24 ka24 ba24 => (is04_any (qa / qb) _ _ wa24 (q14.kp (by (with_reducible (repeat (first | assumption | exact kR _ | refine kT ?_ (by assumption)))))).rd (hWant.kp (by (with_reducible (repeat (first | assumption | exact kR _ | refine kT ?_ (by assumption))))))).mono ?_)
          rintro e w24 ⟨rfl, hb24⟩
          skip
          refine ⟨_, rfl, hb24, fun kb24 _ bb24 => wV rfl ?_⟩
          (repeat (first | refine wN ?_ | refine wQ ?_ | refine cx_r rfl ?_ | refine cx_d (by kernel_rfl) rfl ?_ | refine wO rfl rfl ?_ | refine wT rfl ?_ | refine wF rfl ?_ | refine wB ?_ | refine wK ?_ | refine wE rfl ?_ | refine wS ?_))
          refine VO.call rfl rfl ⟨_, Tryz.func22, by kernel_rfl, by kernel_rfl⟩ (fun wa25 ka25 ba25 => (ratRight_any _ _ _ _ _ wa25 (hAr.kp (Kp.of (U := UU) ba25)) (by omega) (by omega)).mono ?_)
          rintro e w25 ⟨rfl, hb25⟩
          skip
          refine ⟨_, rfl, hb25, fun kb25 _ bb25 => wV rfl ?_⟩
          (repeat (first | refine wN ?_ | refine wQ ?_ | refine cx_r rfl ?_ | refine cx_d (by kernel_rfl) rfl ?_ | refine wO rfl rfl ?_ | refine wT rfl ?_ | refine wF rfl ?_ | refine wB ?_ | refine wK ?_ | refine wE rfl ?_ | refine wS ?_))
          refine VO.call rfl rfl ⟨_, Tryz.func23, by kernel_rfl, by kernel_rfl⟩ (fun wa26 ka26 ba26 => (q04Right_any _ _ _ _ _ wa26 (hXr.kp (by (with_reducible (repeat (first | assumption | exact kR _ | refine kT ?_ (by assumption)))))) (by omega) (by omega)).mono ?_)
          rintro e w26 ⟨rfl, hb26⟩
          skip
          refine ⟨_, rfl, hb26, fun kb26 _ bb26 => wV rfl ?_⟩
          (repeat (first | refine wN ?_ | refine wQ ?_ | refine cx_r rfl ?_ | refine cx_d (by kernel_rfl) rfl ?_ | refine wO rfl rfl ?_ | refine wT rfl ?_ | refine wF rfl ?_ | refine wB ?_ | refine wK ?_ | refine wE rfl ?_ | refine wS ?_))
          refine VS.condN rfl (by simp) ?_
          (repeat (first | refine wN ?_ | refine wQ ?_ | refine cx_r rfl ?_ | refine cx_d (by kernel_rfl) rfl ?_ | refine wO rfl rfl ?_ | refine wT rfl ?_ | refine wF rfl ?_ | refine wB ?_ | refine wK ?_ | refine wE rfl ?_ | refine wS ?_))
          refine VO.call rfl rfl ⟨_, Tryz.func24, by kernel_rfl, by kernel_rfl⟩ (fun wa27 ka27 ba27 => (ratCmp_any _ _ (qa) (qb) (4) (4) wa27 (hA.kp (Kp.of (U := UU) ba27)) (hB.kp (Kp.of (U := UU) ba27)) (by omega) (by omega) ).mono ?_)
          rintro e w27 ⟨rfl, hb27⟩
          skip
          refine ⟨_, rfl, hb27, fun kb27 _ bb27 => wV rfl ?_⟩
          (repeat (first | refine wN ?_ | refine wQ ?_ | refine cx_r rfl ?_ | refine cx_d (by kernel_rfl) rfl ?_ | refine wO rfl rfl ?_ | refine wT rfl ?_ | refine wF rfl ?_ | refine wB ?_ | refine wK ?_ | refine wE rfl ?_ | refine wS ?_))
          refine VO.call rfl rfl ⟨_, Tryz.func25, by kernel_rfl, by kernel_rfl⟩ (fun wa28 ka28 ba28 => (q04Cmp_any _ _ (qa) (qb) (4) (4) wa28 (hX.kp (by (with_reducible (repeat (first | assumption | exact kR _ | refine kT ?_ (by assumption)))))) (hY.kp (by (with_reducible (repeat (first | assumption | exact kR _ | refine kT ?_ (by assumption)))))) (by omega) (by omega) ).mono ?_)
          rintro e w28 ⟨rfl, hb28⟩
          skip
          refine ⟨_, rfl, hb28, fun kb28 _ bb28 => wV rfl ?_⟩
          (repeat (first | refine wN ?_ | refine wQ ?_ | refine cx_r rfl ?_ | refine cx_d (by kernel_rfl) rfl ?_ | refine wO rfl rfl ?_ | refine wT rfl ?_ | refine wF rfl ?_ | refine wB ?_ | refine wK ?_ | refine wE rfl ?_ | refine wS ?_))
          refine VO.fix 121 rfl (congrArg (fun b => AV.val (.bool b)) (bne_self_eq_false (rcmp qa qb))) ?_
          (repeat (first | refine wN ?_ | refine wQ ?_ | refine cx_r rfl ?_ | refine cx_d (by kernel_rfl) rfl ?_ | refine wO rfl rfl ?_ | refine wT rfl ?_ | refine wF rfl ?_ | refine wB ?_ | refine wK ?_ | refine wE rfl ?_ | refine wS ?_))
          refine VO.call rfl rfl ⟨_, Tryz.func21, by kernel_rfl, by kernel_rfl⟩ (fun wa29 ka29 ba29 => (ratSign_any _ (qa) (4) wa29 (hA.kp (Kp.of (U := UU) ba29)) (by omega) ).mono ?_)
          rintro e w29 ⟨rfl, hb29⟩
          skip
          refine ⟨_, rfl, hb29, fun kb29 _ bb29 => wV rfl ?_⟩
          (repeat (first | refine wN ?_ | refine wQ ?_ | refine cx_r rfl ?_ | refine cx_d (by kernel_rfl) rfl ?_ | refine wO rfl rfl ?_ | refine wT rfl ?_ | refine wF rfl ?_ | refine wB ?_ | refine wK ?_ | refine wE rfl ?_ | refine wS ?_))
          refine VO.call rfl rfl ⟨_, Tryz.func26, by kernel_rfl, by kernel_rfl⟩ (fun wa30 ka30 ba30 => (q04Sign_any _ (qa) (4) wa30 (hX.kp (by (with_reducible (repeat (first | assumption | exact kR _ | refine kT ?_ (by assumption)))))) (by omega) ).mono ?_)
          rintro e w30 ⟨rfl, hb30⟩
          skip
          refine ⟨_, rfl, hb30, fun kb30 _ bb30 => wV rfl ?_⟩
          (repeat (first | refine wN ?_ | refine wQ ?_ | refine cx_r rfl ?_ | refine cx_d (by kernel_rfl) rfl ?_ | refine wO rfl rfl ?_ | refine wT rfl ?_ | refine wF rfl ?_ | refine wB ?_ | refine wK ?_ | refine wE rfl ?_ | refine wS ?_))
          refine VO.fix 128 rfl (congrArg (fun b => AV.val (.bool b)) (bne_self_eq_false (rcmp qa 0))) ?_
          (repeat (first | refine wN ?_ | refine wQ ?_ | refine cx_r rfl ?_ | refine cx_d (by kernel_rfl) rfl ?_ | refine wO rfl rfl ?_ | refine wT rfl ?_ | refine wF rfl ?_ | refine wB ?_ | refine wK ?_ | refine wE rfl ?_ | refine wS ?_))
          refine VO.call rfl rfl ⟨_, Tryz.func27, by kernel_rfl, by kernel_rfl⟩ (fun wa31 ka31 ba31 => (ratSame_any _ _ (qa) (qb) (4) (4) wa31 (hA.kp (Kp.of (U := UU) ba31)) (hB.kp (Kp.of (U := UU) ba31)) (by omega) (by omega) ).mono ?_)
          rintro e w31 ⟨rfl, hb31⟩
          skip
          refine ⟨_, rfl, hb31, fun kb31 _ bb31 => wV rfl ?_⟩
          (repeat (first | refine wN ?_ | refine wQ ?_ | refine cx_r rfl ?_ | refine cx_d (by kernel_rfl) rfl ?_ | refine wO rfl rfl ?_ | refine wT rfl ?_ | refine wF rfl ?_ | refine wB ?_ | refine wK ?_ | refine wE rfl ?_ | refine wS ?_))
          refine VO.call rfl rfl ⟨_, Tryz.func28, by kernel_rfl, by kernel_rfl⟩ (fun wa32 ka32 ba32 => (q04Same_any _ _ (qa) (qb) (4) (4) wa32 (hX.kp (by (with_reducible (repeat (first | assumption | exact kR _ | refine kT ?_ (by assumption)))))) (hY.kp (by (with_reducible (repeat (first | assumption | exact kR _ | refine kT ?_ (by assumption)))))) (by omega) (by omega) ).mono ?_)
          rintro e w32 ⟨rfl, hb32⟩
          skip
          refine ⟨_, rfl, hb32, fun kb32 _ bb32 => wV rfl ?_⟩
          (repeat (first | refine wN ?_ | refine wQ ?_ | refine cx_r rfl ?_ | refine cx_d (by kernel_rfl) rfl ?_ | refine wO rfl rfl ?_ | refine wT rfl ?_ | refine wF rfl ?_ | refine wB ?_ | refine wK ?_ | refine wE rfl ?_ | refine wS ?_))
          refine VO.fix 137 rfl (congrArg (fun b => AV.val (.bool b)) (bne_self_eq_false (decide (qa = qb)))) ?_
          (repeat (first | refine wN ?_ | refine wQ ?_ | refine cx_r rfl ?_ | refine cx_d (by kernel_rfl) rfl ?_ | refine wO rfl rfl ?_ | refine wT rfl ?_ | refine wF rfl ?_ | refine wB ?_ | refine wK ?_ | refine wE rfl ?_ | refine wS ?_))
          refine VO.call rfl rfl ⟨_, Tryz.func27, by kernel_rfl, by kernel_rfl⟩ (fun wa33 ka33 ba33 => (ratSame_ok _ _ (qa) (qa) (4) (4) wa33 (hA.kp (Kp.of (U := UU) ba33)) (hA.kp (Kp.of (U := UU) ba33)) (by omega) (by omega) true (decide_eq_true rfl)).mono ?_)
          rintro e w33 ⟨rfl, hb33⟩
          skip
          refine ⟨_, rfl, hb33, fun kb33 _ bb33 => wV rfl ?_⟩
          (repeat (first | refine wN ?_ | refine wQ ?_ | refine wO rfl rfl ?_ | refine wT rfl ?_ | refine wF rfl ?_ | refine wB ?_ | refine wK ?_ | refine wE rfl ?_ | refine wS ?_))
          have H11 := (q11.mono (B' := w'.heap.size) (kpSize (w := w') (w' := wa11) (by (with_reducible (repeat (first | assumption | exact kR _ | refine kT ?_ (by assumption))))))).husk.hk (Hk.kp (w' := w33) (by (with_reducible (repeat (first | assumption | exact kR _ | refine kT ?_ (by assumption))))))
          have H12 := (q12.mono (B' := w'.heap.size) (kpSize (w := w') (w' := wa12) (by (with_reducible (repeat (first | assumption | exact kR _ | refine kT ?_ (by assumption))))))).husk.hk (Hk.kp (w' := w33) (by (with_reducible (repeat (first | assumption | exact kR _ | refine kT ?_ (by assumption))))))
          have H13 := (q13.mono (B' := w'.heap.size) (kpSize (w := w') (w' := wa13) (by (with_reducible (repeat (first | assumption | exact kR _ | refine kT ?_ (by assumption))))))).husk.hk (Hk.kp (w' := w33) (by (with_reducible (repeat (first | assumption | exact kR _ | refine kT ?_ (by assumption))))))
          have H14 := (q14.mono (B' := w'.heap.size) (kpSize (w := w') (w' := wa14) (by (with_reducible (repeat (first | assumption | exact kR _ | refine kT ?_ (by assumption))))))).husk.hk (Hk.kp (w' := w33) (by (with_reducible (repeat (first | assumption | exact kR _ | refine kT ?_ (by assumption))))))
          have H15 := (q15.mono (B' := w'.heap.size) (kpSize (w := w') (w' := wa15) (by (with_reducible (repeat (first | assumption | exact kR _ | refine kT ?_ (by assumption))))))).husk.hk (Hk.kp (w' := w33) (by (with_reducible (repeat (first | assumption | exact kR _ | refine kT ?_ (by assumption))))))
          refine VS.regionS2 (cx_ok _ _) rfl rfl ?_
          refine wV rfl ?_
          refine VO.nil ?_
          refine ⟨_, _, w'.heap.size, rfl, hb0.size, ⟨_, Tryz.func29, by kernel_rfl, by kernel_rfl⟩, fun wa34 ka34 ba34 => (spoil04_any _ w'.heap.size wa34 (H11.hk (Hk.kp ka34))).mono ?_⟩
          rintro e w34 ⟨rfl, hs34⟩
          refine ⟨rfl, hs34, fun bb34 => ?_⟩
          have K34 : KpS (KU UU) w' w34 := KpS.spo (by exact (by (with_reducible (repeat (first | assumption | exact kR _ | refine kT ?_ (by assumption)))))) hs34
          replace H12 := H12.hk ((Hk.kp ka34).thn (Hk.spo hs34))
          replace H13 := H13.hk ((Hk.kp ka34).thn (Hk.spo hs34))
          replace H14 := H14.hk ((Hk.kp ka34).thn (Hk.spo hs34))
          replace H15 := H15.hk ((Hk.kp ka34).thn (Hk.spo hs34))
          (repeat (first | refine wN ?_ | refine wQ ?_ | refine wO rfl rfl ?_ | refine wT rfl ?_ | refine wF rfl ?_ | refine wB ?_ | refine wK ?_ | refine wE rfl ?_ | refine wS ?_))
          refine VS.regionS2 (cx_ok _ _) rfl rfl ?_
          refine wV rfl ?_
          refine VO.nil ?_
          refine ⟨_, _, w'.heap.size, rfl, hb0.size, ⟨_, Tryz.func29, by kernel_rfl, by kernel_rfl⟩, fun wa35 ka35 ba35 => (spoil04_any _ w'.heap.size wa35 (H12.hk (Hk.kp ka35))).mono ?_⟩
          rintro e w35 ⟨rfl, hs35⟩
          refine ⟨rfl, hs35, fun bb35 => ?_⟩
          have K35 : KpS (KU UU) w' w35 := KpS.spo (by exact (K34.thn ka35)) hs35
          replace H13 := H13.hk ((Hk.kp ka35).thn (Hk.spo hs35))
          replace H14 := H14.hk ((Hk.kp ka35).thn (Hk.spo hs35))
          replace H15 := H15.hk ((Hk.kp ka35).thn (Hk.spo hs35))
          (repeat (first | refine wN ?_ | refine wQ ?_ | refine wO rfl rfl ?_ | refine wT rfl ?_ | refine wF rfl ?_ | refine wB ?_ | refine wK ?_ | refine wE rfl ?_ | refine wS ?_))
          refine VS.regionS2 (cx_ok _ _) rfl rfl ?_
          refine wV rfl ?_
          refine VO.nil ?_
          refine ⟨_, _, w'.heap.size, rfl, hb0.size, ⟨_, Tryz.func29, by kernel_rfl, by kernel_rfl⟩, fun wa36 ka36 ba36 => (spoil04_any _ w'.heap.size wa36 (H13.hk (Hk.kp ka36))).mono ?_⟩
          rintro e w36 ⟨rfl, hs36⟩
          refine ⟨rfl, hs36, fun bb36 => ?_⟩
          have K36 : KpS (KU UU) w' w36 := KpS.spo (by exact (K35.thn ka36)) hs36
          replace H14 := H14.hk ((Hk.kp ka36).thn (Hk.spo hs36))
          replace H15 := H15.hk ((Hk.kp ka36).thn (Hk.spo hs36))
          (repeat (first | refine wN ?_ | refine wQ ?_ | refine wO rfl rfl ?_ | refine wT rfl ?_ | refine wF rfl ?_ | refine wB ?_ | refine wK ?_ | refine wE rfl ?_ | refine wS ?_))
          refine VS.regionS2 (cx_ok _ _) rfl rfl ?_
          refine wV rfl ?_
          refine VO.nil ?_
          refine ⟨_, _, w'.heap.size, rfl, hb0.size, ⟨_, Tryz.func29, by kernel_rfl, by kernel_rfl⟩, fun wa37 ka37 ba37 => (spoil04_any _ w'.heap.size wa37 (H14.hk (Hk.kp ka37))).mono ?_⟩
          rintro e w37 ⟨rfl, hs37⟩
          refine ⟨rfl, hs37, fun bb37 => ?_⟩
          have K37 : KpS (KU UU) w' w37 := KpS.spo (by exact (K36.thn ka37)) hs37
          replace H15 := H15.hk ((Hk.kp ka37).thn (Hk.spo hs37))
          (repeat (first | refine wN ?_ | refine wQ ?_ | refine wO rfl rfl ?_ | refine wT rfl ?_ | refine wF rfl ?_ | refine wB ?_ | refine wK ?_ | refine wE rfl ?_ | refine wS ?_))
          refine VS.regionS2 (cx_ok _ _) rfl rfl ?_
          refine wV rfl ?_
          refine VO.nil ?_
          refine ⟨_, _, w'.heap.size, rfl, hb0.size, ⟨_, Tryz.func29, by kernel_rfl, by kernel_rfl⟩, fun wa38 ka38 ba38 => (spoil04_any _ w'.heap.size wa38 (H15.hk (Hk.kp ka38))).mono ?_⟩
          rintro e w38 ⟨rfl, hs38⟩
          refine ⟨rfl, hs38, fun bb38 => ?_⟩
          have K38 : KpS (KU UU) w' w38 := KpS.spo (by exact (K37.thn ka38)) hs38
          (repeat (first | refine wN ?_ | refine wQ ?_ | refine cx_r rfl ?_ | refine cx_d (by kernel_rfl) rfl ?_ | refine wO rfl rfl ?_ | refine wT rfl ?_ | refine wF rfl ?_ | refine wB ?_ | refine wK ?_ | refine wE rfl ?_ | refine wS ?_))
          refine VS.back (2 - (z + 1)) (by omega) ⟨_, _, ?_, ?_, ?_, ?_, ⟨z + 1, by omega, rfl, rfl, rfl, hXr.kp K38, hYr.kp K38, hWant.kp K38⟩⟩
          · refine ⟨rfl, rfl, rfl, rfl, rfl, rfl, ?_, trivial⟩
            rw [← nat_step (by omega)]; rfl
          · (repeat (first | exact trivial | refine ⟨rfl, ?_⟩))
          · rfl
          · (repeat (first | exact trivial | refine ⟨ClosedC.lit rfl, ?_⟩ | refine ⟨ClosedC.vals _, ?_⟩))
        · skip
          (repeat (first | refine wN ?_ | refine wQ ?_ | refine cx_r rfl ?_ | refine cx_d (by kernel_rfl) rfl ?_ | refine wO rfl rfl ?_ | refine wT rfl ?_ | refine wF rfl ?_ | refine wB ?_ | refine wK ?_ | refine wE rfl ?_ | refine wS ?_))
          refine VO.call rfl rfl ⟨_, Tryz.func21, by kernel_rfl, by kernel_rfl⟩ (fun wa44 ka44 ba44 => (ratSign_ok _ ((qa) / (qb)) (8) wa44 ((q14.kp (by (with_reducible (repeat (first | assumption | exact kR _ | refine kT ?_ (by assumption)))))).in (RSz.div hA4 hB4 (by omega))) (by omega) 0 (hz0 rfl)).mono ?_)
          rintro e w44 ⟨rfl, hb44⟩
          skip
          refine ⟨_, rfl, hb44, fun kb44 _ bb44 => wV rfl ?_⟩
          (repeat (first | refine wN ?_ | refine wQ ?_ | refine cx_r rfl ?_ | refine cx_d (by kernel_rfl) rfl ?_ | refine wO rfl rfl ?_ | refine wT rfl ?_ | refine wF rfl ?_ | refine wB ?_ | refine wK ?_ | refine wE rfl ?_ | refine wS ?_))
          refine VO.call rfl rfl ⟨_, Tryz.func22, by kernel_rfl, by kernel_rfl⟩ (fun wa45 ka45 ba45 => (ratRight_any _ _ _ _ _ wa45 (hAr.kp (Kp.of (U := UU) ba45)) (by omega) (by omega)).mono ?_)
          rintro e w45 ⟨rfl, hb45⟩
          skip
          refine ⟨_, rfl, hb45, fun kb45 _ bb45 => wV rfl ?_⟩
          (repeat (first | refine wN ?_ | refine wQ ?_ | refine cx_r rfl ?_ | refine cx_d (by kernel_rfl) rfl ?_ | refine wO rfl rfl ?_ | refine wT rfl ?_ | refine wF rfl ?_ | refine wB ?_ | refine wK ?_ | refine wE rfl ?_ | refine wS ?_))
          refine VO.call rfl rfl ⟨_, Tryz.func23, by kernel_rfl, by kernel_rfl⟩ (fun wa46 ka46 ba46 => (q04Right_any _ _ _ _ _ wa46 (hXr.kp (by (with_reducible (repeat (first | assumption | exact kR _ | refine kT ?_ (by assumption)))))) (by omega) (by omega)).mono ?_)
          rintro e w46 ⟨rfl, hb46⟩
          skip
          refine ⟨_, rfl, hb46, fun kb46 _ bb46 => wV rfl ?_⟩
          (repeat (first | refine wN ?_ | refine wQ ?_ | refine cx_r rfl ?_ | refine cx_d (by kernel_rfl) rfl ?_ | refine wO rfl rfl ?_ | refine wT rfl ?_ | refine wF rfl ?_ | refine wB ?_ | refine wK ?_ | refine wE rfl ?_ | refine wS ?_))
          refine VS.condN rfl (by simp) ?_
          (repeat (first | refine wN ?_ | refine wQ ?_ | refine cx_r rfl ?_ | refine cx_d (by kernel_rfl) rfl ?_ | refine wO rfl rfl ?_ | refine wT rfl ?_ | refine wF rfl ?_ | refine wB ?_ | refine wK ?_ | refine wE rfl ?_ | refine wS ?_))
          refine VO.call rfl rfl ⟨_, Tryz.func24, by kernel_rfl, by kernel_rfl⟩ (fun wa47 ka47 ba47 => (ratCmp_any _ _ (qa) (qb) (4) (4) wa47 (hA.kp (Kp.of (U := UU) ba47)) (hB.kp (Kp.of (U := UU) ba47)) (by omega) (by omega) ).mono ?_)
          rintro e w47 ⟨rfl, hb47⟩
          skip
          refine ⟨_, rfl, hb47, fun kb47 _ bb47 => wV rfl ?_⟩
          (repeat (first | refine wN ?_ | refine wQ ?_ | refine cx_r rfl ?_ | refine cx_d (by kernel_rfl) rfl ?_ | refine wO rfl rfl ?_ | refine wT rfl ?_ | refine wF rfl ?_ | refine wB ?_ | refine wK ?_ | refine wE rfl ?_ | refine wS ?_))
          refine VO.call rfl rfl ⟨_, Tryz.func25, by kernel_rfl, by kernel_rfl⟩ (fun wa48 ka48 ba48 => (q04Cmp_any _ _ (qa) (qb) (4) (4) wa48 (hX.kp (by (with_reducible (repeat (first | assumption | exact kR _ | refine kT ?_ (by assumption)))))) (hY.kp (by (with_reducible (repeat (first | assumption | exact kR _ | refine kT ?_ (by assumption)))))) (by omega) (by omega) ).mono ?_)
          rintro e w48 ⟨rfl, hb48⟩
          skip
          refine ⟨_, rfl, hb48, fun kb48 _ bb48 => wV rfl ?_⟩
          (repeat (first | refine wN ?_ | refine wQ ?_ | refine cx_r rfl ?_ | refine cx_d (by kernel_rfl) rfl ?_ | refine wO rfl rfl ?_ | refine wT rfl ?_ | refine wF rfl ?_ | refine wB ?_ | refine wK ?_ | refine wE rfl ?_ | refine wS ?_))
          refine VO.fix 121 rfl (congrArg (fun b => AV.val (.bool b)) (bne_self_eq_false (rcmp qa qb))) ?_
          (repeat (first | refine wN ?_ | refine wQ ?_ | refine cx_r rfl ?_ | refine cx_d (by kernel_rfl) rfl ?_ | refine wO rfl rfl ?_ | refine wT rfl ?_ | refine wF rfl ?_ | refine wB ?_ | refine wK ?_ | refine wE rfl ?_ | refine wS ?_))
          refine VO.call rfl rfl ⟨_, Tryz.func21, by kernel_rfl, by kernel_rfl⟩ (fun wa49 ka49 ba49 => (ratSign_any _ (qa) (4) wa49 (hA.kp (Kp.of (U := UU) ba49)) (by omega) ).mono ?_)
          rintro e w49 ⟨rfl, hb49⟩
          skip
          refine ⟨_, rfl, hb49, fun kb49 _ bb49 => wV rfl ?_⟩
          (repeat (first | refine wN ?_ | refine wQ ?_ | refine cx_r rfl ?_ | refine cx_d (by kernel_rfl) rfl ?_ | refine wO rfl rfl ?_ | refine wT rfl ?_ | refine wF rfl ?_ | refine wB ?_ | refine wK ?_ | refine wE rfl ?_ | refine wS ?_))
          refine VO.call rfl rfl ⟨_, Tryz.func26, by kernel_rfl, by kernel_rfl⟩ (fun wa50 ka50 ba50 => (q04Sign_any _ (qa) (4) wa50 (hX.kp (by (with_reducible (repeat (first | assumption | exact kR _ | refine kT ?_ (by assumption)))))) (by omega) ).mono ?_)
          rintro e w50 ⟨rfl, hb50⟩
          skip
          refine ⟨_, rfl, hb50, fun kb50 _ bb50 => wV rfl ?_⟩
          (repeat (first | refine wN ?_ | refine wQ ?_ | refine cx_r rfl ?_ | refine cx_d (by kernel_rfl) rfl ?_ | refine wO rfl rfl ?_ | refine wT rfl ?_ | refine wF rfl ?_ | refine wB ?_ | refine wK ?_ | refine wE rfl ?_ | refine wS ?_))
          refine VO.fix 128 rfl (congrArg (fun b => AV.val (.bool b)) (bne_self_eq_false (rcmp qa 0))) ?_
          (repeat (first | refine wN ?_ | refine wQ ?_ | refine cx_r rfl ?_ | refine cx_d (by kernel_rfl) rfl ?_ | refine wO rfl rfl ?_ | refine wT rfl ?_ | refine wF rfl ?_ | refine wB ?_ | refine wK ?_ | refine wE rfl ?_ | refine wS ?_))
          refine VO.call rfl rfl ⟨_, Tryz.func27, by kernel_rfl, by kernel_rfl⟩ (fun wa51 ka51 ba51 => (ratSame_any _ _ (qa) (qb) (4) (4) wa51 (hA.kp (Kp.of (U := UU) ba51)) (hB.kp (Kp.of (U := UU) ba51)) (by omega) (by omega) ).mono ?_)
          rintro e w51 ⟨rfl, hb51⟩
          skip
          refine ⟨_, rfl, hb51, fun kb51 _ bb51 => wV rfl ?_⟩
          (repeat (first | refine wN ?_ | refine wQ ?_ | refine cx_r rfl ?_ | refine cx_d (by kernel_rfl) rfl ?_ | refine wO rfl rfl ?_ | refine wT rfl ?_ | refine wF rfl ?_ | refine wB ?_ | refine wK ?_ | refine wE rfl ?_ | refine wS ?_))
          refine VO.call rfl rfl ⟨_, Tryz.func28, by kernel_rfl, by kernel_rfl⟩ (fun wa52 ka52 ba52 => (q04Same_any _ _ (qa) (qb) (4) (4) wa52 (hX.kp (by (with_reducible (repeat (first | assumption | exact kR _ | refine kT ?_ (by assumption)))))) (hY.kp (by (with_reducible (repeat (first | assumption | exact kR _ | refine kT ?_ (by assumption)))))) (by omega) (by omega) ).mono ?_)
          rintro e w52 ⟨rfl, hb52⟩
          skip
          refine ⟨_, rfl, hb52, fun kb52 _ bb52 => wV rfl ?_⟩
          (repeat (first | refine wN ?_ | refine wQ ?_ | refine cx_r rfl ?_ | refine cx_d (by kernel_rfl) rfl ?_ | refine wO rfl rfl ?_ | refine wT rfl ?_ | refine wF rfl ?_ | refine wB ?_ | refine wK ?_ | refine wE rfl ?_ | refine wS ?_))
          refine VO.fix 137 rfl (congrArg (fun b => AV.val (.bool b)) (bne_self_eq_false (decide (qa = qb)))) ?_
          (repeat (first | refine wN ?_ | refine wQ ?_ | refine cx_r rfl ?_ | refine cx_d (by kernel_rfl) rfl ?_ | refine wO rfl rfl ?_ | refine wT rfl ?_ | refine wF rfl ?_ | refine wB ?_ | refine wK ?_ | refine wE rfl ?_ | refine wS ?_))
          refine VO.call rfl rfl ⟨_, Tryz.func27, by kernel_rfl, by kernel_rfl⟩ (fun wa53 ka53 ba53 => (ratSame_ok _ _ (qa) (qa) (4) (4) wa53 (hA.kp (Kp.of (U := UU) ba53)) (hA.kp (Kp.of (U := UU) ba53)) (by omega) (by omega) true (decide_eq_true rfl)).mono ?_)
          rintro e w53 ⟨rfl, hb53⟩
          skip
          refine ⟨_, rfl, hb53, fun kb53 _ bb53 => wV rfl ?_⟩
          (repeat (first | refine wN ?_ | refine wQ ?_ | refine wO rfl rfl ?_ | refine wT rfl ?_ | refine wF rfl ?_ | refine wB ?_ | refine wK ?_ | refine wE rfl ?_ | refine wS ?_))
          have H11 := (q11.mono (B' := w'.heap.size) (kpSize (w := w') (w' := wa11) (by (with_reducible (repeat (first | assumption | exact kR _ | refine kT ?_ (by assumption))))))).husk.hk (Hk.kp (w' := w53) (by (with_reducible (repeat (first | assumption | exact kR _ | refine kT ?_ (by assumption))))))
          have H12 := (q12.mono (B' := w'.heap.size) (kpSize (w := w') (w' := wa12) (by (with_reducible (repeat (first | assumption | exact kR _ | refine kT ?_ (by assumption))))))).husk.hk (Hk.kp (w' := w53) (by (with_reducible (repeat (first | assumption | exact kR _ | refine kT ?_ (by assumption))))))
          have H13 := (q13.mono (B' := w'.heap.size) (kpSize (w := w') (w' := wa13) (by (with_reducible (repeat (first | assumption | exact kR _ | refine kT ?_ (by assumption))))))).husk.hk (Hk.kp (w' := w53) (by (with_reducible (repeat (first | assumption | exact kR _ | refine kT ?_ (by assumption))))))
          have H14 := (q14.mono (B' := w'.heap.size) (kpSize (w := w') (w' := wa14) (by (with_reducible (repeat (first | assumption | exact kR _ | refine kT ?_ (by assumption))))))).husk.hk (Hk.kp (w' := w53) (by (with_reducible (repeat (first | assumption | exact kR _ | refine kT ?_ (by assumption))))))
          have H15 := (q15.mono (B' := w'.heap.size) (kpSize (w := w') (w' := wa15) (by (with_reducible (repeat (first | assumption | exact kR _ | refine kT ?_ (by assumption))))))).husk.hk (Hk.kp (w' := w53) (by (with_reducible (repeat (first | assumption | exact kR _ | refine kT ?_ (by assumption))))))
          refine VS.regionS2 (cx_ok _ _) rfl rfl ?_
          refine wV rfl ?_
          refine VO.nil ?_
          refine ⟨_, _, w'.heap.size, rfl, hb0.size, ⟨_, Tryz.func29, by kernel_rfl, by kernel_rfl⟩, fun wa54 ka54 ba54 => (spoil04_any _ w'.heap.size wa54 (H11.hk (Hk.kp ka54))).mono ?_⟩
          rintro e w54 ⟨rfl, hs54⟩
          refine ⟨rfl, hs54, fun bb54 => ?_⟩
          have K54 : KpS (KU UU) w' w54 := KpS.spo (by exact (by (with_reducible (repeat (first | assumption | exact kR _ | refine kT ?_ (by assumption)))))) hs54
          replace H12 := H12.hk ((Hk.kp ka54).thn (Hk.spo hs54))
          replace H13 := H13.hk ((Hk.kp ka54).thn (Hk.spo hs54))
          replace H14 := H14.hk ((Hk.kp ka54).thn (Hk.spo hs54))
          replace H15 := H15.hk ((Hk.kp ka54).thn (Hk.spo hs54))
          (repeat (first | refine wN ?_ | refine wQ ?_ | refine wO rfl rfl ?_ | refine wT rfl ?_ | refine wF rfl ?_ | refine wB ?_ | refine wK ?_ | refine wE rfl ?_ | refine wS ?_))
          refine VS.regionS2 (cx_ok _ _) rfl rfl ?_
          refine wV rfl ?_
          refine VO.nil ?_
          refine ⟨_, _, w'.heap.size, rfl, hb0.size, ⟨_, Tryz.func29, by kernel_rfl, by kernel_rfl⟩, fun wa55 ka55 ba55 => (spoil04_any _ w'.heap.size wa55 (H12.hk (Hk.kp ka55))).mono ?_⟩
          rintro e w55 ⟨rfl, hs55⟩
          refine ⟨rfl, hs55, fun bb55 => ?_⟩
          have K55 : KpS (KU UU) w' w55 := KpS.spo (by exact (K54.thn ka55)) hs55
          replace H13 := H13.hk ((Hk.kp ka55).thn (Hk.spo hs55))
          replace H14 := H14.hk ((Hk.kp ka55).thn (Hk.spo hs55))
          replace H15 := H15.hk ((Hk.kp ka55).thn (Hk.spo hs55))
          (repeat (first | refine wN ?_ | refine wQ ?_ | refine wO rfl rfl ?_ | refine wT rfl ?_ | refine wF rfl ?_ | refine wB ?_ | refine wK ?_ | refine wE rfl ?_ | refine wS ?_))
          refine VS.regionS2 (cx_ok _ _) rfl rfl ?_
          refine wV rfl ?_
          refine VO.nil ?_
          refine ⟨_, _, w'.heap.size, rfl, hb0.size, ⟨_, Tryz.func29, by kernel_rfl, by kernel_rfl⟩, fun wa56 ka56 ba56 => (spoil04_any _ w'.heap.size wa56 (H13.hk (Hk.kp ka56))).mono ?_⟩
          rintro e w56 ⟨rfl, hs56⟩
          refine ⟨rfl, hs56, fun bb56 => ?_⟩
          have K56 : KpS (KU UU) w' w56 := KpS.spo (by exact (K55.thn ka56)) hs56
          replace H14 := H14.hk ((Hk.kp ka56).thn (Hk.spo hs56))
          replace H15 := H15.hk ((Hk.kp ka56).thn (Hk.spo hs56))
          (repeat (first | refine wN ?_ | refine wQ ?_ | refine wO rfl rfl ?_ | refine wT rfl ?_ | refine wF rfl ?_ | refine wB ?_ | refine wK ?_ | refine wE rfl ?_ | refine wS ?_))
          refine VS.regionS2 (cx_ok _ _) rfl rfl ?_
          refine wV rfl ?_
          refine VO.nil ?_
          refine ⟨_, _, w'.heap.size, rfl, hb0.size, ⟨_, Tryz.func29, by kernel_rfl, by kernel_rfl⟩, fun wa57 ka57 ba57 => (spoil04_any _ w'.heap.size wa57 (H14.hk (Hk.kp ka57))).mono ?_⟩
          rintro e w57 ⟨rfl, hs57⟩
          refine ⟨rfl, hs57, fun bb57 => ?_⟩
          have K57 : KpS (KU UU) w' w57 := KpS.spo (by exact (K56.thn ka57)) hs57
          replace H15 := H15.hk ((Hk.kp ka57).thn (Hk.spo hs57))
          (repeat (first | refine wN ?_ | refine wQ ?_ | refine wO rfl rfl ?_ | refine wT rfl ?_ | refine wF rfl ?_ | refine wB ?_ | refine wK ?_ | refine wE rfl ?_ | refine wS ?_))
          refine VS.regionS2 (cx_ok _ _) rfl rfl ?_
          refine wV rfl ?_
          refine VO.nil ?_
          refine ⟨_, _, w'.heap.size, rfl, hb0.size, ⟨_, Tryz.func29, by kernel_rfl, by kernel_rfl⟩, fun wa58 ka58 ba58 => (spoil04_any _ w'.heap.size wa58 (H15.hk (Hk.kp ka58))).mono ?_⟩
          rintro e w58 ⟨rfl, hs58⟩
          refine ⟨rfl, hs58, fun bb58 => ?_⟩
          have K58 : KpS (KU UU) w' w58 := KpS.spo (by exact (K57.thn ka58)) hs58
          (repeat (first | refine wN ?_ | refine wQ ?_ | refine cx_r rfl ?_ | refine cx_d (by kernel_rfl) rfl ?_ | refine wO rfl rfl ?_ | refine wT rfl ?_ | refine wF rfl ?_ | refine wB ?_ | refine wK ?_ | refine wE rfl ?_ | refine wS ?_))
          refine VS.back (2 - (z + 1)) (by omega) ⟨_, _, ?_, ?_, ?_, ?_, ⟨z + 1, by omega, rfl, rfl, rfl, hXr.kp K58, hYr.kp K58, hWant.kp K58⟩⟩
          · refine ⟨rfl, rfl, rfl, rfl, rfl, rfl, ?_, trivial⟩
            rw [← nat_step (by omega)]; rfl
          · (repeat (first | exact trivial | refine ⟨rfl, ?_⟩))
          · rfl
          · (repeat (first | exact trivial | refine ⟨ClosedC.lit rfl, ?_⟩ | refine ⟨ClosedC.vals _, ?_⟩))
        --GENEND
      · refine VS.condN rfl (decide_eq_false (fun e => hlt (Int.ofNat_lt.1 e))) ?_
        (repeat (first | refine wN ?_ | refine wQ ?_ | refine cx_r rfl ?_ | refine cx_d (by kernel_rfl) rfl ?_ | refine wO rfl rfl ?_ | refine wT rfl ?_ | refine wF rfl ?_ | refine wB ?_ | refine wK ?_ | refine wE rfl ?_ | refine wS ?_))
        refine VO.call rfl rfl ⟨_, Tryz.func16, by kernel_rfl, by kernel_rfl⟩ (fun wa201 ka201 ba201 => (is04_raw s t xs ys _ _ wa201 (hAr.kp (Kp.of (U := UU) ba201)) (hXr.kp (by (with_reducible (repeat (first | assumption | exact kR _ | refine kT ?_ (by assumption))))))).mono ?_)
        rintro e w201 ⟨rfl, hb201⟩
        skip
        refine ⟨_, rfl, hb201, fun kb201 _ bb201 => wV rfl ?_⟩
        (repeat (first | refine wN ?_ | refine wQ ?_ | refine cx_r rfl ?_ | refine cx_d (by kernel_rfl) rfl ?_ | refine wO rfl rfl ?_ | refine wT rfl ?_ | refine wF rfl ?_ | refine wB ?_ | refine wK ?_ | refine wE rfl ?_ | refine wS ?_))
        refine VO.call rfl rfl ⟨_, Tryz.func16, by kernel_rfl, by kernel_rfl⟩ (fun wa202 ka202 ba202 => (is04_raw s' t' xs' ys' _ _ wa202 (hBr.kp (Kp.of (U := UU) ba202)) (hYr.kp (by (with_reducible (repeat (first | assumption | exact kR _ | refine kT ?_ (by assumption))))))).mono ?_)
        rintro e w202 ⟨rfl, hb202⟩
        skip
        refine ⟨_, rfl, hb202, fun kb202 _ bb202 => wV rfl ?_⟩
        (repeat (first | refine wN ?_ | refine wQ ?_ | refine cx_r rfl ?_ | refine cx_d (by kernel_rfl) rfl ?_ | refine wO rfl rfl ?_ | refine wT rfl ?_ | refine wF rfl ?_ | refine wB ?_ | refine wK ?_ | refine wE rfl ?_ | refine wS ?_))
        refine VO.call rfl rfl ⟨_, Tryz.func8, by kernel_rfl, by kernel_rfl⟩ (fun wa203 ka203 ba203 => (works04_any wa203).mono ?_)
        rintro e w203 ⟨rfl, hb203⟩
        skip
        refine ⟨_, rfl, hb203, fun kb203 _ bb203 => wV rfl ?_⟩
        (repeat (first | refine wN ?_ | refine wQ ?_ | refine cx_r rfl ?_ | refine cx_d (by kernel_rfl) rfl ?_ | refine wO rfl rfl ?_ | refine wT rfl ?_ | refine wF rfl ?_ | refine wB ?_ | refine wK ?_ | refine wE rfl ?_ | refine wS ?_))
        refine VS.ret (cx_ok _ _) rfl rfl (fun wz kz bz => ?_)
        exact ⟨rfl, bz⟩
    · rw [decide_eq_false hfb]
      refine ⟨_, rfl, hb2, fun kb2 _ bb2 => wV rfl ?_⟩
      (repeat (first | refine wN ?_ | refine wQ ?_ | refine cx_r rfl ?_ | refine cx_d (by kernel_rfl) rfl ?_ | refine wO rfl rfl ?_ | refine wT rfl ?_ | refine wF rfl ?_ | refine wB ?_ | refine wK ?_ | refine wE rfl ?_ | refine wS ?_))
      refine VO.call rfl rfl ⟨_, Tryz.func8, by kernel_rfl, by kernel_rfl⟩ (fun wa3 ka3 ba3 => (works04_any wa3).mono ?_)
      rintro e w3 ⟨rfl, hb3⟩
      skip
      refine ⟨_, rfl, hb3, fun kb3 _ bb3 => wV rfl ?_⟩
      (repeat (first | refine wN ?_ | refine wQ ?_ | refine cx_r rfl ?_ | refine cx_d (by kernel_rfl) rfl ?_ | refine wO rfl rfl ?_ | refine wT rfl ?_ | refine wF rfl ?_ | refine wB ?_ | refine wK ?_ | refine wE rfl ?_ | refine wS ?_))
      refine VS.ret (cx_ok _ _) rfl rfl (fun wz kz bz => ?_)
      exact ⟨rfl, bz⟩
  · rw [decide_eq_false hfa]
    refine ⟨_, rfl, hb1, fun kb1 _ bb1 => wV rfl ?_⟩
    (repeat (first | refine wN ?_ | refine wQ ?_ | refine cx_r rfl ?_ | refine cx_d (by kernel_rfl) rfl ?_ | refine wO rfl rfl ?_ | refine wT rfl ?_ | refine wF rfl ?_ | refine wB ?_ | refine wK ?_ | refine wE rfl ?_ | refine wS ?_))
    refine VO.call rfl rfl ⟨_, Tryz.func8, by kernel_rfl, by kernel_rfl⟩ (fun wa3 ka3 ba3 => (works04_any wa3).mono ?_)
    rintro e w3 ⟨rfl, hb3⟩
    skip
    refine ⟨_, rfl, hb3, fun kb3 _ bb3 => wV rfl ?_⟩
    (repeat (first | refine wN ?_ | refine wQ ?_ | refine cx_r rfl ?_ | refine cx_d (by kernel_rfl) rfl ?_ | refine wO rfl rfl ?_ | refine wT rfl ?_ | refine wF rfl ?_ | refine wB ?_ | refine wK ?_ | refine wE rfl ?_ | refine wS ?_))
    refine VS.ret (cx_ok _ _) rfl rfl (fun wz kz bz => ?_)
    exact ⟨rfl, bz⟩
end Go.Proofs.YtppfcobomaaceaaGreat
