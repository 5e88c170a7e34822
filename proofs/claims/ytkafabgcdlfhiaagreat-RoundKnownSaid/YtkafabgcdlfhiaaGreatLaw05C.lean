/- RoundPlaces: what this statement's function answers. -/
import Derived.Test.YtkafabgcdlfhiaaGreatLaw05B
set_option linter.all false
namespace Go.Proofs.YtkafabgcdlfhiaaGreat
open Go.RowKit
attribute [local irreducible] vcOps VS

theorem Sz.hf {q : Rat} {k : Nat} (h : RSz q k) : Sz (hf q) (up1 k + 1) := by
  have h0 : Sz q.floor (up1 k) := (Sz.floor h).mono (by unfold up1; omega)
  have h1 : Sz (q.floor + 1) (up1 k + 1) := Sz.add h0 (Sz.small (by decide) : Sz 1 1) (Nat.le_refl _) (by unfold up1; omega)
  unfold Proofs.YtkafabgcdlfhiaaGreat.hf
  split
  · exact h0.mono (by omega)
  · split
    · exact h1
    · split
      · exact h0.mono (by omega)
      · exact h1
theorem Sz.plc {q : Rat} {k : Nat} (n : Int) (h : RSz q k) : Sz (plc q n) (k + 50) := by
  unfold Proofs.YtkafabgcdlfhiaaGreat.plc
  split
  · exact Sz.zero.mono (by omega)
  · split
    · exact Sz.zero.mono (by omega)
    · have := Sz.hf (h.mul (tens_sz n.toNat))
      exact this.mono (by unfold up1; omega)
theorem RawE.mk {kk : Nat} {w : World} {s : Bool} {p : Option Addr} {c : Nat} {t : Bool} {r : Option Addr} {d : Nat} {xs ys : List Nat} (h : RatRaw w (.agg #[.bool s, .slice p xs.length c, .bool t, .slice r ys.length d]) s xs t ys) (h1 : xs.length ≤ kk) (h2 : ys.length ≤ kk) :
    RawE kk w [.bool s, .slice p xs.length c, .bool t, .slice r ys.length d] (rtB s xs t ys, rq s xs t ys) := ⟨s, p, c, t, r, d, xs, ys, rfl, h, rfl, h1, h2⟩
set_option maxRecDepth 4000 in
set_option maxHeartbeats 4000000 in
theorem roundPlaces_any (s t : Bool) (xs ys : List Nat) (v u : Value) (n : Int) (es : List (Bool × Rat)) (kk : Nat) (w : World) (hv : RatRaw w v s xs t ys) (hl : SlIn (RawE kk) 4 w u es) :
    Calls Tryz.prog 7 #[v, .int .i64 n, u] w fun e w' => e = .returned (.bool true) ∧ Beh w w' := by
  have hv0 := hv
  obtain ⟨px, cx, rx, dx, rfl, _, _⟩ := hv
  obtain ⟨p, c, rfl, hnc, hcm⟩ := hl.form
  obtain ⟨N, hN⟩ : ∃ N, N = es.length := ⟨_, rfl⟩
  rw [← hN] at hl hnc ⊢
  refine calm_enter (C := cxOf Tryz.prog w _) (args := [_, _, _]) Tryz.func7 rfl Tryz.ntmps7 (Nat.le_of_ble_eq_true rfl) ?_
  (repeat (first | refine wN ?_ | refine wP rfl ?_ | refine cx_r rfl ?_ | refine cx_d (by kernel_rfl) rfl ?_ | refine wO rfl rfl ?_))
  refine VO.call rfl rfl (fk Tryz.func46) (fun wa1 ka1 ba1 => (few05_any s t xs ys _ 12 wa1 (hv0.kp ka1)).mono ?_)
  rintro e w1 ⟨rfl, hb1⟩
  by_cases hf12 : xs.length ≤ 12 ∧ ys.length ≤ 12
  rotate_left
  · rw [decide_eq_false hf12]
    refine ⟨_, rfl, hb1, fun kb1 _ bb1 => wV rfl ?_⟩
    (repeat (first | refine wN ?_ | refine wP rfl ?_ | refine cx_r rfl ?_ | refine cx_d (by kernel_rfl) rfl ?_ | refine wO rfl rfl ?_))
    refine VO.call rfl rfl (fk Tryz.func47) (fun wa2 ka2 ba2 => (works05_any wa2).mono ?_)
    rintro e w2 ⟨rfl, hb2⟩
    skip
    refine ⟨_, rfl, hb2, fun kb2 _ bb2 => wV rfl ?_⟩
    (repeat (first | refine wN ?_ | refine wP rfl ?_ | refine cx_r rfl ?_ | refine cx_d (by kernel_rfl) rfl ?_ | refine wO rfl rfl ?_))
    refine VS.ret (cx_ok _ _) rfl rfl (fun wz kz bz => ?_)
    exact ⟨rfl, bz⟩
  rw [decide_eq_true hf12]
  refine ⟨_, rfl, hb1, fun kb1 _ bb1 => wV rfl ?_⟩
  (repeat (first | refine wN ?_ | refine wP rfl ?_ | refine cx_r rfl ?_ | refine cx_d (by kernel_rfl) rfl ?_ | refine wO rfl rfl ?_))
  by_cases h10 : N > 10
  · refine VS.condY rfl (decide_eq_true (show (N : Int) > 10 by omega)) ?_
    (repeat (first | refine wN ?_ | refine wP rfl ?_ | refine cx_r rfl ?_ | refine cx_d (by kernel_rfl) rfl ?_ | refine wO rfl rfl ?_))
    refine VO.call rfl rfl (fk Tryz.func47) (fun wa2 ka2 ba2 => (works05_any wa2).mono ?_)
    rintro e w2 ⟨rfl, hb2⟩
    skip
    refine ⟨_, rfl, hb2, fun kb2 _ bb2 => wV rfl ?_⟩
    (repeat (first | refine wN ?_ | refine wP rfl ?_ | refine cx_r rfl ?_ | refine cx_d (by kernel_rfl) rfl ?_ | refine wO rfl rfl ?_))
    refine VS.ret (cx_ok _ _) rfl rfl (fun wz kz bz => ?_)
    exact ⟨rfl, bz⟩
  refine VS.condN rfl (decide_eq_false (show ¬ (N : Int) > 10 by omega)) ?_
  (repeat (first | refine wN ?_ | refine wP rfl ?_ | refine cx_r rfl ?_ | refine cx_d (by kernel_rfl) rfl ?_ | refine wO rfl rfl ?_))
  have hq := hv0.in hf12.1 hf12.2
  have hqs : RSz (rq s xs t ys) 12 := hq.sz (by omega)
  refine VS.loop (J := fun m L M w' => ∃ z : Nat, z ≤ N ∧ m = N - z ∧ SlUp (RawE 12) 4 w p es z ∧
      ((z = 0 ∧ L = [(1, .val (.int .i64 n)), (2, .val (.slice p N c)), (3, .box 3 0), (7, .val (.slice none 0 0)), (8, .val (.int .i64 (z : Int)))] ∧ M = [(3, (27, ([.bool s, .slice px xs.length cx, .bool t, .slice rx ys.length dx] : List Value).map .val))]) ∨
       (0 < z ∧ ∃ vs spare cap, L = [(1, .val (.int .i64 n)), (2, .val (.slice p N c)), (3, .box 3 0), (7, .row 42 0 z cap), (8, .val (.int .i64 (z : Int)))] ∧ M = [(3, (27, ([.bool s, .slice px xs.length cx, .bool t, .slice rx ys.length dx] : List Value).map .val)), (42, (35, vs.flatten.map .val ++ spare))] ∧
          RowE (RawE 12) w' (es.take z) vs ∧ (vs.flatten.map AV.val ++ spare).length = cap * 4 ∧ z ≤ cap ∧ cap ≤ 9223372036854775807 ∧ spare.all okLeaf = true ∧ lidsOf spare = []))) N ⟨_, _, ?_, ?_, ?_, ?_, ⟨0, by omega, rfl, SlUp.zero, .inl ⟨rfl, rfl, rfl⟩⟩⟩ ?_
  · (repeat (first | exact trivial | refine ⟨rfl, ?_⟩))
  · (repeat (first | exact trivial | refine ⟨rfl, ?_⟩))
  · rfl
  · (repeat (first | exact trivial | refine ⟨ClosedC.lit rfl, ?_⟩ | refine ⟨ClosedC.vals _, ?_⟩))
  rintro m L M wJ ⟨z, hz, rfl, hup, ⟨rfl, rfl, rfl⟩ | ⟨hz0, vs, spare, cap, rfl, rfl, hrow, hlen', hzc, hcc, hsok, hsl⟩⟩
  · (repeat (first | refine wN ?_ | refine wP rfl ?_ | refine cx_r rfl ?_ | refine cx_d (by kernel_rfl) rfl ?_ | refine wO rfl rfl ?_))
    by_cases hlt : (0 : Nat) < N
    · obtain ⟨x, hx⟩ : ∃ x, es[(0 : Nat)]? = some x := ⟨_, List.getElem?_eq_getElem (by omega)⟩
      obtain ⟨b, off, cs', rfl, hc, he⟩ := hl.at hx
      obtain ⟨s9, p9, c9, t9, r9, d9, xs9, ys9, rfl, hraw9, rfl, hx9, hy9⟩ := he
      refine VS.condY rfl (decide_eq_true (Int.ofNat_lt.2 hlt)) ?_
      (repeat (first | refine wN ?_ | refine wP rfl ?_ | refine cx_r rfl ?_ | refine cx_d (by kernel_rfl) rfl ?_ | refine wO rfl rfl ?_))
      refine VO.cond rfl ⟨by omega, by omega⟩ ?_
      refine wV rfl ?_
      (repeat (first | refine wN ?_ | refine wP rfl ?_ | refine cx_r rfl ?_ | refine cx_d (by kernel_rfl) rfl ?_ | refine wO rfl rfl ?_))
      refine VO.read rfl [.bool s9, .slice p9 xs9.length c9, .bool t9, .slice r9 ys9.length d9] rfl (fun j u hj => by rw [Addr.add_mid, Int.toNat_natCast]; exact hc j u hj) (wV rfl ?_)
      (repeat (first | refine wN ?_ | refine wP rfl ?_ | refine cx_r rfl ?_ | refine cx_d (by kernel_rfl) rfl ?_ | refine wO rfl rfl ?_))
      refine VO.call rfl rfl (fk Tryz.func46) (fun wa3 ka3 ba3 => (few05_any s9 t9 xs9 ys9 _ 12 wa3 (hraw9.kp (Kp.of (U := UU) ba3))).mono ?_)
      rintro e w3 ⟨rfl, hb3⟩
      by_cases hf9 : xs9.length ≤ 12 ∧ ys9.length ≤ 12
      rotate_left
      · rw [decide_eq_false hf9]
        refine ⟨_, rfl, hb3, fun kb3 _ bb3 => wV rfl ?_⟩
        (repeat (first | refine wN ?_ | refine wP rfl ?_ | refine cx_r rfl ?_ | refine cx_d (by kernel_rfl) rfl ?_ | refine wO rfl rfl ?_))
        refine VO.call rfl rfl (fk Tryz.func47) (fun wa4 ka4 ba4 => (works05_any wa4).mono ?_)
        rintro e w4 ⟨rfl, hb4⟩
        skip
        refine ⟨_, rfl, hb4, fun kb4 _ bb4 => wV rfl ?_⟩
        (repeat (first | refine wN ?_ | refine wP rfl ?_ | refine cx_r rfl ?_ | refine cx_d (by kernel_rfl) rfl ?_ | refine wO rfl rfl ?_))
        refine VS.ret (cx_ok _ _) rfl rfl (fun wz kz bz => ?_)
        exact ⟨rfl, bz⟩
      rw [decide_eq_true hf9]
      refine ⟨_, rfl, hb3, fun kb3 _ bb3 => wV rfl ?_⟩
      (repeat (first | refine wN ?_ | refine wP rfl ?_ | refine cx_r rfl ?_ | refine cx_d (by kernel_rfl) rfl ?_ | refine wO rfl rfl ?_))
      refine VO.cond rfl ⟨by omega, by omega⟩ ?_
      refine wV rfl ?_
      (repeat (first | refine wN ?_ | refine wP rfl ?_ | refine cx_r rfl ?_ | refine cx_d (by kernel_rfl) rfl ?_ | refine wO rfl rfl ?_))
      refine VO.read rfl [.bool s9, .slice p9 xs9.length c9, .bool t9, .slice r9 ys9.length d9] rfl (fun j u hj => by rw [Addr.add_mid, Int.toNat_natCast]; exact hc j u hj) (wV rfl ?_)
      (repeat (first | refine wN ?_ | refine wP rfl ?_ | refine cx_r rfl ?_ | refine cx_d (by kernel_rfl) rfl ?_ | refine wO rfl rfl ?_))
      refine VO.call rfl rfl (fk Tryz.func48) (fun wa5 ka5 ba5 => (ref05_any s9 t9 xs9 ys9 _ wa5 (hraw9.kp (Kp.of (U := UU) ba5)) (by omega) (by omega)).mono ?_)
      rintro e w5 ⟨r5, rfl, q5, hb5⟩
      obtain ⟨p5, c5, y5, d5, rfl, q5a⟩ := q5.form'
      refine ⟨_, rfl, hb5, fun kb5 _ bb5 => wV rfl ?_⟩
      (repeat (first | refine wN ?_ | refine wP rfl ?_ | refine cx_r rfl ?_ | refine cx_d (by kernel_rfl) rfl ?_ | refine wO rfl rfl ?_))
      refine VO.app (cx_ok _ _) (t := 73) (e := 35) (sz := 4) (n := 0) (c := 0) (mm := 1) (known := []) (spare := []) (del := none) (news := ([.bool s9, .slice p5 xs9.length c5, .bool t9, .slice y5 ys9.length d5] : List Value).map .val) (dst := 42) rfl rfl rfl rfl rfl rfl rfl rfl (Nat.le_of_ble_eq_true rfl) rfl (.inl ⟨rfl, rfl, rfl, rfl, rfl, rfl, by omega⟩) (.inl rfl) rfl rfl (by omega) (by omega) ⟨rfl, rfl, rfl⟩ ⟨rfl, rfl, rfl⟩ rfl (by omega)
        (fun w1 β k1 b1 ho => ⟨_, _, rfl, .inr ⟨β 41, 0, rfl, own_src (rest := []) (ho.own 41 (.base (List.mem_append_right _ (List.mem_singleton.2 rfl))) _ _ rfl) rfl⟩⟩)
        (fun w13 cap' spare' ρ k13 b13 hρ hc1 hc2 hlen2 hok' hlid' => wV rfl ?_)
      (repeat (first | refine wN ?_ | refine wP rfl ?_ | refine cx_r rfl ?_ | refine cx_d (by kernel_rfl) rfl ?_ | refine wO rfl rfl ?_))
      have hI : RawE 12 w13 [.bool s9, .slice p5 xs9.length c5, .bool t9, .slice y5 ys9.length d5] (rtB s9 xs9 t9 ys9, rq s9 xs9 t9 ys9) := RawE.mk (q5.kp (by (with_reducible (repeat (first | assumption | exact kU _ | exact kR _ | exact Kp.of (U := UU) (by assumption) | exact KpS.of (by assumption) | refine kT ?_ (by assumption)))))) hf9.1 hf9.2
      have hrow' : RowE (RawE 12) w13 (es.take ((0 : Nat) + 1)) ([[.bool s9, .slice p5 xs9.length c5, .bool t9, .slice y5 ys9.length d5]]) := by
        rw [take_snoc_at hx]
        exact .cons hI .nil
      refine VS.back (N - ((0 : Nat) + 1)) (by omega) ⟨_, _, ?_, ?_, ?_, ?_, ⟨(0 : Nat) + 1, by omega, rfl, hup.snoc hx hc (RawE.mk hraw9 hf9.1 hf9.2), .inr ⟨by omega, [[.bool s9, .slice p5 xs9.length c5, .bool t9, .slice y5 ys9.length d5]], spare', cap', rfl, rfl, hrow', ?_, by omega, hc2, hok', hlid'⟩⟩⟩
      · refine ⟨rfl, rfl, rfl, rfl, ?_, trivial⟩
        rfl
      · exact ⟨rfl, rfl, trivial⟩
      · rfl
      · exact ⟨.vals _, .append (.vals _) (.none hlid'), trivial⟩
      · simpa using hlen2
    · refine VS.condN rfl (decide_eq_false (fun e => hlt (Int.ofNat_lt.1 e))) ?_
      obtain rfl : N = 0 := by omega
      obtain rfl : es = [] := List.length_eq_zero_iff.1 hN.symm
      (repeat (first | refine wN ?_ | refine wP rfl ?_ | refine cx_r rfl ?_ | refine cx_d (by kernel_rfl) rfl ?_ | refine wO rfl rfl ?_))
      refine VO.call rfl rfl (fk Tryz.func49) (fun wa3 ka3 ba3 => (rdPlaces_any _ (rq s xs t ys) 12 n wa3 hq.k (by omega)).mono ?_)
      rintro e w3 ⟨r3, rfl, q3, hb3⟩
      obtain ⟨s3, p3, n3, c3, rfl⟩ := q3.form
      refine ⟨_, rfl, hb3, fun kb3 _ bb3 => wV rfl ?_⟩
      (repeat (first | refine wN ?_ | refine wP rfl ?_ | refine cx_r rfl ?_ | refine cx_d (by kernel_rfl) rfl ?_ | refine wO rfl rfl ?_))
      refine VO.call rfl rfl (fk Tryz.func48) (fun wa4 ka4 ba4 => (ref05_any s t xs ys _ wa4 (hv0.kp (by (with_reducible (repeat (first | assumption | exact kU _ | exact kR _ | exact Kp.of (U := UU) (by assumption) | exact KpS.of (by assumption) | refine kT ?_ (by assumption)))))) (by omega) (by omega)).mono ?_)
      rintro e w4 ⟨r4, rfl, q4, hb4⟩
      obtain ⟨p4, c4, y4, d4, rfl, q4a⟩ := q4.form'
      refine ⟨_, rfl, hb4, fun kb4 _ bb4 => wV rfl ?_⟩
      (repeat (first | refine wN ?_ | refine wP rfl ?_ | refine cx_r rfl ?_ | refine cx_d (by kernel_rfl) rfl ?_ | refine wO rfl rfl ?_))
      refine VO.call rfl rfl (fk Tryz.func50) (fun wa5 ka5 ba5 => (q05Places_any _ (rq s xs t ys) 12 n wa5 ((q4.in hf12.1 hf12.2).k) (by omega)).mono ?_)
      rintro e w5 ⟨r5, rfl, q5, hb5⟩
      obtain ⟨s5, p5, n5, c5, rfl⟩ := q5.form
      refine ⟨_, rfl, hb5, fun kb5 _ bb5 => wV rfl ?_⟩
      (repeat (first | refine wN ?_ | refine wP rfl ?_ | refine cx_r rfl ?_ | refine cx_d (by kernel_rfl) rfl ?_ | refine wO rfl rfl ?_))
      refine VO.call rfl rfl (fk Tryz.func51) (fun wa6 ka6 ba6 => (same05_any (plc (rq s xs t ys) n) _ _ 62 62 wa6 q3.kr (Sz.plc n hqs) (q5.ki (Sz.plc n hqs)) (by omega) (by omega)).mono ?_)
      rintro e w6 ⟨rfl, hb6⟩
      skip
      refine ⟨_, rfl, hb6, fun kb6 _ bb6 => wV rfl ?_⟩
      (repeat (first | refine wN ?_ | refine wP rfl ?_ | refine cx_r rfl ?_ | refine cx_d (by kernel_rfl) rfl ?_ | refine wO rfl rfl ?_))
      refine VO.fix 64 rfl (congrArg (fun b => AV.val (.bool b)) (show (pcode n == pcode n) = true by simp)) ?_
      (repeat (first | refine wN ?_ | refine wP rfl ?_ | refine cx_r rfl ?_ | refine cx_d (by kernel_rfl) rfl ?_ | refine wO rfl rfl ?_))
      refine VO.call rfl rfl (fk Tryz.func52) (fun wa7 ka7 ba7 => (rdIsWhole_any _ [] 12 wa7 ((hup.all hl).beh (rawE_ok 12) ba7) (by omega)).mono ?_)
      rintro e w7 ⟨rfl, hb7⟩
      skip
      refine ⟨_, rfl, hb7, fun kb7 _ bb7 => wV rfl ?_⟩
      (repeat (first | refine wN ?_ | refine wP rfl ?_ | refine cx_r rfl ?_ | refine cx_d (by kernel_rfl) rfl ?_ | refine wO rfl rfl ?_))
      refine VO.call rfl rfl (fk Tryz.func53) (fun wa8 ka8 ba8 => (q05IsWhole_any _ [] 12 wa8 (SlIn.nil _ _ _ : SlIn (RawE 12) 4 wa8 (.slice none 0 0) []) (by omega)).mono ?_)
      rintro e w8 ⟨rfl, hb8⟩
      skip
      refine ⟨_, rfl, hb8, fun kb8 _ bb8 => wV rfl ?_⟩
      (repeat (first | refine wN ?_ | refine wP rfl ?_ | refine cx_r rfl ?_ | refine cx_d (by kernel_rfl) rfl ?_ | refine wO rfl rfl ?_))
      refine VO.call rfl rfl (fk Tryz.func47) (fun wa9 ka9 ba9 => (works05_any wa9).mono ?_)
      rintro e w9 ⟨rfl, hb9⟩
      skip
      refine ⟨_, rfl, hb9, fun kb9 _ bb9 => wV rfl ?_⟩
      (repeat (first | refine wN ?_ | refine wP rfl ?_ | refine cx_r rfl ?_ | refine cx_d (by kernel_rfl) rfl ?_ | refine wO rfl rfl ?_))
      refine VS.ret (cx_ok _ _) rfl rfl (fun wz kz bz => ?_)
      exact ⟨rfl, bz⟩
  · (repeat (first | refine wN ?_ | refine wP rfl ?_ | refine cx_r rfl ?_ | refine cx_d (by kernel_rfl) rfl ?_ | refine wO rfl rfl ?_))
    by_cases hlt : z < N
    · obtain ⟨x, hx⟩ : ∃ x, es[z]? = some x := ⟨_, List.getElem?_eq_getElem (by omega)⟩
      obtain ⟨b, off, cs', rfl, hc, he⟩ := hl.at hx
      obtain ⟨s9, p9, c9, t9, r9, d9, xs9, ys9, rfl, hraw9, rfl, hx9, hy9⟩ := he
      refine VS.condY rfl (decide_eq_true (Int.ofNat_lt.2 hlt)) ?_
      (repeat (first | refine wN ?_ | refine wP rfl ?_ | refine cx_r rfl ?_ | refine cx_d (by kernel_rfl) rfl ?_ | refine wO rfl rfl ?_))
      refine VO.cond rfl ⟨by omega, by omega⟩ ?_
      refine wV rfl ?_
      (repeat (first | refine wN ?_ | refine wP rfl ?_ | refine cx_r rfl ?_ | refine cx_d (by kernel_rfl) rfl ?_ | refine wO rfl rfl ?_))
      refine VO.read rfl [.bool s9, .slice p9 xs9.length c9, .bool t9, .slice r9 ys9.length d9] rfl (fun j u hj => by rw [Addr.add_mid, Int.toNat_natCast]; exact hc j u hj) (wV rfl ?_)
      (repeat (first | refine wN ?_ | refine wP rfl ?_ | refine cx_r rfl ?_ | refine cx_d (by kernel_rfl) rfl ?_ | refine wO rfl rfl ?_))
      refine VO.call rfl rfl (fk Tryz.func46) (fun wa3 ka3 ba3 => (few05_any s9 t9 xs9 ys9 _ 12 wa3 (hraw9.kp (Kp.of (U := UU) ba3))).mono ?_)
      rintro e w3 ⟨rfl, hb3⟩
      by_cases hf9 : xs9.length ≤ 12 ∧ ys9.length ≤ 12
      rotate_left
      · rw [decide_eq_false hf9]
        refine ⟨_, rfl, hb3, fun kb3 _ bb3 => wV rfl ?_⟩
        (repeat (first | refine wN ?_ | refine wP rfl ?_ | refine cx_r rfl ?_ | refine cx_d (by kernel_rfl) rfl ?_ | refine wO rfl rfl ?_))
        refine VO.call rfl rfl (fk Tryz.func47) (fun wa4 ka4 ba4 => (works05_any wa4).mono ?_)
        rintro e w4 ⟨rfl, hb4⟩
        skip
        refine ⟨_, rfl, hb4, fun kb4 _ bb4 => wV rfl ?_⟩
        (repeat (first | refine wN ?_ | refine wP rfl ?_ | refine cx_r rfl ?_ | refine cx_d (by kernel_rfl) rfl ?_ | refine wO rfl rfl ?_))
        refine VS.ret (cx_ok _ _) rfl rfl (fun wz kz bz => ?_)
        exact ⟨rfl, bz⟩
      rw [decide_eq_true hf9]
      refine ⟨_, rfl, hb3, fun kb3 _ bb3 => wV rfl ?_⟩
      (repeat (first | refine wN ?_ | refine wP rfl ?_ | refine cx_r rfl ?_ | refine cx_d (by kernel_rfl) rfl ?_ | refine wO rfl rfl ?_))
      refine VO.cond rfl ⟨by omega, by omega⟩ ?_
      refine wV rfl ?_
      (repeat (first | refine wN ?_ | refine wP rfl ?_ | refine cx_r rfl ?_ | refine cx_d (by kernel_rfl) rfl ?_ | refine wO rfl rfl ?_))
      refine VO.read rfl [.bool s9, .slice p9 xs9.length c9, .bool t9, .slice r9 ys9.length d9] rfl (fun j u hj => by rw [Addr.add_mid, Int.toNat_natCast]; exact hc j u hj) (wV rfl ?_)
      (repeat (first | refine wN ?_ | refine wP rfl ?_ | refine cx_r rfl ?_ | refine cx_d (by kernel_rfl) rfl ?_ | refine wO rfl rfl ?_))
      refine VO.call rfl rfl (fk Tryz.func48) (fun wa5 ka5 ba5 => (ref05_any s9 t9 xs9 ys9 _ wa5 (hraw9.kp (Kp.of (U := UU) ba5)) (by omega) (by omega)).mono ?_)
      rintro e w5 ⟨r5, rfl, q5, hb5⟩
      obtain ⟨p5, c5, y5, d5, rfl, q5a⟩ := q5.form'
      refine ⟨_, rfl, hb5, fun kb5 _ bb5 => wV rfl ?_⟩
      (repeat (first | refine wN ?_ | refine wP rfl ?_ | refine cx_r rfl ?_ | refine cx_d (by kernel_rfl) rfl ?_ | refine wO rfl rfl ?_))
      obtain ⟨hok1, hln1⟩ := hrow.ok (rawE_ok 12)
      have htl : (es.take z).length = z := by rw [List.length_take]; omega
      refine VO.app (cx_ok _ _) (t := 73) (e := 35) (sz := 4) (n := z) (c := cap) (mm := 1) (known := vs.flatten.map .val) (spare := spare) (del := some 42) (news := ([.bool s9, .slice p5 xs9.length c5, .bool t9, .slice y5 ys9.length d5] : List Value).map .val) (dst := 42) rfl rfl rfl rfl rfl rfl rfl rfl (Nat.le_of_ble_eq_true rfl) rfl (.inr ⟨42, rfl, rfl, rfl⟩) (.inr rfl) (by rw [List.length_map, hln1, htl]) hlen' hzc hcc ⟨lidsOf_vals _, hsl, rfl⟩ ⟨vals_ok hok1, hsok, rfl⟩ rfl (by omega)
        (fun w1 β k1 b1 ho => ⟨_, _, rfl, .inr ⟨β 41, 0, rfl, own_src (rest := []) (ho.own 41 (.base (List.mem_append_right _ (List.mem_singleton.2 rfl))) _ _ rfl) rfl⟩⟩)
        (fun w13 cap' spare' ρ k13 b13 hρ hc1 hc2 hlen2 hok' hlid' => wV rfl ?_)
      (repeat (first | refine wN ?_ | refine wP rfl ?_ | refine cx_r rfl ?_ | refine cx_d (by kernel_rfl) rfl ?_ | refine wO rfl rfl ?_))
      have hI : RawE 12 w13 [.bool s9, .slice p5 xs9.length c5, .bool t9, .slice y5 ys9.length d5] (rtB s9 xs9 t9 ys9, rq s9 xs9 t9 ys9) := RawE.mk (q5.kp (by (with_reducible (repeat (first | assumption | exact kU _ | exact kR _ | exact Kp.of (U := UU) (by assumption) | exact KpS.of (by assumption) | refine kT ?_ (by assumption)))))) hf9.1 hf9.2
      have hrow' : RowE (RawE 12) w13 (es.take (z + 1)) (vs ++ [[.bool s9, .slice p5 xs9.length c5, .bool t9, .slice y5 ys9.length d5]]) := by
        rw [take_snoc_at hx]
        exact (hrow.kp (rawE_ok 12) (by (with_reducible (repeat (first | assumption | exact kU _ | exact kR _ | exact Kp.of (U := UU) (by assumption) | exact KpS.of (by assumption) | refine kT ?_ (by assumption)))))).snoc hI
      refine VS.back (N - (z + 1)) (by omega) ⟨_, _, ?_, ?_, ?_, ?_, ⟨z + 1, by omega, rfl, hup.snoc hx hc (RawE.mk hraw9 hf9.1 hf9.2), .inr ⟨by omega, vs ++ [[.bool s9, .slice p5 xs9.length c5, .bool t9, .slice y5 ys9.length d5]], spare', cap', rfl, rfl, hrow', ?_, by omega, hc2, hok', hlid'⟩⟩⟩
      · refine ⟨rfl, rfl, rfl, rfl, ?_, trivial⟩
        rw [← nat_step (by omega)]; rfl
      · exact ⟨rfl, congrArg (fun l => some (_, l ++ spare')) (by simp), trivial⟩
      · rfl
      · exact ⟨.vals _, .append (.vals _) (.none hlid'), trivial⟩
      · simpa using hlen2
    · refine VS.condN rfl (decide_eq_false (fun e => hlt (Int.ofNat_lt.1 e))) ?_
      obtain rfl : z = N := by omega
      rw [List.take_of_length_le (by omega)] at hrow
      (repeat (first | refine wN ?_ | refine wP rfl ?_ | refine cx_r rfl ?_ | refine cx_d (by kernel_rfl) rfl ?_ | refine wO rfl rfl ?_))
      refine VO.call rfl rfl (fk Tryz.func49) (fun wa3 ka3 ba3 => (rdPlaces_any _ (rq s xs t ys) 12 n wa3 hq.k (by omega)).mono ?_)
      rintro e w3 ⟨r3, rfl, q3, hb3⟩
      obtain ⟨s3, p3, n3, c3, rfl⟩ := q3.form
      refine ⟨_, rfl, hb3, fun kb3 _ bb3 => wV rfl ?_⟩
      (repeat (first | refine wN ?_ | refine wP rfl ?_ | refine cx_r rfl ?_ | refine cx_d (by kernel_rfl) rfl ?_ | refine wO rfl rfl ?_))
      refine VO.call rfl rfl (fk Tryz.func48) (fun wa4 ka4 ba4 => (ref05_any s t xs ys _ wa4 (hv0.kp (by (with_reducible (repeat (first | assumption | exact kU _ | exact kR _ | exact Kp.of (U := UU) (by assumption) | exact KpS.of (by assumption) | refine kT ?_ (by assumption)))))) (by omega) (by omega)).mono ?_)
      rintro e w4 ⟨r4, rfl, q4, hb4⟩
      obtain ⟨p4, c4, y4, d4, rfl, q4a⟩ := q4.form'
      refine ⟨_, rfl, hb4, fun kb4 _ bb4 => wV rfl ?_⟩
      (repeat (first | refine wN ?_ | refine wP rfl ?_ | refine cx_r rfl ?_ | refine cx_d (by kernel_rfl) rfl ?_ | refine wO rfl rfl ?_))
      refine VO.call rfl rfl (fk Tryz.func50) (fun wa5 ka5 ba5 => (q05Places_any _ (rq s xs t ys) 12 n wa5 ((q4.in hf12.1 hf12.2).k) (by omega)).mono ?_)
      rintro e w5 ⟨r5, rfl, q5, hb5⟩
      obtain ⟨s5, p5, n5, c5, rfl⟩ := q5.form
      refine ⟨_, rfl, hb5, fun kb5 _ bb5 => wV rfl ?_⟩
      (repeat (first | refine wN ?_ | refine wP rfl ?_ | refine cx_r rfl ?_ | refine cx_d (by kernel_rfl) rfl ?_ | refine wO rfl rfl ?_))
      refine VO.call rfl rfl (fk Tryz.func51) (fun wa6 ka6 ba6 => (same05_any (plc (rq s xs t ys) n) _ _ 62 62 wa6 q3.kr (Sz.plc n hqs) (q5.ki (Sz.plc n hqs)) (by omega) (by omega)).mono ?_)
      rintro e w6 ⟨rfl, hb6⟩
      skip
      refine ⟨_, rfl, hb6, fun kb6 _ bb6 => wV rfl ?_⟩
      (repeat (first | refine wN ?_ | refine wP rfl ?_ | refine cx_r rfl ?_ | refine cx_d (by kernel_rfl) rfl ?_ | refine wO rfl rfl ?_))
      refine VO.fix 64 rfl (congrArg (fun b => AV.val (.bool b)) (show (pcode n == pcode n) = true by simp)) ?_
      (repeat (first | refine wN ?_ | refine wP rfl ?_ | refine cx_r rfl ?_ | refine cx_d (by kernel_rfl) rfl ?_ | refine wO rfl rfl ?_))
      refine VO.call rfl rfl (fk Tryz.func52) (fun wa7 ka7 ba7 => (rdIsWhole_any _ es 12 wa7 ((hup.all hl).beh (rawE_ok 12) ba7) (by omega)).mono ?_)
      rintro e w7 ⟨rfl, hb7⟩
      skip
      refine ⟨_, rfl, hb7, fun kb7 _ bb7 => wV rfl ?_⟩
      (repeat (first | refine wN ?_ | refine wP rfl ?_ | refine cx_r rfl ?_ | refine cx_d (by kernel_rfl) rfl ?_ | refine wO rfl rfl ?_))
      refine VO.callF rfl (fk Tryz.func53) (fun wa8 β ka8 ba8 ho => (q05IsWhole_any _ es 12 wa8 (ownV_sl (rawE_ok 12) (ho.own 42 (.base (List.mem_singleton.2 rfl)) _ _ rfl) spare rfl (hrow.kp (rawE_ok 12) (by (with_reducible (repeat (first | assumption | exact kU _ | exact kR _ | exact Kp.of (U := UU) (by assumption) | exact KpS.of (by assumption) | refine kT ?_ (by assumption)))))) hN hzc hcc) (by omega)).mono ?_)
      rintro e w8 ⟨rfl, hb8⟩
      refine ⟨_, rfl, hb8, fun kb8 _ bb8 => wV rfl ?_⟩
      (repeat (first | refine wN ?_ | refine wP rfl ?_ | refine cx_r rfl ?_ | refine cx_d (by kernel_rfl) rfl ?_ | refine wO rfl rfl ?_))
      refine VO.fix 71 rfl (congrArg (fun b => AV.val (.bool b)) (show (es.all wholeB == es.all wholeB) = true by simp)) ?_
      (repeat (first | refine wN ?_ | refine wP rfl ?_ | refine cx_r rfl ?_ | refine cx_d (by kernel_rfl) rfl ?_ | refine wO rfl rfl ?_))
      refine VO.call rfl rfl (fk Tryz.func47) (fun wa9 ka9 ba9 => (works05_any wa9).mono ?_)
      rintro e w9 ⟨rfl, hb9⟩
      skip
      refine ⟨_, rfl, hb9, fun kb9 _ bb9 => wV rfl ?_⟩
      (repeat (first | refine wN ?_ | refine wP rfl ?_ | refine cx_r rfl ?_ | refine cx_d (by kernel_rfl) rfl ?_ | refine wO rfl rfl ?_))
      refine VS.ret (cx_ok _ _) rfl rfl (fun wz kz bz => ?_)
      exact ⟨rfl, bz⟩
end Go.Proofs.YtkafabgcdlfhiaaGreat
