/- TimingKnown: what this statement's function answers. (Printed by gen18k.py.) -/
import Derived.Test.YtohlmpibnnkanaaGreatLaw18N
import Derived.Test.YtohlmpibnnkanaaGreatLaw18C
import Derived.Test.YtohlmpibnnkanaaGreatLaw18P
import Derived.Test.YtohlmpibnnkanaaGreatLaw18T
import Derived.Test.YtohlmpibnnkanaaGreatLaw18U
set_option linter.all false
set_option maxRecDepth 4000
namespace Go.Proofs.YtohlmpibnnkanaaGreat
open Go.RowKit
attribute [local irreducible] vcOps VS

theorem SlIn.sub {α : Type} {E : World → List Value → α → Prop} {sz : Nat} {w : World} {b n c z y : Nat} {es : List α} (h : SlIn E sz w (.slice (some ⟨b, 0, none⟩) n c) es) (hz : z ≤ y) (hy : y ≤ n) : SlIn E sz w (.slice (some ⟨b, z * sz, none⟩) (y - z) (c - z)) ((es.take y).drop z) := by
 obtain ⟨p, c', hv, h1, h2, h3⟩ := h
 simp only [Value.slice.injEq] at hv
 obtain ⟨rfl, rfl, rfl⟩ := hv
 refine ⟨_, _, by rw [List.length_drop, List.length_take, Nat.min_eq_left hy], by rw [List.length_drop, List.length_take, Nat.min_eq_left hy]; omega, by omega, fun i a ha => ?_⟩
 rw [List.getElem?_drop, List.getElem?_take] at ha
 split at ha
 ·obtain ⟨b', off, cs, hp, hc, he⟩ := h3 (z + i) a ha
  simp only [Option.some.injEq, Addr.mk.injEq, and_true] at hp
  obtain ⟨rfl, rfl⟩ := hp
  refine ⟨b, z * sz, cs, rfl, fun j u hj => ?_, he⟩
  have := hc j u hj
  rw [show 0 + (z + i) * sz + j = z * sz + i * sz + j by rw [Nat.add_mul]; omega] at this
  exact this
 ·cases ha
theorem SlIn.drop {α : Type} {E : World → List Value → α → Prop} {sz : Nat} {w : World} {b n c z : Nat} {es : List α} (h : SlIn E sz w (.slice (some ⟨b, 0, none⟩) n c) es) (hz : z ≤ n) : SlIn E sz w (.slice (some ⟨b, z * sz, none⟩) (n - z) (c - z)) (es.drop z) := by
 have := h.sub hz (Nat.le_refl n)
 obtain ⟨_, _, hv, _⟩ := h
 simp only [Value.slice.injEq] at hv
 rw [hv.2.1, List.take_length, ← hv.2.1] at this
 exact this
theorem kTT {w0 w w' : World} {N : Nat} (h : KpS (cxT Tryz.prog w0 N).K w w' := by (with_reducible (repeat (first | assumption | exact kU _ | exact kR _ | exact Kp.of (U := UU) (by assumption) | exact KpS.of (by assumption) | refine kT ?_ (by assumption))))) : Kp UU w w' := h.weak
structure Told (w : World) (b : Nat) (vs : List (List Value)) (es : List RExp) : Prop where
 cls : Cls w b 36 vs.flatten.toArray
 el : RowE (ExpE 2) w es vs
theorem Told.kp {w0 w w' : World} {N b : Nat} {vs : List (List Value)} {es : List RExp} (h : Told w b vs es) (k : KpS (cxT Tryz.prog w0 N).K w w' := by (with_reducible (repeat (first | assumption | exact kU _ | exact kR _ | exact Kp.of (U := UU) (by assumption) | exact KpS.of (by assumption) | refine kT ?_ (by assumption))))) : Told w' b vs es :=
 ⟨k.block _ b _ rfl trivial h.cls, h.el.kp (exp_ok 2) k.weak⟩
theorem Told.sl {w : World} {b n : Nat} {vs : List (List Value)} {es : List RExp} (h : Told w b vs es) (hn : n = vs.length) (hm : n ≤ 1000) : SlIn (ExpE 2) 6 w (.slice (some ⟨b, 0, none⟩) n n) es :=
 sl_of_cls (exp_ok 2) (spare := []) (vs := vs) (by rw [List.append_nil]; exact h.cls) h.el (by rw [hn]; exact h.el.len) (Nat.le_refl _) (by omega)
theorem told_at {w : World} {b i : Nat} {cs : List Value} {vs : List (List Value)} {es : List RExp} (h : Told w b vs es) (hi : vs[i]? = some cs) (_ : i < 1000) : ∀ j u, cs[j]? = some u → w.cell? ((⟨b, 0 + i * 6, none⟩ : Addr).add j) = some u := fun j u hj => by
 rw [Addr.add_mid, Nat.zero_add]
 refine h.cls.cell ?_
 have := h.el.cell (exp_ok 2) i cs hi j u hj
 rwa [List.getElem?_toArray]
theorem told_cells {w : World} {b : Nat} {cs : List Value} {vs : List (List Value)} {es : List RExp} (h : Told w b (cs :: vs) es) : ∀ j u, cs[j]? = some u → w.cell? ((⟨b, 0 + 0 * 6, none⟩ : Addr).add j) = some u := told_at (i := 0) h rfl (by decide)
set_option maxRecDepth 8000 in
set_option maxHeartbeats 32000000 in
theorem known18_any (w : World) : Calls Tryz.prog 9 #[] w fun o w' => o = .returned (.bool true) ∧ Beh w w' := by
 refine calm_enter (C := cxT Tryz.prog w _) (args := []) Tryz.func9 rfl Tryz.ntmps9 (Nat.le_of_ble_eq_true rfl) ?_
 (repeat first|refine wN ?_|refine wP rfl ?_|refine cxT_r rfl ?_|refine cxT_d rfl ?_|refine wO rfl rfl ?_)
 refine VS.loop (J := fun m L M w' => ∃ y : Int, -1 ≤ y ∧ y ≤ 5 ∧ m = (5 - y).toNat ∧ L = [(1, .val (.func (.func 41) #[] #[])), (2, .val (.int .i64 y))] ∧ M = []) 6 ⟨_, _, ?_, ?_, ?_, ?_, ⟨-1, by omega, by omega, rfl, rfl, rfl⟩⟩ ?_
 ·(repeat first|exact trivial|refine ⟨rfl, ?_⟩)
 ·(repeat first|exact trivial|refine ⟨rfl, ?_⟩)
 ·rfl
 ·(repeat first|exact trivial|refine ⟨ClosedC.lit rfl, ?_⟩|refine ⟨ClosedC.vals _, ?_⟩)
 rintro m L M w4 ⟨y, hy1, hy2, rfl, rfl, rfl⟩
 (repeat first|refine wN ?_|refine wP rfl ?_|refine cxT_r rfl ?_|refine cxT_d rfl ?_|refine wO rfl rfl ?_)
 by_cases hyl : y < 5
 ·refine VS.condY rfl (decide_eq_true hyl) ?_
  (repeat first|refine wN ?_|refine wP rfl ?_|refine cxT_r rfl ?_|refine cxT_d rfl ?_|refine wO rfl rfl ?_)
  refine VS.loop (J := fun m L M w' => ∃ n : Int, -1 ≤ n ∧ n ≤ 6 ∧ m = (6 - n).toNat ∧ L = [(1, .val (.func (.func 41) #[] #[])), (2, .val (.int .i64 y)), (3, .val (.int .i64 n))] ∧ M = []) 7 ⟨_, _, ?_, ?_, ?_, ?_, ⟨-1, by omega, by omega, rfl, rfl, rfl⟩⟩ ?_
  ·(repeat first|exact trivial|refine ⟨rfl, ?_⟩)
  ·(repeat first|exact trivial|refine ⟨rfl, ?_⟩)
  ·rfl
  ·(repeat first|exact trivial|refine ⟨ClosedC.lit rfl, ?_⟩|refine ⟨ClosedC.vals _, ?_⟩)
  rintro m L M w5 ⟨n, hn1, hn2, rfl, rfl, rfl⟩
  (repeat first|refine wN ?_|refine wP rfl ?_|refine cxT_r rfl ?_|refine cxT_d rfl ?_|refine wO rfl rfl ?_)
  by_cases hnl : n < 6
  ·refine VS.condY rfl (decide_eq_true hnl) ?_
   have hni : i64b n := (by unfold i64b; omega)
   have hyi : i64b y := (by unfold i64b; omega)
   have hyi1 : i64b (y + 1) := (by unfold i64b; omega)
   have e7 : IntKind.i64.wrap (IntKind.i64.wrap (y * 7) + n) = y * 7 + n := by rw [IntWalk.i64_in (y * 7) (by omega), IntWalk.i64_in _ (by omega)]
   have e8 : IntKind.i64.wrap (y + 1) = y + 1 := IntWalk.i64_in _ (by omega)
   (repeat first|refine wN ?_|refine wP rfl ?_|refine cxT_r rfl ?_|refine cxT_d rfl ?_|refine wO rfl rfl ?_)
   refine VO.call rfl rfl (fk Tryz.func41) (fun wa1 ka1 ba1 => (filBy_any (IntKind.i64.wrap (IntKind.i64.wrap (y * 7) + n)) 3 wa1 (by rw [e7]; omega) (by rw [e7]; omega) (by omega) (by omega)).mono ?_)
   rintro e w1 ⟨r1, rfl, q1, hb1⟩
   rw [e7] at q1; obtain ⟨s1, p1, n1, c1, t1, y1, m1, d1, rfl⟩ := q1.form
   refine ⟨_, rfl, hb1, fun kb1 _ bb1 => wV rfl ?_⟩
   (repeat first|refine wN ?_|refine wP rfl ?_|refine cxT_r rfl ?_|refine cxT_d rfl ?_|refine wO rfl rfl ?_)
   refine VO.call rfl rfl (fk Tryz.func41) (fun wa2 ka2 ba2 => (filBy_any (-9) 2 wa2 (by omega) (by omega) (by omega) (by omega)).mono ?_)
   rintro e w2 ⟨r2, rfl, q2, hb2⟩
   obtain ⟨s2, p2, n2, c2, t2, y2, m2, d2, rfl⟩ := q2.form
   refine ⟨_, rfl, hb2, fun kb2 _ bb2 => wV rfl ?_⟩
   (repeat first|refine wN ?_|refine wP rfl ?_|refine cxT_r rfl ?_|refine cxT_d rfl ?_|refine wO rfl rfl ?_)
   refine VO.call rfl rfl (fk Tryz.func41) (fun wa3 ka3 ba3 => (filBy_any 1 1 wa3 (by omega) (by omega) (by omega) (by omega)).mono ?_)
   rintro e w3 ⟨r3, rfl, q3, hb3⟩
   obtain ⟨s3, p3, n3, c3, t3, y3, m3, d3, rfl⟩ := q3.form
   refine ⟨_, rfl, hb3, fun kb3 _ bb3 => wV rfl ?_⟩
   (repeat first|refine wN ?_|refine wP rfl ?_|refine cxT_r rfl ?_|refine cxT_d rfl ?_|refine wO rfl rfl ?_)
   refine VO.fix 32 rfl (congrArg (fun z => AV.val (.int .i64 z)) (e8)) ?_
   (repeat first|refine wN ?_|refine wP rfl ?_|refine cxT_r rfl ?_|refine cxT_d rfl ?_|refine wO rfl rfl ?_)
   refine VO.call rfl rfl (fk Tryz.func41) (fun wa4 ka4 ba4 => (filBy_any 0 1 wa4 (by omega) (by omega) (by omega) (by omega)).mono ?_)
   rintro e w4 ⟨r4, rfl, q4, hb4⟩
   obtain ⟨s4, p4, n4, c4, t4, y4, m4, d4, rfl⟩ := q4.form
   refine ⟨_, rfl, hb4, fun kb4 _ bb4 => wV rfl ?_⟩
   (repeat first|refine wN ?_|refine wP rfl ?_|refine cxT_r rfl ?_|refine cxT_d rfl ?_|refine wO rfl rfl ?_)
   refine VO.litE (cxT_ok _ _) (sz := 6) [.agg #[.int .i64 y, .int .i64 n, .bool s1, .slice p1 n1 c1, .bool t1, .slice y1 m1 d1], .agg #[.int .i64 2, .int .i64 3, .bool s2, .slice p2 n2 c2, .bool t2, .slice y2 m2 d2], .agg #[.int .i64 0, .int .i64 40, .bool s3, .slice p3 n3 c3, .bool t3, .slice y3 m3 d3], .agg #[.int .i64 (y + 1), .int .i64 1, .bool s4, .slice p4 n4 c4, .bool t4, .slice y4 m4 d4]] [.int .i64 y, .int .i64 n, .bool s1, .slice p1 n1 c1, .bool t1, .slice y1 m1 d1, .int .i64 2, .int .i64 3, .bool s2, .slice p2 n2 c2, .bool t2, .slice y2 m2 d2, .int .i64 0, .int .i64 40, .bool s3, .slice p3 n3 c3, .bool t3, .slice y3 m3 d3, .int .i64 (y + 1), .int .i64 1, .bool s4, .slice p4 n4 c4, .bool t4, .slice y4 m4 d4] rfl rfl rfl rfl rfl rfl rfl rfl rfl rfl (by decide) (fun w7 b kb7 bb7 hB7 hc7 => wV rfl ?_)
   have hE1 : ExpE 2 w7 [.int .i64 y, .int .i64 n, .bool s1, .slice p1 n1 c1, .bool t1, .slice y1 m1 d1] (cexp y n (Rat.divInt (y * 7 + n) 3)) := cexp_E (q1.kp kTT).rd (i64_rsz (by omega) (by omega) (by omega) (by omega)) hyi hni
   have hE2 : ExpE 2 w7 [.int .i64 2, .int .i64 3, .bool s2, .slice p2 n2 c2, .bool t2, .slice y2 m2 d2] (cexp 2 3 (Rat.divInt (-9) 2)) := cexp_E (q2.kp kTT).rd (i64_rsz (by omega) (by omega) (by omega) (by omega)) (by unfold i64b; omega) (by unfold i64b; omega)
   have hE3 : ExpE 2 w7 [.int .i64 0, .int .i64 40, .bool s3, .slice p3 n3 c3, .bool t3, .slice y3 m3 d3] (cexp 0 40 (Rat.divInt 1 1)) := cexp_E (q3.kp kTT).rd (i64_rsz (by omega) (by omega) (by omega) (by omega)) (by unfold i64b; omega) (by unfold i64b; omega)
   have hE4 : ExpE 2 w7 [.int .i64 (y + 1), .int .i64 1, .bool s4, .slice p4 n4 c4, .bool t4, .slice y4 m4 d4] (cexp (y + 1) 1 (Rat.divInt 0 1)) := cexp_E (q4.kp kTT).rd (i64_rsz (by omega) (by omega) (by omega) (by omega)) hyi1 (by unfold i64b; omega)
   obtain ⟨es, hes⟩ : ∃ es : List RExp, es = [cexp y n (Rat.divInt (y * 7 + n) 3), cexp 2 3 (Rat.divInt (-9) 2), cexp 0 40 (Rat.divInt 1 1), cexp (y + 1) 1 (Rat.divInt 0 1)] := ⟨_, rfl⟩
   have hT : Told w7 b [[.int .i64 y, .int .i64 n, .bool s1, .slice p1 n1 c1, .bool t1, .slice y1 m1 d1], [.int .i64 2, .int .i64 3, .bool s2, .slice p2 n2 c2, .bool t2, .slice y2 m2 d2], [.int .i64 0, .int .i64 40, .bool s3, .slice p3 n3 c3, .bool t3, .slice y3 m3 d3], [.int .i64 (y + 1), .int .i64 1, .bool s4, .slice p4 n4 c4, .bool t4, .slice y4 m4 d4]] es := ⟨hc7, by rw [hes]; exact .cons hE1 (.cons hE2 (.cons hE3 (.cons hE4 .nil)))⟩
   (repeat first|refine wN ?_|refine wP rfl ?_|refine cxT_r rfl ?_|refine cxT_d rfl ?_|refine wO rfl rfl ?_)
   refine VS.loop (J := fun m L M w' => ∃ z : Int, -1 ≤ z ∧ z ≤ 9 ∧ m = (9 - z).toNat ∧ L = [(1, .val (.func (.func 41) #[] #[])), (2, .val (.int .i64 y)), (3, .val (.int .i64 n)), (4, .val (.slice (some ⟨b, 0, none⟩) 4 4)), (5, .val (.int .i64 z))] ∧ M = [] ∧ Told w' b [[.int .i64 y, .int .i64 n, .bool s1, .slice p1 n1 c1, .bool t1, .slice y1 m1 d1], [.int .i64 2, .int .i64 3, .bool s2, .slice p2 n2 c2, .bool t2, .slice y2 m2 d2], [.int .i64 0, .int .i64 40, .bool s3, .slice p3 n3 c3, .bool t3, .slice y3 m3 d3], [.int .i64 (y + 1), .int .i64 1, .bool s4, .slice p4 n4 c4, .bool t4, .slice y4 m4 d4]] es) 10 ⟨_, _, ?_, ?_, ?_, ?_, ⟨-1, by omega, by omega, rfl, rfl, rfl, hT⟩⟩ ?_
   ·(repeat first|exact trivial|refine ⟨rfl, ?_⟩)
   ·(repeat first|exact trivial|refine ⟨rfl, ?_⟩)
   ·rfl
   ·(repeat first|exact trivial|refine ⟨ClosedC.lit rfl, ?_⟩|refine ⟨ClosedC.vals _, ?_⟩)
   clear hT
   rintro m L M w6 ⟨z, hz1, hz2, rfl, rfl, rfl, hT⟩
   (repeat first|refine wN ?_|refine wP rfl ?_|refine cxT_r rfl ?_|refine cxT_d rfl ?_|refine wO rfl rfl ?_)
   by_cases hzl : z < 9
   ·refine VS.condY rfl (decide_eq_true hzl) ?_
    have hzi : i64b z := (by unfold i64b; omega)
    (repeat first|refine wN ?_|refine wP rfl ?_|refine cxT_r rfl ?_|refine cxT_d rfl ?_|refine wO rfl rfl ?_)
    refine VO.call rfl rfl (fk Tryz.func5) (fun wa5 ka5 ba5 => (tells18_any _ es z 2 wa5 (hT.kp.sl (n := 4) rfl (by decide)) hzi).mono ?_)
    rintro e w5 ⟨rfl, hb5⟩
    skip
    refine ⟨_, rfl, hb5, fun kb5 _ bb5 => wV rfl ?_⟩
    (repeat first|refine wN ?_|refine wP rfl ?_|refine cxT_r rfl ?_|refine cxT_d rfl ?_|refine wO rfl rfl ?_)
    refine VO.cond rfl ⟨by decide, by decide, by decide, by decide⟩ (wV rfl ?_)
    (repeat first|refine wN ?_|refine wP rfl ?_|refine cxT_r rfl ?_|refine cxT_d rfl ?_|refine wO rfl rfl ?_)
    refine VO.call rfl rfl (fk Tryz.func5) (fun wa6 ka6 ba6 => (tells18_any _ (es.drop 1) z 2 wa6 ((hT.kp.sl (n := 4) rfl (by decide)).drop (z := 1) (by decide)) hzi).mono ?_)
    rintro e w6 ⟨rfl, hb6⟩
    skip
    refine ⟨_, rfl, hb6, fun kb6 _ bb6 => wV rfl ?_⟩
    (repeat first|refine wN ?_|refine wP rfl ?_|refine cxT_r rfl ?_|refine cxT_d rfl ?_|refine wO rfl rfl ?_)
    refine VO.cond rfl ⟨by decide, by decide, by decide, by decide⟩ (wV rfl ?_)
    (repeat first|refine wN ?_|refine wP rfl ?_|refine cxT_r rfl ?_|refine cxT_d rfl ?_|refine wO rfl rfl ?_)
    refine VO.call rfl rfl (fk Tryz.func41) (fun wa7 ka7 ba7 => (filBy_any z 2 wa7 (by omega) (by omega) (by omega) (by omega)).mono ?_)
    rintro e w7 ⟨r7, rfl, q7, hb7⟩
    obtain ⟨s7, p7, n7, c7, t7, y7, m7, d7, rfl⟩ := q7.form
    refine ⟨_, rfl, hb7, fun kb7 _ bb7 => wV rfl ?_⟩
    (repeat first|refine wN ?_|refine wP rfl ?_|refine cxT_r rfl ?_|refine cxT_d rfl ?_|refine wO rfl rfl ?_)
    refine VO.call rfl rfl (fk Tryz.func4) (fun wa8 ka8 ba8 => (turns18_any _ _ (es.drop 1) n z _ _ _ _ 2 wa8 ((hT.kp.sl (n := 4) rfl (by decide)).drop (z := 1) (by decide)) (q7.kp kTT).rd.raw hni hzi).mono ?_)
    rintro e w8 ⟨rfl, hb8⟩
    skip
    refine ⟨_, rfl, hb8, fun kb8 _ bb8 => wV rfl ?_⟩
    (repeat first|refine wN ?_|refine wP rfl ?_|refine cxT_r rfl ?_|refine cxT_d rfl ?_|refine wO rfl rfl ?_)
    refine VS.back (9 - (z + 1)).toNat (by omega) ⟨_, _, ?_, ?_, ?_, ?_, ⟨z + 1, by omega, by omega, rfl, rfl, rfl, hT.kp⟩⟩
    ·refine ⟨rfl, rfl, rfl, rfl, ?_, trivial⟩
     exact congrArg (fun z => some (AV.val (.int .i64 z))) (IntWalk.i64_in (z + 1) (by omega))
    ·(repeat first|exact trivial|refine ⟨rfl, ?_⟩)
    ·rfl
    ·(repeat first|exact trivial|refine ⟨ClosedC.lit rfl, ?_⟩|refine ⟨ClosedC.vals _, ?_⟩)
   refine VS.condN rfl (decide_eq_false hzl) ?_
   (repeat first|refine wN ?_|refine wP rfl ?_|refine cxT_r rfl ?_|refine cxT_d rfl ?_|refine wO rfl rfl ?_)
   obtain ⟨x1, hX1⟩ : ∃ x, ExpE 2 w6 [.int .i64 y, .int .i64 n, .bool s1, .slice p1 n1 c1, .bool t1, .slice y1 m1 d1] x := by
    have h := hT.el
    cases h with
    | cons h _ => exact ⟨_, h⟩
   (repeat first|refine wN ?_|refine wP rfl ?_|refine cxT_r rfl ?_|refine cxT_d rfl ?_|refine wO rfl rfl ?_)
   refine VO.cond rfl ⟨by omega, by omega⟩ ?_
   refine wV rfl ?_
   (repeat first|refine wN ?_|refine wP rfl ?_|refine cxT_r rfl ?_|refine cxT_d rfl ?_|refine wO rfl rfl ?_)
   refine VO.readNow rfl [.int .i64 y, .int .i64 n, .bool s1, .slice p1 n1 c1, .bool t1, .slice y1 m1 d1] rfl (fun w1 k1 b1 => told_cells (hT.kp (KpS.thn (by (with_reducible (repeat (first | assumption | exact kU _ | exact kR _ | exact Kp.of (U := UU) (by assumption) | exact KpS.of (by assumption) | refine kT ?_ (by assumption))))) k1))) (wV rfl ?_)
   (repeat first|refine wN ?_|refine wP rfl ?_|refine cxT_r rfl ?_|refine cxT_d rfl ?_|refine wO rfl rfl ?_)
   refine VO.call rfl rfl (fk Tryz.func6) (fun wa9 ka9 ba9 => (puts18_any _ _ es _ 2 wa9 (hT.kp.sl (n := 4) rfl (by decide)) ⟨_, rfl, hX1.kp kTT⟩).mono ?_)
   rintro e w9 ⟨rfl, hb9⟩
   skip
   refine ⟨_, rfl, hb9, fun kb9 _ bb9 => wV rfl ?_⟩
   (repeat first|refine wN ?_|refine wP rfl ?_|refine cxT_r rfl ?_|refine cxT_d rfl ?_|refine wO rfl rfl ?_)
   refine VO.call rfl rfl (fk Tryz.func3) (fun wa10 ka10 ba10 => (all18_any _ es 2 wa10 (hT.kp.sl (n := 4) rfl (by decide))).mono ?_)
   rintro e w10 ⟨rfl, hb10⟩
   skip
   refine ⟨_, rfl, hb10, fun kb10 _ bb10 => wV rfl ?_⟩
   (repeat first|refine wN ?_|refine wP rfl ?_|refine cxT_r rfl ?_|refine cxT_d rfl ?_|refine wO rfl rfl ?_)
   refine VO.cond rfl ⟨by decide, by decide, by decide, by decide⟩ (wV rfl ?_)
   (repeat first|refine wN ?_|refine wP rfl ?_|refine cxT_r rfl ?_|refine cxT_d rfl ?_|refine wO rfl rfl ?_)
   refine VO.call rfl rfl (fk Tryz.func3) (fun wa11 ka11 ba11 => (all18_any _ (es.drop 1) 2 wa11 ((hT.kp.sl (n := 4) rfl (by decide)).drop (z := 1) (by decide))).mono ?_)
   rintro e w11 ⟨rfl, hb11⟩
   skip
   refine ⟨_, rfl, hb11, fun kb11 _ bb11 => wV rfl ?_⟩
   (repeat first|refine wN ?_|refine wP rfl ?_|refine cxT_r rfl ?_|refine cxT_d rfl ?_|refine wO rfl rfl ?_)
   refine VO.cond rfl ⟨by omega, by omega⟩ ?_
   refine wV rfl ?_
   (repeat first|refine wN ?_|refine wP rfl ?_|refine cxT_r rfl ?_|refine cxT_d rfl ?_|refine wO rfl rfl ?_)
   refine VO.readNow rfl [.int .i64 y, .int .i64 n, .bool s1, .slice p1 n1 c1, .bool t1, .slice y1 m1 d1] rfl (fun w1 k1 b1 => told_cells (hT.kp (KpS.thn (by (with_reducible (repeat (first | assumption | exact kU _ | exact kR _ | exact Kp.of (U := UU) (by assumption) | exact KpS.of (by assumption) | refine kT ?_ (by assumption))))) k1))) (wV rfl ?_)
   (repeat first|refine wN ?_|refine wP rfl ?_|refine cxT_r rfl ?_|refine cxT_d rfl ?_|refine wO rfl rfl ?_)
   refine VO.call rfl rfl (fk Tryz.func7) (fun wa12 ka12 ba12 => (none18_any _ _ 2 wa12 ⟨_, rfl, hX1.kp kTT⟩).mono ?_)
   rintro e w12 ⟨rfl, hb12⟩
   skip
   refine ⟨_, rfl, hb12, fun kb12 _ bb12 => wV rfl ?_⟩
   (repeat first|refine wN ?_|refine wP rfl ?_|refine cxT_r rfl ?_|refine cxT_d rfl ?_|refine wO rfl rfl ?_)
   refine VS.back (6 - (n + 1)).toNat (by omega) ⟨_, _, ?_, ?_, ?_, ?_, ⟨n + 1, by omega, by omega, rfl, rfl, rfl⟩⟩
   ·refine ⟨rfl, rfl, ?_, trivial⟩
    exact congrArg (fun z => some (AV.val (.int .i64 z))) (IntWalk.i64_in (n + 1) (by omega))
   ·(repeat first|exact trivial|refine ⟨rfl, ?_⟩)
   ·rfl
   ·(repeat first|exact trivial|refine ⟨ClosedC.lit rfl, ?_⟩|refine ⟨ClosedC.vals _, ?_⟩)
  refine VS.condN rfl (decide_eq_false hnl) ?_
  (repeat first|refine wN ?_|refine wP rfl ?_|refine cxT_r rfl ?_|refine cxT_d rfl ?_|refine wO rfl rfl ?_)
  refine VS.back (5 - (y + 1)).toNat (by omega) ⟨_, _, ?_, ?_, ?_, ?_, ⟨y + 1, by omega, by omega, rfl, rfl, rfl⟩⟩
  ·refine ⟨rfl, ?_, trivial⟩
   exact congrArg (fun z => some (AV.val (.int .i64 z))) (IntWalk.i64_in (y + 1) (by omega))
  ·(repeat first|exact trivial|refine ⟨rfl, ?_⟩)
  ·rfl
  ·(repeat first|exact trivial|refine ⟨ClosedC.lit rfl, ?_⟩|refine ⟨ClosedC.vals _, ?_⟩)
 refine VS.condN rfl (decide_eq_false hyl) ?_
 (repeat first|refine wN ?_|refine wP rfl ?_|refine cxT_r rfl ?_|refine cxT_d rfl ?_|refine wO rfl rfl ?_)
 refine VO.call rfl rfl (fk Tryz.func41) (fun wa21 ka21 ba21 => (filBy_any 1 1 wa21 (by omega) (by omega) (by omega) (by omega)).mono ?_)
 rintro e w21 ⟨r21, rfl, q21, hb21⟩
 obtain ⟨s21, p21, n21, c21, t21, y21, m21, d21, rfl⟩ := q21.form
 refine ⟨_, rfl, hb21, fun kb21 _ bb21 => wV rfl ?_⟩
 (repeat first|refine wN ?_|refine wP rfl ?_|refine cxT_r rfl ?_|refine cxT_d rfl ?_|refine wO rfl rfl ?_)
 refine VO.call rfl rfl (fk Tryz.func41) (fun wa22 ka22 ba22 => (filBy_any 1 1 wa22 (by omega) (by omega) (by omega) (by omega)).mono ?_)
 rintro e w22 ⟨r22, rfl, q22, hb22⟩
 obtain ⟨s22, p22, n22, c22, t22, y22, m22, d22, rfl⟩ := q22.form
 refine ⟨_, rfl, hb22, fun kb22 _ bb22 => wV rfl ?_⟩
 (repeat first|refine wN ?_|refine wP rfl ?_|refine cxT_r rfl ?_|refine cxT_d rfl ?_|refine wO rfl rfl ?_)
 refine VO.call rfl rfl (fk Tryz.func41) (fun wa23 ka23 ba23 => (filBy_any 1 1 wa23 (by omega) (by omega) (by omega) (by omega)).mono ?_)
 rintro e w23 ⟨r23, rfl, q23, hb23⟩
 obtain ⟨s23, p23, n23, c23, t23, y23, m23, d23, rfl⟩ := q23.form
 refine ⟨_, rfl, hb23, fun kb23 _ bb23 => wV rfl ?_⟩
 (repeat first|refine wN ?_|refine wP rfl ?_|refine cxT_r rfl ?_|refine cxT_d rfl ?_|refine wO rfl rfl ?_)
 refine VO.call rfl rfl (fk Tryz.func41) (fun wa24 ka24 ba24 => (filBy_any 1 1 wa24 (by omega) (by omega) (by omega) (by omega)).mono ?_)
 rintro e w24 ⟨r24, rfl, q24, hb24⟩
 obtain ⟨s24, p24, n24, c24, t24, y24, m24, d24, rfl⟩ := q24.form
 refine ⟨_, rfl, hb24, fun kb24 _ bb24 => wV rfl ?_⟩
 (repeat first|refine wN ?_|refine wP rfl ?_|refine cxT_r rfl ?_|refine cxT_d rfl ?_|refine wO rfl rfl ?_)
 refine VO.litE (cxT_ok _ _) (sz := 6) [.agg #[.int .i64 0, .int .i64 41, .bool s21, .slice p21 n21 c21, .bool t21, .slice y21 m21 d21], .agg #[.int .i64 10000, .int .i64 1, .bool s22, .slice p22 n22 c22, .bool t22, .slice y22 m22 d22], .agg #[.int .i64 9999, .int .i64 1, .bool s23, .slice p23 n23 c23, .bool t23, .slice y23 m23 d23], .agg #[.int .i64 0, .int .i64 1, .bool false, .slice none 0 0, .bool false, .slice none 0 0], .agg #[.int .i64 4611686018427387904, .int .i64 4611686018427387904, .bool s24, .slice p24 n24 c24, .bool t24, .slice y24 m24 d24]] [.int .i64 0, .int .i64 41, .bool s21, .slice p21 n21 c21, .bool t21, .slice y21 m21 d21, .int .i64 10000, .int .i64 1, .bool s22, .slice p22 n22 c22, .bool t22, .slice y22 m22 d22, .int .i64 9999, .int .i64 1, .bool s23, .slice p23 n23 c23, .bool t23, .slice y23 m23 d23, .int .i64 0, .int .i64 1, .bool false, .slice none 0 0, .bool false, .slice none 0 0, .int .i64 4611686018427387904, .int .i64 4611686018427387904, .bool s24, .slice p24 n24 c24, .bool t24, .slice y24 m24 d24] rfl rfl rfl rfl rfl rfl rfl rfl rfl rfl (by decide) (fun w25 b kb25 bb25 hB25 hc25 => wV rfl ?_)
 have hO0 : ExpE 2 w25 [.int .i64 0, .int .i64 41, .bool s21, .slice p21 n21 c21, .bool t21, .slice y21 m21 d21] (cexp 0 41 (Rat.divInt 1 1)) := cexp_E (q21.kp kTT).rd (i64_rsz (by omega) (by omega) (by omega) (by omega)) (by unfold i64b; omega) (by unfold i64b; omega)
 have hO1 : ExpE 2 w25 [.int .i64 10000, .int .i64 1, .bool s22, .slice p22 n22 c22, .bool t22, .slice y22 m22 d22] (cexp 10000 1 (Rat.divInt 1 1)) := cexp_E (q22.kp kTT).rd (i64_rsz (by omega) (by omega) (by omega) (by omega)) (by unfold i64b; omega) (by unfold i64b; omega)
 have hO2 : ExpE 2 w25 [.int .i64 9999, .int .i64 1, .bool s23, .slice p23 n23 c23, .bool t23, .slice y23 m23 d23] (cexp 9999 1 (Rat.divInt 1 1)) := cexp_E (q23.kp kTT).rd (i64_rsz (by omega) (by omega) (by omega) (by omega)) (by unfold i64b; omega) (by unfold i64b; omega)
 have hO3 : ExpE 2 w25 [.int .i64 0, .int .i64 1, .bool false, .slice none 0 0, .bool false, .slice none 0 0] ((0, 1, false, [], false, [])) := ⟨none, 0, none, 0, rfl, (show i64b 0 by unfold i64b; omega), (show i64b 1 by unfold i64b; omega), ⟨none, 0, none, 0, rfl, ⟨none, 0, rfl, Rd.nil _ _, Lim.nil⟩, ⟨none, 0, rfl, Rd.nil _ _, Lim.nil⟩⟩, Nat.zero_le _, Nat.zero_le _⟩
 have hO4 : ExpE 2 w25 [.int .i64 4611686018427387904, .int .i64 4611686018427387904, .bool s24, .slice p24 n24 c24, .bool t24, .slice y24 m24 d24] (cexp 4611686018427387904 4611686018427387904 (Rat.divInt 1 1)) := cexp_E (q24.kp kTT).rd (i64_rsz (by omega) (by omega) (by omega) (by omega)) (by unfold i64b; omega) (by unfold i64b; omega)
 obtain ⟨os, hos⟩ : ∃ es : List RExp, es = [cexp 0 41 (Rat.divInt 1 1), cexp 10000 1 (Rat.divInt 1 1), cexp 9999 1 (Rat.divInt 1 1), (0, 1, false, [], false, []), cexp 4611686018427387904 4611686018427387904 (Rat.divInt 1 1)] := ⟨_, rfl⟩
 have hT : Told w25 b [[.int .i64 0, .int .i64 41, .bool s21, .slice p21 n21 c21, .bool t21, .slice y21 m21 d21], [.int .i64 10000, .int .i64 1, .bool s22, .slice p22 n22 c22, .bool t22, .slice y22 m22 d22], [.int .i64 9999, .int .i64 1, .bool s23, .slice p23 n23 c23, .bool t23, .slice y23 m23 d23], [.int .i64 0, .int .i64 1, .bool false, .slice none 0 0, .bool false, .slice none 0 0], [.int .i64 4611686018427387904, .int .i64 4611686018427387904, .bool s24, .slice p24 n24 c24, .bool t24, .slice y24 m24 d24]] os := ⟨hc25, by rw [hos]; exact .cons hO0 (.cons hO1 (.cons hO2 (.cons hO3 (.cons hO4 .nil))))⟩
 (repeat first|refine wN ?_|refine wP rfl ?_|refine cxT_r rfl ?_|refine cxT_d rfl ?_|refine wO rfl rfl ?_)
 refine VS.loop (J := fun m L M w' => ∃ i : Nat, i ≤ 5 ∧ m = 5 - i ∧ L = [(1, .val (.func (.func 41) #[] #[])), (6, .val (.slice (some ⟨b, 0, none⟩) 5 5)), (7, .val (.int .i64 (i : Int)))] ∧ M = [] ∧ Told w' b [[.int .i64 0, .int .i64 41, .bool s21, .slice p21 n21 c21, .bool t21, .slice y21 m21 d21], [.int .i64 10000, .int .i64 1, .bool s22, .slice p22 n22 c22, .bool t22, .slice y22 m22 d22], [.int .i64 9999, .int .i64 1, .bool s23, .slice p23 n23 c23, .bool t23, .slice y23 m23 d23], [.int .i64 0, .int .i64 1, .bool false, .slice none 0 0, .bool false, .slice none 0 0], [.int .i64 4611686018427387904, .int .i64 4611686018427387904, .bool s24, .slice p24 n24 c24, .bool t24, .slice y24 m24 d24]] os ∧ ExpE 2 w' [.int .i64 0, .int .i64 41, .bool s21, .slice p21 n21 c21, .bool t21, .slice y21 m21 d21] (cexp 0 41 (Rat.divInt 1 1)) ∧ ExpE 2 w' [.int .i64 10000, .int .i64 1, .bool s22, .slice p22 n22 c22, .bool t22, .slice y22 m22 d22] (cexp 10000 1 (Rat.divInt 1 1)) ∧ ExpE 2 w' [.int .i64 9999, .int .i64 1, .bool s23, .slice p23 n23 c23, .bool t23, .slice y23 m23 d23] (cexp 9999 1 (Rat.divInt 1 1)) ∧ ExpE 2 w' [.int .i64 0, .int .i64 1, .bool false, .slice none 0 0, .bool false, .slice none 0 0] ((0, 1, false, [], false, [])) ∧ ExpE 2 w' [.int .i64 4611686018427387904, .int .i64 4611686018427387904, .bool s24, .slice p24 n24 c24, .bool t24, .slice y24 m24 d24] (cexp 4611686018427387904 4611686018427387904 (Rat.divInt 1 1))) 5 ⟨_, _, ?_, ?_, ?_, ?_, ⟨0, by omega, rfl, rfl, rfl, hT, hO0, hO1, hO2, hO3, hO4⟩⟩ ?_
 ·(repeat first|exact trivial|refine ⟨rfl, ?_⟩)
 ·(repeat first|exact trivial|refine ⟨rfl, ?_⟩)
 ·rfl
 ·(repeat first|exact trivial|refine ⟨ClosedC.lit rfl, ?_⟩|refine ⟨ClosedC.vals _, ?_⟩)
 clear hT hO0 hO1 hO2 hO3 hO4
 rintro m L M w30 ⟨i, hi, rfl, rfl, rfl, hT, hO0, hO1, hO2, hO3, hO4⟩
 rcases (by omega : i = 0 ∨ i = 1 ∨ i = 2 ∨ i = 3 ∨ i = 4 ∨ i = 5) with rfl | rfl | rfl | rfl | rfl | rfl
 ·(repeat first|refine wN ?_|refine wP rfl ?_|refine cxT_r rfl ?_|refine cxT_d rfl ?_|refine wO rfl rfl ?_)
  refine VO.cond rfl ⟨by decide, by decide, by decide, by decide⟩ (wV rfl ?_)
  (repeat first|refine wN ?_|refine wP rfl ?_|refine cxT_r rfl ?_|refine cxT_d rfl ?_|refine wO rfl rfl ?_)
  refine VO.call rfl rfl (fk Tryz.func5) (fun wa31 ka31 ba31 => (tells18_any _ ((os.take 1).drop 0) 10000 2 wa31 ((hT.kp.sl (n := 5) rfl (by decide)).sub (z := 0) (y := 1) (by decide) (by decide)) (by unfold i64b; omega)).mono ?_)
  rintro e w31 ⟨rfl, hb31⟩
  skip
  refine ⟨_, rfl, hb31, fun kb31 _ bb31 => wV rfl ?_⟩
  (repeat first|refine wN ?_|refine wP rfl ?_|refine cxT_r rfl ?_|refine cxT_d rfl ?_|refine wO rfl rfl ?_)
  refine VO.cond rfl ⟨by decide, by decide, by decide, by decide⟩ (wV rfl ?_)
  (repeat first|refine wN ?_|refine wP rfl ?_|refine cxT_r rfl ?_|refine cxT_d rfl ?_|refine wO rfl rfl ?_)
  refine VO.call rfl rfl (fk Tryz.func5) (fun wa32 ka32 ba32 => (tells18_any _ (os.drop 0) (-9223372036854775808) 2 wa32 ((hT.kp.sl (n := 5) rfl (by decide)).drop (z := 0) (by decide)) (by unfold i64b; omega)).mono ?_)
  rintro e w32 ⟨rfl, hb32⟩
  skip
  refine ⟨_, rfl, hb32, fun kb32 _ bb32 => wV rfl ?_⟩
  (repeat first|refine wN ?_|refine wP rfl ?_|refine cxT_r rfl ?_|refine cxT_d rfl ?_|refine wO rfl rfl ?_)
  refine VO.cond rfl ⟨by omega, by omega⟩ ?_
  refine wV rfl ?_
  (repeat first|refine wN ?_|refine wP rfl ?_|refine cxT_r rfl ?_|refine cxT_d rfl ?_|refine wO rfl rfl ?_)
  refine VO.readNow rfl [.int .i64 0, .int .i64 41, .bool s21, .slice p21 n21 c21, .bool t21, .slice y21 m21 d21] rfl (fun w1 k1 b1 => told_at (i := 0) (hT.kp (KpS.thn (by (with_reducible (repeat (first | assumption | exact kU _ | exact kR _ | exact Kp.of (U := UU) (by assumption) | exact KpS.of (by assumption) | refine kT ?_ (by assumption))))) k1)) rfl (by decide)) (wV rfl ?_)
  (repeat first|refine wN ?_|refine wP rfl ?_|refine cxT_r rfl ?_|refine cxT_d rfl ?_|refine wO rfl rfl ?_)
  refine VO.call rfl rfl (fk Tryz.func6) (fun wa33 ka33 ba33 => (puts18_any _ _ os _ 2 wa33 (hT.kp.sl (n := 5) rfl (by decide)) ⟨_, rfl, hO0.kp kTT⟩).mono ?_)
  rintro e w33 ⟨rfl, hb33⟩
  skip
  refine ⟨_, rfl, hb33, fun kb33 _ bb33 => wV rfl ?_⟩
  (repeat first|refine wN ?_|refine wP rfl ?_|refine cxT_r rfl ?_|refine cxT_d rfl ?_|refine wO rfl rfl ?_)
  refine VO.cond rfl ⟨by decide, by decide, by decide, by decide⟩ (wV rfl ?_)
  (repeat first|refine wN ?_|refine wP rfl ?_|refine cxT_r rfl ?_|refine cxT_d rfl ?_|refine wO rfl rfl ?_)
  refine VO.call rfl rfl (fk Tryz.func5) (fun wa34 ka34 ba34 => (tells18_any _ ((os.take 3).drop 2) 9223372036854775807 2 wa34 ((hT.kp.sl (n := 5) rfl (by decide)).sub (z := 2) (y := 3) (by decide) (by decide)) (by unfold i64b; omega)).mono ?_)
  rintro e w34 ⟨rfl, hb34⟩
  skip
  refine ⟨_, rfl, hb34, fun kb34 _ bb34 => wV rfl ?_⟩
  (repeat first|refine wN ?_|refine wP rfl ?_|refine cxT_r rfl ?_|refine cxT_d rfl ?_|refine wO rfl rfl ?_)
  refine VS.back (5 - (0 + 1)) (by omega) ⟨_, _, ?_, ?_, ?_, ?_, ⟨0 + 1, by omega, rfl, rfl, rfl, hT.kp, hO0.kp kTT, hO1.kp kTT, hO2.kp kTT, hO3.kp kTT, hO4.kp kTT⟩⟩
  ·refine ⟨rfl, rfl, ?_, trivial⟩
   rw [← nat_step (i := 0) (by omega)]; rfl
  ·(repeat first|exact trivial|refine ⟨rfl, ?_⟩)
  ·rfl
  ·(repeat first|exact trivial|refine ⟨ClosedC.lit rfl, ?_⟩|refine ⟨ClosedC.vals _, ?_⟩)
 ·(repeat first|refine wN ?_|refine wP rfl ?_|refine cxT_r rfl ?_|refine cxT_d rfl ?_|refine wO rfl rfl ?_)
  refine VO.cond rfl ⟨by decide, by decide, by decide, by decide⟩ (wV rfl ?_)
  (repeat first|refine wN ?_|refine wP rfl ?_|refine cxT_r rfl ?_|refine cxT_d rfl ?_|refine wO rfl rfl ?_)
  refine VO.call rfl rfl (fk Tryz.func5) (fun wa31 ka31 ba31 => (tells18_any _ ((os.take 2).drop 1) 10000 2 wa31 ((hT.kp.sl (n := 5) rfl (by decide)).sub (z := 1) (y := 2) (by decide) (by decide)) (by unfold i64b; omega)).mono ?_)
  rintro e w31 ⟨rfl, hb31⟩
  skip
  refine ⟨_, rfl, hb31, fun kb31 _ bb31 => wV rfl ?_⟩
  (repeat first|refine wN ?_|refine wP rfl ?_|refine cxT_r rfl ?_|refine cxT_d rfl ?_|refine wO rfl rfl ?_)
  refine VO.cond rfl ⟨by decide, by decide, by decide, by decide⟩ (wV rfl ?_)
  (repeat first|refine wN ?_|refine wP rfl ?_|refine cxT_r rfl ?_|refine cxT_d rfl ?_|refine wO rfl rfl ?_)
  refine VO.call rfl rfl (fk Tryz.func5) (fun wa32 ka32 ba32 => (tells18_any _ (os.drop 1) (-9223372036854775808) 2 wa32 ((hT.kp.sl (n := 5) rfl (by decide)).drop (z := 1) (by decide)) (by unfold i64b; omega)).mono ?_)
  rintro e w32 ⟨rfl, hb32⟩
  skip
  refine ⟨_, rfl, hb32, fun kb32 _ bb32 => wV rfl ?_⟩
  (repeat first|refine wN ?_|refine wP rfl ?_|refine cxT_r rfl ?_|refine cxT_d rfl ?_|refine wO rfl rfl ?_)
  refine VO.cond rfl ⟨by omega, by omega⟩ ?_
  refine wV rfl ?_
  (repeat first|refine wN ?_|refine wP rfl ?_|refine cxT_r rfl ?_|refine cxT_d rfl ?_|refine wO rfl rfl ?_)
  refine VO.readNow rfl [.int .i64 10000, .int .i64 1, .bool s22, .slice p22 n22 c22, .bool t22, .slice y22 m22 d22] rfl (fun w1 k1 b1 => told_at (i := 1) (hT.kp (KpS.thn (by (with_reducible (repeat (first | assumption | exact kU _ | exact kR _ | exact Kp.of (U := UU) (by assumption) | exact KpS.of (by assumption) | refine kT ?_ (by assumption))))) k1)) rfl (by decide)) (wV rfl ?_)
  (repeat first|refine wN ?_|refine wP rfl ?_|refine cxT_r rfl ?_|refine cxT_d rfl ?_|refine wO rfl rfl ?_)
  refine VO.call rfl rfl (fk Tryz.func6) (fun wa33 ka33 ba33 => (puts18_any _ _ os _ 2 wa33 (hT.kp.sl (n := 5) rfl (by decide)) ⟨_, rfl, hO1.kp kTT⟩).mono ?_)
  rintro e w33 ⟨rfl, hb33⟩
  skip
  refine ⟨_, rfl, hb33, fun kb33 _ bb33 => wV rfl ?_⟩
  (repeat first|refine wN ?_|refine wP rfl ?_|refine cxT_r rfl ?_|refine cxT_d rfl ?_|refine wO rfl rfl ?_)
  refine VO.cond rfl ⟨by decide, by decide, by decide, by decide⟩ (wV rfl ?_)
  (repeat first|refine wN ?_|refine wP rfl ?_|refine cxT_r rfl ?_|refine cxT_d rfl ?_|refine wO rfl rfl ?_)
  refine VO.call rfl rfl (fk Tryz.func5) (fun wa34 ka34 ba34 => (tells18_any _ ((os.take 3).drop 2) 9223372036854775807 2 wa34 ((hT.kp.sl (n := 5) rfl (by decide)).sub (z := 2) (y := 3) (by decide) (by decide)) (by unfold i64b; omega)).mono ?_)
  rintro e w34 ⟨rfl, hb34⟩
  skip
  refine ⟨_, rfl, hb34, fun kb34 _ bb34 => wV rfl ?_⟩
  (repeat first|refine wN ?_|refine wP rfl ?_|refine cxT_r rfl ?_|refine cxT_d rfl ?_|refine wO rfl rfl ?_)
  refine VS.back (5 - (1 + 1)) (by omega) ⟨_, _, ?_, ?_, ?_, ?_, ⟨1 + 1, by omega, rfl, rfl, rfl, hT.kp, hO0.kp kTT, hO1.kp kTT, hO2.kp kTT, hO3.kp kTT, hO4.kp kTT⟩⟩
  ·refine ⟨rfl, rfl, ?_, trivial⟩
   rw [← nat_step (i := 1) (by omega)]; rfl
  ·(repeat first|exact trivial|refine ⟨rfl, ?_⟩)
  ·rfl
  ·(repeat first|exact trivial|refine ⟨ClosedC.lit rfl, ?_⟩|refine ⟨ClosedC.vals _, ?_⟩)
 ·(repeat first|refine wN ?_|refine wP rfl ?_|refine cxT_r rfl ?_|refine cxT_d rfl ?_|refine wO rfl rfl ?_)
  refine VO.cond rfl ⟨by decide, by decide, by decide, by decide⟩ (wV rfl ?_)
  (repeat first|refine wN ?_|refine wP rfl ?_|refine cxT_r rfl ?_|refine cxT_d rfl ?_|refine wO rfl rfl ?_)
  refine VO.call rfl rfl (fk Tryz.func5) (fun wa31 ka31 ba31 => (tells18_any _ ((os.take 3).drop 2) 10000 2 wa31 ((hT.kp.sl (n := 5) rfl (by decide)).sub (z := 2) (y := 3) (by decide) (by decide)) (by unfold i64b; omega)).mono ?_)
  rintro e w31 ⟨rfl, hb31⟩
  skip
  refine ⟨_, rfl, hb31, fun kb31 _ bb31 => wV rfl ?_⟩
  (repeat first|refine wN ?_|refine wP rfl ?_|refine cxT_r rfl ?_|refine cxT_d rfl ?_|refine wO rfl rfl ?_)
  refine VO.cond rfl ⟨by decide, by decide, by decide, by decide⟩ (wV rfl ?_)
  (repeat first|refine wN ?_|refine wP rfl ?_|refine cxT_r rfl ?_|refine cxT_d rfl ?_|refine wO rfl rfl ?_)
  refine VO.call rfl rfl (fk Tryz.func5) (fun wa32 ka32 ba32 => (tells18_any _ (os.drop 2) (-9223372036854775808) 2 wa32 ((hT.kp.sl (n := 5) rfl (by decide)).drop (z := 2) (by decide)) (by unfold i64b; omega)).mono ?_)
  rintro e w32 ⟨rfl, hb32⟩
  skip
  refine ⟨_, rfl, hb32, fun kb32 _ bb32 => wV rfl ?_⟩
  (repeat first|refine wN ?_|refine wP rfl ?_|refine cxT_r rfl ?_|refine cxT_d rfl ?_|refine wO rfl rfl ?_)
  refine VO.cond rfl ⟨by omega, by omega⟩ ?_
  refine wV rfl ?_
  (repeat first|refine wN ?_|refine wP rfl ?_|refine cxT_r rfl ?_|refine cxT_d rfl ?_|refine wO rfl rfl ?_)
  refine VO.readNow rfl [.int .i64 9999, .int .i64 1, .bool s23, .slice p23 n23 c23, .bool t23, .slice y23 m23 d23] rfl (fun w1 k1 b1 => told_at (i := 2) (hT.kp (KpS.thn (by (with_reducible (repeat (first | assumption | exact kU _ | exact kR _ | exact Kp.of (U := UU) (by assumption) | exact KpS.of (by assumption) | refine kT ?_ (by assumption))))) k1)) rfl (by decide)) (wV rfl ?_)
  (repeat first|refine wN ?_|refine wP rfl ?_|refine cxT_r rfl ?_|refine cxT_d rfl ?_|refine wO rfl rfl ?_)
  refine VO.call rfl rfl (fk Tryz.func6) (fun wa33 ka33 ba33 => (puts18_any _ _ os _ 2 wa33 (hT.kp.sl (n := 5) rfl (by decide)) ⟨_, rfl, hO2.kp kTT⟩).mono ?_)
  rintro e w33 ⟨rfl, hb33⟩
  skip
  refine ⟨_, rfl, hb33, fun kb33 _ bb33 => wV rfl ?_⟩
  (repeat first|refine wN ?_|refine wP rfl ?_|refine cxT_r rfl ?_|refine cxT_d rfl ?_|refine wO rfl rfl ?_)
  refine VO.cond rfl ⟨by decide, by decide, by decide, by decide⟩ (wV rfl ?_)
  (repeat first|refine wN ?_|refine wP rfl ?_|refine cxT_r rfl ?_|refine cxT_d rfl ?_|refine wO rfl rfl ?_)
  refine VO.call rfl rfl (fk Tryz.func5) (fun wa34 ka34 ba34 => (tells18_any _ ((os.take 3).drop 2) 9223372036854775807 2 wa34 ((hT.kp.sl (n := 5) rfl (by decide)).sub (z := 2) (y := 3) (by decide) (by decide)) (by unfold i64b; omega)).mono ?_)
  rintro e w34 ⟨rfl, hb34⟩
  skip
  refine ⟨_, rfl, hb34, fun kb34 _ bb34 => wV rfl ?_⟩
  (repeat first|refine wN ?_|refine wP rfl ?_|refine cxT_r rfl ?_|refine cxT_d rfl ?_|refine wO rfl rfl ?_)
  refine VS.back (5 - (2 + 1)) (by omega) ⟨_, _, ?_, ?_, ?_, ?_, ⟨2 + 1, by omega, rfl, rfl, rfl, hT.kp, hO0.kp kTT, hO1.kp kTT, hO2.kp kTT, hO3.kp kTT, hO4.kp kTT⟩⟩
  ·refine ⟨rfl, rfl, ?_, trivial⟩
   rw [← nat_step (i := 2) (by omega)]; rfl
  ·(repeat first|exact trivial|refine ⟨rfl, ?_⟩)
  ·rfl
  ·(repeat first|exact trivial|refine ⟨ClosedC.lit rfl, ?_⟩|refine ⟨ClosedC.vals _, ?_⟩)
 ·(repeat first|refine wN ?_|refine wP rfl ?_|refine cxT_r rfl ?_|refine cxT_d rfl ?_|refine wO rfl rfl ?_)
  refine VO.cond rfl ⟨by decide, by decide, by decide, by decide⟩ (wV rfl ?_)
  (repeat first|refine wN ?_|refine wP rfl ?_|refine cxT_r rfl ?_|refine cxT_d rfl ?_|refine wO rfl rfl ?_)
  refine VO.call rfl rfl (fk Tryz.func5) (fun wa31 ka31 ba31 => (tells18_any _ ((os.take 4).drop 3) 10000 2 wa31 ((hT.kp.sl (n := 5) rfl (by decide)).sub (z := 3) (y := 4) (by decide) (by decide)) (by unfold i64b; omega)).mono ?_)
  rintro e w31 ⟨rfl, hb31⟩
  skip
  refine ⟨_, rfl, hb31, fun kb31 _ bb31 => wV rfl ?_⟩
  (repeat first|refine wN ?_|refine wP rfl ?_|refine cxT_r rfl ?_|refine cxT_d rfl ?_|refine wO rfl rfl ?_)
  refine VO.cond rfl ⟨by decide, by decide, by decide, by decide⟩ (wV rfl ?_)
  (repeat first|refine wN ?_|refine wP rfl ?_|refine cxT_r rfl ?_|refine cxT_d rfl ?_|refine wO rfl rfl ?_)
  refine VO.call rfl rfl (fk Tryz.func5) (fun wa32 ka32 ba32 => (tells18_any _ (os.drop 3) (-9223372036854775808) 2 wa32 ((hT.kp.sl (n := 5) rfl (by decide)).drop (z := 3) (by decide)) (by unfold i64b; omega)).mono ?_)
  rintro e w32 ⟨rfl, hb32⟩
  skip
  refine ⟨_, rfl, hb32, fun kb32 _ bb32 => wV rfl ?_⟩
  (repeat first|refine wN ?_|refine wP rfl ?_|refine cxT_r rfl ?_|refine cxT_d rfl ?_|refine wO rfl rfl ?_)
  refine VO.cond rfl ⟨by omega, by omega⟩ ?_
  refine wV rfl ?_
  (repeat first|refine wN ?_|refine wP rfl ?_|refine cxT_r rfl ?_|refine cxT_d rfl ?_|refine wO rfl rfl ?_)
  refine VO.readNow rfl [.int .i64 0, .int .i64 1, .bool false, .slice none 0 0, .bool false, .slice none 0 0] rfl (fun w1 k1 b1 => told_at (i := 3) (hT.kp (KpS.thn (by (with_reducible (repeat (first | assumption | exact kU _ | exact kR _ | exact Kp.of (U := UU) (by assumption) | exact KpS.of (by assumption) | refine kT ?_ (by assumption))))) k1)) rfl (by decide)) (wV rfl ?_)
  (repeat first|refine wN ?_|refine wP rfl ?_|refine cxT_r rfl ?_|refine cxT_d rfl ?_|refine wO rfl rfl ?_)
  refine VO.call rfl rfl (fk Tryz.func6) (fun wa33 ka33 ba33 => (puts18_any _ _ os _ 2 wa33 (hT.kp.sl (n := 5) rfl (by decide)) ⟨_, rfl, hO3.kp kTT⟩).mono ?_)
  rintro e w33 ⟨rfl, hb33⟩
  skip
  refine ⟨_, rfl, hb33, fun kb33 _ bb33 => wV rfl ?_⟩
  (repeat first|refine wN ?_|refine wP rfl ?_|refine cxT_r rfl ?_|refine cxT_d rfl ?_|refine wO rfl rfl ?_)
  refine VO.cond rfl ⟨by decide, by decide, by decide, by decide⟩ (wV rfl ?_)
  (repeat first|refine wN ?_|refine wP rfl ?_|refine cxT_r rfl ?_|refine cxT_d rfl ?_|refine wO rfl rfl ?_)
  refine VO.call rfl rfl (fk Tryz.func5) (fun wa34 ka34 ba34 => (tells18_any _ ((os.take 3).drop 2) 9223372036854775807 2 wa34 ((hT.kp.sl (n := 5) rfl (by decide)).sub (z := 2) (y := 3) (by decide) (by decide)) (by unfold i64b; omega)).mono ?_)
  rintro e w34 ⟨rfl, hb34⟩
  skip
  refine ⟨_, rfl, hb34, fun kb34 _ bb34 => wV rfl ?_⟩
  (repeat first|refine wN ?_|refine wP rfl ?_|refine cxT_r rfl ?_|refine cxT_d rfl ?_|refine wO rfl rfl ?_)
  refine VS.back (5 - (3 + 1)) (by omega) ⟨_, _, ?_, ?_, ?_, ?_, ⟨3 + 1, by omega, rfl, rfl, rfl, hT.kp, hO0.kp kTT, hO1.kp kTT, hO2.kp kTT, hO3.kp kTT, hO4.kp kTT⟩⟩
  ·refine ⟨rfl, rfl, ?_, trivial⟩
   rw [← nat_step (i := 3) (by omega)]; rfl
  ·(repeat first|exact trivial|refine ⟨rfl, ?_⟩)
  ·rfl
  ·(repeat first|exact trivial|refine ⟨ClosedC.lit rfl, ?_⟩|refine ⟨ClosedC.vals _, ?_⟩)
 ·(repeat first|refine wN ?_|refine wP rfl ?_|refine cxT_r rfl ?_|refine cxT_d rfl ?_|refine wO rfl rfl ?_)
  refine VO.cond rfl ⟨by decide, by decide, by decide, by decide⟩ (wV rfl ?_)
  (repeat first|refine wN ?_|refine wP rfl ?_|refine cxT_r rfl ?_|refine cxT_d rfl ?_|refine wO rfl rfl ?_)
  refine VO.call rfl rfl (fk Tryz.func5) (fun wa31 ka31 ba31 => (tells18_any _ ((os.take 5).drop 4) 10000 2 wa31 ((hT.kp.sl (n := 5) rfl (by decide)).sub (z := 4) (y := 5) (by decide) (by decide)) (by unfold i64b; omega)).mono ?_)
  rintro e w31 ⟨rfl, hb31⟩
  skip
  refine ⟨_, rfl, hb31, fun kb31 _ bb31 => wV rfl ?_⟩
  (repeat first|refine wN ?_|refine wP rfl ?_|refine cxT_r rfl ?_|refine cxT_d rfl ?_|refine wO rfl rfl ?_)
  refine VO.cond rfl ⟨by decide, by decide, by decide, by decide⟩ (wV rfl ?_)
  (repeat first|refine wN ?_|refine wP rfl ?_|refine cxT_r rfl ?_|refine cxT_d rfl ?_|refine wO rfl rfl ?_)
  refine VO.call rfl rfl (fk Tryz.func5) (fun wa32 ka32 ba32 => (tells18_any _ (os.drop 4) (-9223372036854775808) 2 wa32 ((hT.kp.sl (n := 5) rfl (by decide)).drop (z := 4) (by decide)) (by unfold i64b; omega)).mono ?_)
  rintro e w32 ⟨rfl, hb32⟩
  skip
  refine ⟨_, rfl, hb32, fun kb32 _ bb32 => wV rfl ?_⟩
  (repeat first|refine wN ?_|refine wP rfl ?_|refine cxT_r rfl ?_|refine cxT_d rfl ?_|refine wO rfl rfl ?_)
  refine VO.cond rfl ⟨by omega, by omega⟩ ?_
  refine wV rfl ?_
  (repeat first|refine wN ?_|refine wP rfl ?_|refine cxT_r rfl ?_|refine cxT_d rfl ?_|refine wO rfl rfl ?_)
  refine VO.readNow rfl [.int .i64 4611686018427387904, .int .i64 4611686018427387904, .bool s24, .slice p24 n24 c24, .bool t24, .slice y24 m24 d24] rfl (fun w1 k1 b1 => told_at (i := 4) (hT.kp (KpS.thn (by (with_reducible (repeat (first | assumption | exact kU _ | exact kR _ | exact Kp.of (U := UU) (by assumption) | exact KpS.of (by assumption) | refine kT ?_ (by assumption))))) k1)) rfl (by decide)) (wV rfl ?_)
  (repeat first|refine wN ?_|refine wP rfl ?_|refine cxT_r rfl ?_|refine cxT_d rfl ?_|refine wO rfl rfl ?_)
  refine VO.call rfl rfl (fk Tryz.func6) (fun wa33 ka33 ba33 => (puts18_any _ _ os _ 2 wa33 (hT.kp.sl (n := 5) rfl (by decide)) ⟨_, rfl, hO4.kp kTT⟩).mono ?_)
  rintro e w33 ⟨rfl, hb33⟩
  skip
  refine ⟨_, rfl, hb33, fun kb33 _ bb33 => wV rfl ?_⟩
  (repeat first|refine wN ?_|refine wP rfl ?_|refine cxT_r rfl ?_|refine cxT_d rfl ?_|refine wO rfl rfl ?_)
  refine VO.cond rfl ⟨by decide, by decide, by decide, by decide⟩ (wV rfl ?_)
  (repeat first|refine wN ?_|refine wP rfl ?_|refine cxT_r rfl ?_|refine cxT_d rfl ?_|refine wO rfl rfl ?_)
  refine VO.call rfl rfl (fk Tryz.func5) (fun wa34 ka34 ba34 => (tells18_any _ ((os.take 3).drop 2) 9223372036854775807 2 wa34 ((hT.kp.sl (n := 5) rfl (by decide)).sub (z := 2) (y := 3) (by decide) (by decide)) (by unfold i64b; omega)).mono ?_)
  rintro e w34 ⟨rfl, hb34⟩
  skip
  refine ⟨_, rfl, hb34, fun kb34 _ bb34 => wV rfl ?_⟩
  (repeat first|refine wN ?_|refine wP rfl ?_|refine cxT_r rfl ?_|refine cxT_d rfl ?_|refine wO rfl rfl ?_)
  refine VS.back (5 - (4 + 1)) (by omega) ⟨_, _, ?_, ?_, ?_, ?_, ⟨4 + 1, by omega, rfl, rfl, rfl, hT.kp, hO0.kp kTT, hO1.kp kTT, hO2.kp kTT, hO3.kp kTT, hO4.kp kTT⟩⟩
  ·refine ⟨rfl, rfl, ?_, trivial⟩
   rw [← nat_step (i := 4) (by omega)]; rfl
  ·(repeat first|exact trivial|refine ⟨rfl, ?_⟩)
  ·rfl
  ·(repeat first|exact trivial|refine ⟨ClosedC.lit rfl, ?_⟩|refine ⟨ClosedC.vals _, ?_⟩)
 ·(repeat first|refine wN ?_|refine wP rfl ?_|refine cxT_r rfl ?_|refine cxT_d rfl ?_|refine wO rfl rfl ?_)
  refine VO.call rfl rfl (fk Tryz.func3) (fun wa41 ka41 ba41 => (all18_any _ [] 2 wa41 (SlIn.nil _ _ _)).mono ?_)
  rintro e w41 ⟨rfl, hb41⟩
  skip
  refine ⟨_, rfl, hb41, fun kb41 _ bb41 => wV rfl ?_⟩
  (repeat first|refine wN ?_|refine wP rfl ?_|refine cxT_r rfl ?_|refine cxT_d rfl ?_|refine wO rfl rfl ?_)
  refine VO.call rfl rfl (fk Tryz.func15) (fun wa42 ka42 ba42 => (works18_any wa42).mono ?_)
  rintro e w42 ⟨rfl, hb42⟩
  skip
  refine ⟨_, rfl, hb42, fun kb42 _ bb42 => wV rfl ?_⟩
  (repeat first|refine wN ?_|refine wP rfl ?_|refine cxT_r rfl ?_|refine cxT_d rfl ?_|refine wO rfl rfl ?_)
  refine VS.ret (cxT_ok _ _) rfl rfl (fun wz kz bz => ?_)
  exact ⟨rfl, bz⟩
end Go.Proofs.YtohlmpibnnkanaaGreat
