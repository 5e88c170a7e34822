/- TimingTurns: what this statement's function answers. (Printed by gen18u.py.) -/
import Derived.Test.YtohlmpibnnkanaaGreatLaw18B
set_option linter.all false
set_option maxRecDepth 4000
namespace Go.Proofs.YtohlmpibnnkanaaGreat
open Go.RowKit
attribute [local irreducible] vcOps VS

theorem pick_any (i : Int) (n : Nat) (w : World) (hn : n ≤ 10) : Calls Tryz.prog 26 #[.int .i64 i, .int .i64 (n : Int)] w fun o w' => (∃ k, o = .returned (.int .i64 k)) ∧ Beh w w' := by
 rcases (by omega : n = 0 ∨ n = 1 ∨ n = 2 ∨ n = 3 ∨ n = 4 ∨ n = 5 ∨ n = 6 ∨ n = 7 ∨ n = 8 ∨ n = 9 ∨ n = 10) with rfl | rfl | rfl | rfl | rfl | rfl | rfl | rfl | rfl | rfl | rfl
 all_goals
  refine calm_enter (C := cxOf Tryz.prog w _) (args := [_, _]) Tryz.func26 rfl Tryz.ntmps26 (Nat.le_of_ble_eq_true rfl) ?_
  (repeat first|refine wN ?_|refine wP rfl ?_|refine cx_r rfl ?_|refine cx_d rfl ?_|refine wO rfl rfl ?_)
  refine VS.ret (cx_ok _ _) rfl rfl (fun wz kz bz => ?_)
  exact ⟨⟨_, rfl⟩, bz⟩
theorem epart_add (y n z : Int) (a b : Rat) : epart (y, n, true, a) z + epart (y, n, true, b) z = epart (y, n, true, a + b) z := by
 have h : ∀ q : Rat, epart (y, n, true, q) z = if ewrong (y, n, true, 0) = true ∨ z ≤ y ∨ z > y + n then 0 else q * Rat.divInt 1 n := fun q => rfl
 rw [h, h, h]
 split
 ·grind
 ·grind
theorem ebal_add (y n z : Int) (a b : Rat) : ebal (y, n, true, a) z + ebal (y, n, true, b) z = ebal (y, n, true, a + b) z := by
 have h : ∀ q : Rat, ebal (y, n, true, q) z = if y > z then 0 else q * Rat.divInt (n - ecount (y, n, true, 0) z) n := fun q => rfl
 rw [h, h, h]
 split
 ·grind
 ·grind
theorem due_snoc (l : List RExp) (e : RExp) (z : Int) : edueR (l ++ [e]) z = edueR l z + epart e.exp z := by
 unfold edueR
 rw [List.map_append, rsum_append]
 show _ + rsum [_] = _
 rw [rsum_one]
theorem bal_snoc (l : List RExp) (e : RExp) (z : Int) : ebalR (l ++ [e]) z = ebalR l z + ebal e.exp z := by
 unfold ebalR
 rw [List.map_append, rsum_append]
 show _ + rsum [_] = _
 rw [rsum_one]
theorem due_drop {l : List RExp} {j : Nat} {e : RExp} (he : l[j]? = some e) (z : Int) : edueR (l.drop j) z = epart e.exp z + edueR (l.drop (j + 1)) z := by
 obtain ⟨h, rfl⟩ := List.getElem?_eq_some_iff.1 he
 rw [List.drop_eq_getElem_cons h]
 exact rsum_cons _ _
theorem bal_drop {l : List RExp} {j : Nat} {e : RExp} (he : l[j]? = some e) (z : Int) : ebalR (l.drop j) z = ebal e.exp z + ebalR (l.drop (j + 1)) z := by
 obtain ⟨h, rfl⟩ := List.getElem?_eq_some_iff.1 he
 rw [List.drop_eq_getElem_cons h]
 exact rsum_cons _ _
structure Turn (l ts : List RExp) (j N : Nat) : Prop where
 ok : ∀ e ∈ ts, ewrong e.exp = false
 due : ∀ z, edueR ts z = edueR (l.drop j) z
 bal : ∀ z, ebalR ts z = ebalR (l.drop j) z
 len : ts.length ≤ 2 * (N - j)
theorem Turn.one {l ts : List RExp} {j N : Nat} {e : RExp} (h : Turn l ts (j + 1) N) (he : l[j]? = some e) (hw : ewrong e.exp = false) (hj : j < N) : Turn l (ts ++ [e]) j N where
 ok := fun x hx => by
  rcases List.mem_append.1 hx with hx | hx
  ·exact h.ok x hx
  ·rw [List.mem_singleton.1 hx]; exact hw
 due := fun z => by rw [due_snoc, h.due, due_drop he]; grind
 bal := fun z => by rw [bal_snoc, h.bal, bal_drop he]; grind
 len := by have := h.len; rw [List.length_append, List.length_singleton]; omega
theorem Turn.two {l ts : List RExp} {j N : Nat} {e a b : RExp} {q : Rat} (h : Turn l ts (j + 1) N) (he : l[j]? = some e) (hw : ewrong e.exp = false) (ha : a.exp = (e.1, e.2.1, true, q)) (hb : b.exp = (e.1, e.2.1, true, e.exp.2.2.2 - q)) (hj : j < N) : Turn l (ts ++ [a] ++ [b]) j N := by
 have hrt := (ewrong_no hw).2.2.2.2
 have hexp : e.exp = (e.1, e.2.1, true, e.exp.2.2.2) := by
  show (e.1, e.2.1, e.exp.2.2.1, e.exp.2.2.2) = _
  rw [hrt]
 have hwr : ∀ q' : Rat, ewrong (e.1, e.2.1, true, q') = false := fun q' => by
  rw [hexp] at hw
  exact hw
 have hq : ∀ q' : Rat, q + (q' - q) = q' := fun q' => by grind
 refine ⟨fun x hx => ?_, fun z => ?_, fun z => ?_, ?_⟩
 ·rcases List.mem_append.1 hx with hx | hx
  ·rcases List.mem_append.1 hx with hx | hx
   ·exact h.ok x hx
   ·rw [List.mem_singleton.1 hx, ha]; exact hwr _
  ·rw [List.mem_singleton.1 hx, hb]; exact hwr _
 ·have := epart_add e.1 e.2.1 z q (e.exp.2.2.2 - q)
  rw [hq, ← hexp] at this
  rw [due_snoc, due_snoc, ha, hb, h.due, due_drop he, ← this]; grind
 ·have := ebal_add e.1 e.2.1 z q (e.exp.2.2.2 - q)
  rw [hq, ← hexp] at this
  rw [bal_snoc, bal_snoc, ha, hb, h.bal, bal_drop he, ← this]; grind
 ·have := h.len
  simp only [List.length_append, List.length_singleton]
  omega
structure TRow7 (w : World) (ts : List RExp) (n c : Nat) (vs : List (List Value)) (spare : List AV) : Prop where
 len : n = ts.length
 el : RowE (ExpE 7) w ts vs
 fl : (vs.flatten.map AV.val ++ spare).length = c * 6
 le : n ≤ c
 cm : c ≤ 9223372036854775807
 ok : spare.all okLeaf = true
 lids : lidsOf spare = []
theorem RowE.ok_len {w : World} {ts : List RExp} {vs : List (List Value)} (h : RowE (ExpE 7) w ts vs) : vs.flatten.length = ts.length * 6 := (h.ok (exp_ok 7)).2
def TSt (w : World) (ts : List RExp) (tv : AV) (M : List (Nat × (TypeId × List AV))) : Prop :=
 (ts = [] ∧ tv = .val (.slice none 0 0) ∧ M = []) ∨
 (∃ n c vs spare, tv = .row 87 0 n c ∧ M = [(87, (36, vs.flatten.map .val ++ spare))] ∧ TRow7 w ts n c vs spare) ∨
 (∃ n c vs spare, tv = .row 94 0 n c ∧ M = [(94, (36, vs.flatten.map .val ++ spare))] ∧ TRow7 w ts n c vs spare)
theorem TSt.end' {C : Cx} {β : Nat → Nat} {w w' : World} {ts : List RExp} {tv : AV} {M : List (Nat × (TypeId × List AV))} (h : TSt w ts tv M) (k : Kp UU w w') (en : Ends C β (Hp.of M) w') : SlIn (ExpE 7) 6 w' (tv.conc β) ts := by
 rcases h with ⟨rfl, rfl, rfl⟩ | ⟨n, c, vs, spare, rfl, rfl, h⟩ | ⟨n, c, vs, spare, rfl, rfl, h⟩
 ·exact SlIn.nil _ _ _
 ·exact ownV_sl (exp_ok 7) (en.own 87 _ _ rfl) spare rfl (h.el.kp (exp_ok 7) k) h.len h.le h.cm
 ·exact ownV_sl (exp_ok 7) (en.own 94 _ _ rfl) spare rfl (h.el.kp (exp_ok 7) k) h.len h.le h.cm
set_option maxRecDepth 4000 in
set_option maxHeartbeats 16000000 in
theorem turns18_any (v u : Value) (l : List RExp) (at' z : Int) (s : Bool) (xs : List Nat) (t : Bool) (ys : List Nat) (kk : Nat) (w : World) (hv : SlIn (ExpE kk) 6 w v l) (hu : RatRaw w u s xs t ys) (hat : i64b at') (hz : i64b z) :
  Calls Tryz.prog 4 #[v, .int .i64 at', u, .int .i64 z] w fun o w' => o = .returned (.bool true) ∧ Beh w w' := by
 obtain ⟨p, c, rfl, hnc, hcm⟩ := hv.form
 obtain ⟨N, hN⟩ : ∃ N, N = l.length := ⟨_, rfl⟩
 rw [← hN] at hv hnc
 rw [← hN]
 have hu0 := hu
 obtain ⟨px, pc, py, pd, rfl, -⟩ := hu.form'
 refine calm_enter (C := cxT Tryz.prog w _) (args := [_, _, _, _]) Tryz.func4 rfl Tryz.ntmps4 (Nat.le_of_ble_eq_true rfl) ?_
 (repeat first|refine wN ?_|refine wP rfl ?_|refine cxT_r rfl ?_|refine cxT_d rfl ?_|refine wO rfl rfl ?_)
 cases hf : fewE l with
 | false =>
  refine VO.call rfl rfl (fk Tryz.func14) (fun wa1 ka1 ba1 => (few18_ok _ l kk wa1 (hv.beh (exp_ok kk) ba1) false hf).mono ?_)
  rintro e w1 ⟨rfl, hb1⟩
  skip
  refine ⟨_, rfl, hb1, fun kb1 _ bb1 => wV rfl ?_⟩
  (repeat first|refine wN ?_|refine wP rfl ?_|refine cxT_r rfl ?_|refine cxT_d rfl ?_|refine wO rfl rfl ?_)
  refine VO.call rfl rfl (fk Tryz.func15) (fun wa9 ka9 ba9 => (works18_any wa9).mono ?_)
  rintro e w9 ⟨rfl, hb9⟩
  skip
  refine ⟨_, rfl, hb9, fun kb9 _ bb9 => wV rfl ?_⟩
  (repeat first|refine wN ?_|refine wP rfl ?_|refine cxT_r rfl ?_|refine cxT_d rfl ?_|refine wO rfl rfl ?_)
  refine VS.ret (cxT_ok _ _) rfl rfl (fun wz kz bz => ?_)
  exact ⟨rfl, bz⟩
 | true =>
 refine VO.call rfl rfl (fk Tryz.func14) (fun wa1 ka1 ba1 => (few18_ok _ l kk wa1 (hv.beh (exp_ok kk) ba1) true hf).mono ?_)
 rintro e w1 ⟨rfl, hb1⟩
 skip
 refine ⟨_, rfl, hb1, fun kb1 _ bb1 => wV rfl ?_⟩
 (repeat first|refine wN ?_|refine wP rfl ?_|refine cxT_r rfl ?_|refine cxT_d rfl ?_|refine wO rfl rfl ?_)
 have hl3 := fewE_sl hf hv
 have h10 : N ≤ 10 := by rw [hN]; exact fewE_len hf
 obtain ⟨kx, hkx1, hkx2⟩ : ∃ kx, xs.length ≤ kx ∧ ys.length ≤ kx := ⟨max xs.length ys.length, by omega, by omega⟩
 have hZ0 : ExpE kx w [.int .i64 0, .int .i64 0, .bool s, .slice px xs.length pc, .bool t, .slice py ys.length pd] (0, 0, s, xs, t, ys) := ⟨_, _, _, _, rfl, by show -9223372036854775808 ≤ (0 : Int) ∧ (0 : Int) ≤ 9223372036854775807; omega, by show -9223372036854775808 ≤ (0 : Int) ∧ (0 : Int) ≤ 9223372036854775807; omega, hu0, hkx1, hkx2⟩
 refine VO.litE (cxT_ok _ _) (sz := 6) [.agg #[.int .i64 0, .int .i64 0, .bool s, .slice px xs.length pc, .bool t, .slice py ys.length pd]] [.int .i64 0, .int .i64 0, .bool s, .slice px xs.length pc, .bool t, .slice py ys.length pd] rfl rfl rfl rfl rfl rfl rfl rfl rfl rfl (by decide) (fun w2 b2 kb2 bb2 hB2 hc2 => wV rfl ?_)
 obtain ⟨bx, hbx⟩ : ∃ b, fewE [((0, 0, s, xs, t, ys) : RExp)] = b := ⟨_, rfl⟩
 refine VO.call rfl rfl (fk Tryz.func14) (fun wa3 ka3 ba3 => (few18_ok _ [(0, 0, s, xs, t, ys)] kx wa3 (sl_of_cls (exp_ok kx) (spare := []) (vs := [[.int .i64 0, .int .i64 0, .bool s, .slice px xs.length pc, .bool t, .slice py ys.length pd]]) (ka3.block _ b2 _ rfl trivial hc2) (RowE.cons (hZ0.kp (Kp.of (U := UU) ba3)) RowE.nil) rfl (Nat.le_refl _) (by simp)) bx hbx).mono ?_)
 rintro e w3 ⟨rfl, hb3⟩
 cases bx with
 | false =>
  refine ⟨_, rfl, hb3, fun kb3 _ bb3 => wV rfl ?_⟩
  (repeat first|refine wN ?_|refine wP rfl ?_|refine cxT_r rfl ?_|refine cxT_d rfl ?_|refine wO rfl rfl ?_)
  refine VO.call rfl rfl (fk Tryz.func15) (fun wa9 ka9 ba9 => (works18_any wa9).mono ?_)
  rintro e w9 ⟨rfl, hb9⟩
  skip
  refine ⟨_, rfl, hb9, fun kb9 _ bb9 => wV rfl ?_⟩
  (repeat first|refine wN ?_|refine wP rfl ?_|refine cxT_r rfl ?_|refine cxT_d rfl ?_|refine wO rfl rfl ?_)
  refine VS.ret (cxT_ok _ _) rfl rfl (fun wz kz bz => ?_)
  exact ⟨rfl, bz⟩
 | true =>
 refine ⟨_, rfl, hb3, fun kb3 _ bb3 => wV rfl ?_⟩
 (repeat first|refine wN ?_|refine wP rfl ?_|refine cxT_r rfl ?_|refine cxT_d rfl ?_|refine wO rfl rfl ?_)
 have hx3 : xs.length ≤ 3 ∧ ys.length ≤ 3 := by
  unfold fewE esmall at hbx
  simpa using hbx
 refine VO.call rfl rfl (fk Tryz.func25) (fun wa4 ka4 ba4 => (ratRight_any _ _ _ _ _ wa4 hu0.k (by omega) (by omega)).mono ?_)
 rintro e w4 ⟨rfl, hb4⟩
 cases hrt : rtB s xs t ys with
 | false =>
  refine ⟨_, rfl, hb4, fun kb4 _ bb4 => wV rfl ?_⟩
  (repeat first|refine wN ?_|refine wP rfl ?_|refine cxT_r rfl ?_|refine cxT_d rfl ?_|refine wO rfl rfl ?_)
  refine VO.call rfl rfl (fk Tryz.func15) (fun wa9 ka9 ba9 => (works18_any wa9).mono ?_)
  rintro e w9 ⟨rfl, hb9⟩
  skip
  refine ⟨_, rfl, hb9, fun kb9 _ bb9 => wV rfl ?_⟩
  (repeat first|refine wN ?_|refine wP rfl ?_|refine cxT_r rfl ?_|refine cxT_d rfl ?_|refine wO rfl rfl ?_)
  refine VS.ret (cxT_ok _ _) rfl rfl (fun wz kz bz => ?_)
  exact ⟨rfl, bz⟩
 | true =>
 refine ⟨_, rfl, hb4, fun kb4 _ bb4 => wV rfl ?_⟩
 (repeat first|refine wN ?_|refine wP rfl ?_|refine cxT_r rfl ?_|refine cxT_d rfl ?_|refine wO rfl rfl ?_)
 cases hw : ewell l with
 | false =>
  refine VO.call rfl rfl (fk Tryz.func16) (fun wa5 ka5 ba5 => (tOf_not _ l 3 wa5 (hl3.beh (exp_ok 3) ba5) (by decide) (by omega) hw).mono ?_)
  rintro e w5 ⟨rfl, hb5⟩
  skip
  refine ⟨_, rfl, hb5, fun kb5 _ bb5 => wV rfl ?_⟩
  (repeat first|refine wN ?_|refine wP rfl ?_|refine cxT_r rfl ?_|refine cxT_d rfl ?_|refine wO rfl rfl ?_)
  refine VO.call rfl rfl (fk Tryz.func15) (fun wa9 ka9 ba9 => (works18_any wa9).mono ?_)
  rintro e w9 ⟨rfl, hb9⟩
  skip
  refine ⟨_, rfl, hb9, fun kb9 _ bb9 => wV rfl ?_⟩
  (repeat first|refine wN ?_|refine wP rfl ?_|refine cxT_r rfl ?_|refine cxT_d rfl ?_|refine wO rfl rfl ?_)
  refine VS.ret (cxT_ok _ _) rfl rfl (fun wz kz bz => ?_)
  exact ⟨rfl, bz⟩
 | true =>
 have hwl := ewell_iff.1 hw
 have hwt : ∀ e ∈ etaken l, ewrong e.exp = false := fun e he => hwl e (List.mem_filter.1 he).1
 have htl : (etaken l).length ≤ 10 := Nat.le_trans (List.length_filter_le _ _) (by omega)
 refine VO.call rfl rfl (fk Tryz.func16) (fun wa5 ka5 ba5 => (tOf_well _ l 3 wa5 (hl3.beh (exp_ok 3) ba5) (by decide) (by omega) hw).mono ?_)
 rintro e w5 ⟨g, rfl, hg5, q5, hb5⟩
 skip
 refine ⟨_, rfl, hb5, fun kb5 _ bb5 => wV rfl ?_⟩
 (repeat first|refine wN ?_|refine wP rfl ?_|refine cxT_r rfl ?_|refine cxT_d rfl ?_|refine wO rfl rfl ?_)
 refine VS.rebase (fun w => cxE Tryz.prog w 125) (fun _ => rfl) (fun _ => rfl) (fun _ => Beh.refl _) (fun W1 β1 k1 o1 en1 => ?_)
 obtain ⟨gp, hgp⟩ : ∃ a, a = β1 6 := ⟨_, rfl⟩
 refine ⟨[(0, .val (.slice p N c)), (1, .val (.int .i64 at')), (3, .val (.int .i64 z)), (6, .val (.pointer (some ⟨gp, 0, none⟩))), (9, .val (.pointer (some ⟨g, 0, none⟩))), (11, .val (.slice none 0 0)), (12, .val (.int .i64 (IntKind.i64.wrap ((N : Int) - 1))))], ⟨⟨_, _, rfl, rfl, rfl⟩, ⟨_, _, rfl, rfl, rfl⟩, ⟨_, _, rfl, rfl, rfl⟩, ⟨_, _, rfl, rfl, by rw [hgp]; rfl⟩, ⟨_, _, rfl, rfl, rfl⟩, ⟨_, _, rfl, rfl, rfl⟩, ⟨_, _, rfl, rfl, rfl⟩, trivial⟩, ?_⟩
 have hl1 := hl3.beh (exp_ok 3) o1
 have hled1 : LedAt 3 W1 wa5.heap.size g (etaken l) := q5.kp (by (with_reducible (repeat (first | assumption | exact kU _ | exact kR _ | exact Kp.of (U := UU) (by assumption) | exact KpS.of (by assumption) | refine kT ?_ (by assumption))))) rfl rfl
 have hpC : Cls W1 gp 33 (#[.bool s, .slice px xs.length pc, .bool t, .slice py ys.length pd]) := by rw [hgp]; exact (en1.own 6 _ _ rfl).cls
 have hpc : ∀ (j : Nat) (u : Value), ([.bool s, .slice px xs.length pc, .bool t, .slice py ys.length pd] : List Value)[j]? = some u → W1.cell? ((⟨gp, 0, none⟩ : Addr).add j) = some u := fun j u hj => by
  rw [Addr.add_mid, Nat.zero_add]
  exact hpC.cell (by simpa using hj)
 have hu1 : RatRaw W1 (.agg #[.bool s, .slice px xs.length pc, .bool t, .slice py ys.length pd]) s xs t ys := hu0.kp (Kp.of (U := UU) o1)
 obtain ⟨pq, hpq⟩ : ∃ q, q = rq s xs t ys := ⟨_, rfl⟩
 have hpin : RatIn W1 (.agg #[.bool s, .slice px xs.length pc, .bool t, .slice py ys.length pd]) pq 3 := hpq ▸ hu1.in hx3.1 hx3.2
 have hpz : RSz pq 3 := hpin.sz (by decide)
 refine VS.loop (J := fun m L M w' => ∃ (j : Nat) (tv : AV) (ts : List RExp), j ≤ N ∧ j = m ∧ L = [(0, .val (.slice p N c)), (1, .val (.int .i64 at')), (3, .val (.int .i64 z)), (6, .val (.pointer (some ⟨gp, 0, none⟩))), (9, .val (.pointer (some ⟨g, 0, none⟩))), (11, tv), (12, .val (.int .i64 ((j : Int) - 1)))] ∧ Turn l ts j N ∧ TSt w' ts tv M) N
  ⟨_, _, ?_, ?_, ?_, ?_, ⟨N, _, [], by omega, rfl, rfl, ⟨fun e he => (by cases he), fun z => by rw [List.drop_of_length_le (by omega)], fun z => by rw [List.drop_of_length_le (by omega)], by simp⟩, .inl ⟨rfl, rfl, rfl⟩⟩⟩ ?_
 ·refine ⟨rfl, rfl, rfl, rfl, rfl, rfl, ?_, trivial⟩
  exact congrArg (fun z => some (AV.val (.int .i64 z))) (IntWalk.i64_in _ (by omega))
 ·(repeat first|exact trivial|refine ⟨rfl, ?_⟩)
 ·rfl
 ·(repeat first|exact trivial|refine ⟨ClosedC.lit rfl, ?_⟩|refine ⟨ClosedC.vals _, ?_⟩)
 rintro m L M w4 ⟨j, tv, ts, hj, rfl, rfl, htn, hst⟩
 have htsl : ts.length ≤ 20 := by have := htn.len; omega
 by_cases hj0 : j = 0
 ·(repeat first|refine wN ?_|refine wP rfl ?_|refine cxE_r rfl ?_|refine cxE_d rfl ?_|refine wO rfl rfl ?_)
  refine VS.condN rfl (decide_eq_false (by omega)) ?_
  refine VS.rebase (fun w => cxT Tryz.prog w 125) (fun _ => rfl) (fun _ => rfl) (fun _ => Beh.refl _) (fun W2 β2 k2 o2 en2 => ?_)
  have hsl := hst.end' (kE k2) en2
  refine ⟨[(3, .val (.int .i64 z)), (9, .val (.pointer (some ⟨g, 0, none⟩))), (11, .val (tv.conc β2))], ⟨⟨_, _, rfl, rfl, rfl⟩, ⟨_, _, rfl, rfl, rfl⟩, ⟨_, _, rfl, rfl, rfl⟩, trivial⟩, ?_⟩
  obtain ⟨tw, htw⟩ : ∃ a, a = tv.conc β2 := ⟨_, rfl⟩
  rw [← htw] at hsl ⊢
  have hled2 := hled1.beh o2
  have hewl := ewell_iff.2 htn.ok
  have hwt2 : ∀ e ∈ etaken ts, ewrong e.exp = false := fun e he => htn.ok e (List.mem_filter.1 he).1
  have htl2 : (etaken ts).length ≤ 20 := Nat.le_trans (List.length_filter_le _ _) htsl
  have hdd : edueR (etaken l) z = edueR (etaken ts) z := by rw [due_taken, due_taken, htn.due, hj0]; rfl
  have hbb : ebalR (etaken l) z = ebalR (etaken ts) z := by rw [bal_taken, bal_taken, htn.bal, hj0]; rfl
  (repeat first|refine wN ?_|refine wP rfl ?_|refine cxT_r rfl ?_|refine cxT_d rfl ?_|refine wO rfl rfl ?_)
  refine VO.call rfl rfl (fk Tryz.func16) (fun wa20 ka20 ba20 => (tOf_well _ ts 7 wa20 (hsl.beh (exp_ok 7) ba20) (by decide) (by omega) hewl).mono ?_)
  rintro e w20 ⟨g2, rfl, hg2, q20, hb20⟩
  skip
  refine ⟨_, rfl, hb20, fun kb20 _ bb20 => wV rfl ?_⟩
  (repeat first|refine wN ?_|refine wP rfl ?_|refine cxT_r rfl ?_|refine cxT_d rfl ?_|refine wO rfl rfl ?_)
  refine VO.call rfl rfl (fk Tryz.func24) (fun wa21 ka21 ba21 => (tDue_any g (etaken l) 3 z wa21 (hled2.beh ba21).in (by decide) hz (by omega)).mono ?_)
  rintro e w21 ⟨r21, rfl, q21, hs21, hb21⟩
  obtain ⟨s21, p21, n21, c21, t21, y21, m21, d21, rfl⟩ := q21.form
  refine ⟨_, rfl, hb21, fun kb21 _ bb21 => wV rfl ?_⟩
  (repeat first|refine wN ?_|refine wP rfl ?_|refine cxT_r rfl ?_|refine cxT_d rfl ?_|refine wO rfl rfl ?_)
  refine VO.call rfl rfl (fk Tryz.func24) (fun wa22 ka22 ba22 => (tDue_any g2 (etaken ts) 7 z wa22 (q20.kp (by (with_reducible (repeat (first | assumption | exact kU _ | exact kR _ | exact Kp.of (U := UU) (by assumption) | exact KpS.of (by assumption) | refine kT ?_ (by assumption))))) rfl rfl).in (by decide) hz (by omega)).mono ?_)
  rintro e w22 ⟨r22, rfl, q22, hs22, hb22⟩
  obtain ⟨s22, p22, n22, c22, t22, y22, m22, d22, rfl⟩ := q22.form
  refine ⟨_, rfl, hb22, fun kb22 _ bb22 => wV rfl ?_⟩
  (repeat first|refine wN ?_|refine wP rfl ?_|refine cxT_r rfl ?_|refine cxT_d rfl ?_|refine wO rfl rfl ?_)
  refine VO.call rfl rfl (fk Tryz.func21) (fun wa23 ka23 ba23 => (ratCmp_ok _ _ (edueR (etaken l) z) (edueR (etaken ts) z) 100 300 wa23 (q21.ki (hs21.mono (Nat.le_trans (stepSz_le htl) (by decide)))) (q22.ki (hs22.mono (Nat.le_trans (stepSz_le htl2) (by decide)))) (by decide) (by decide) 0 (rcmp_eq hdd)).mono ?_)
  rintro e w23 ⟨rfl, hb23⟩
  skip
  refine ⟨_, rfl, hb23, fun kb23 _ bb23 => wV rfl ?_⟩
  (repeat first|refine wN ?_|refine wP rfl ?_|refine cxT_r rfl ?_|refine cxT_d rfl ?_|refine wO rfl rfl ?_)
  refine VO.call rfl rfl (fk Tryz.func22) (fun wa24 ka24 ba24 => (tBalance_any g (etaken l) 3 z wa24 (hled2.beh ba24).in hwt (by decide) hz (by omega)).mono ?_)
  rintro e w24 ⟨r24, rfl, q24, hs24, hb24⟩
  obtain ⟨s24, p24, n24, c24, t24, y24, m24, d24, rfl⟩ := q24.form
  refine ⟨_, rfl, hb24, fun kb24 _ bb24 => wV rfl ?_⟩
  (repeat first|refine wN ?_|refine wP rfl ?_|refine cxT_r rfl ?_|refine cxT_d rfl ?_|refine wO rfl rfl ?_)
  refine VO.call rfl rfl (fk Tryz.func22) (fun wa25 ka25 ba25 => (tBalance_any g2 (etaken ts) 7 z wa25 (q20.kp (by (with_reducible (repeat (first | assumption | exact kU _ | exact kR _ | exact Kp.of (U := UU) (by assumption) | exact KpS.of (by assumption) | refine kT ?_ (by assumption))))) rfl rfl).in hwt2 (by decide) hz (by omega)).mono ?_)
  rintro e w25 ⟨r25, rfl, q25, hs25, hb25⟩
  obtain ⟨s25, p25, n25, c25, t25, y25, m25, d25, rfl⟩ := q25.form
  refine ⟨_, rfl, hb25, fun kb25 _ bb25 => wV rfl ?_⟩
  (repeat first|refine wN ?_|refine wP rfl ?_|refine cxT_r rfl ?_|refine cxT_d rfl ?_|refine wO rfl rfl ?_)
  refine VO.call rfl rfl (fk Tryz.func21) (fun wa26 ka26 ba26 => (ratCmp_ok _ _ (ebalR (etaken l) z) (ebalR (etaken ts) z) 100 300 wa26 (q24.ki (hs24.mono (Nat.le_trans (stepSz_le htl) (by decide)))) (q25.ki (hs25.mono (Nat.le_trans (stepSz_le htl2) (by decide)))) (by decide) (by decide) 0 (rcmp_eq hbb)).mono ?_)
  rintro e w26 ⟨rfl, hb26⟩
  skip
  refine ⟨_, rfl, hb26, fun kb26 _ bb26 => wV rfl ?_⟩
  (repeat first|refine wN ?_|refine wP rfl ?_|refine cxT_r rfl ?_|refine cxT_d rfl ?_|refine wO rfl rfl ?_)
  refine VO.call rfl rfl (fk Tryz.func15) (fun wa27 ka27 ba27 => (works18_any wa27).mono ?_)
  rintro e w27 ⟨rfl, hb27⟩
  skip
  refine ⟨_, rfl, hb27, fun kb27 _ bb27 => wV rfl ?_⟩
  (repeat first|refine wN ?_|refine wP rfl ?_|refine cxT_r rfl ?_|refine cxT_d rfl ?_|refine wO rfl rfl ?_)
  refine VS.ret (cxT_ok _ _) rfl rfl (fun wz kz bz => ?_)
  exact ⟨rfl, (o1.thn o2).thn bz⟩
 obtain ⟨j', hj'⟩ : ∃ j', j = j' + 1 := ⟨j - 1, by omega⟩
 subst hj'
 obtain ⟨j, hjj⟩ : ∃ i, i = j' := ⟨_, rfl⟩
 subst hjj
 obtain ⟨e, he⟩ : ∃ e, l[j]? = some e := ⟨_, List.getElem?_eq_getElem (by omega)⟩
 have hem := List.mem_of_getElem? he
 have hwe := hwl e hem
 obtain ⟨b, off, cs', hpp, hc, hE⟩ := hl1.at he
 have hE7 : ExpE 7 W1 cs' e := by
  obtain ⟨a1, a2, a3, a4, a5, a6, a7, a8, a9, a10⟩ := hE
  exact ⟨a1, a2, a3, a4, a5, a6, a7, a8, by omega, by omega⟩
 have hsz3 : RSz e.exp.2.2.2 3 := hE.sz
 obtain ⟨ep, ec, er, ed, rfl, hi1, hi2, hraw, hx1, hx2⟩ := hE
 have hin : RatIn W1 (.agg #[.bool e.2.2.1, .slice ep e.2.2.2.1.length ec, .bool e.2.2.2.2.1, .slice er e.2.2.2.2.2.length ed]) e.exp.2.2.2 3 := hraw.in hx1 hx2
 have hsub : RSz (e.exp.2.2.2 - pq) 7 := hsz3.sub hpz
 obtain ⟨eP, heP⟩ : ∃ x : RExp, x = (e.1, e.2.1, s, xs, t, ys) := ⟨_, rfl⟩
 obtain ⟨eR, heR⟩ : ∃ x : RExp, x = cexp e.1 e.2.1 (e.exp.2.2.2 - pq) := ⟨_, rfl⟩
 have hePx : eP.exp = (e.1, e.2.1, true, pq) := by rw [heP, hpq, ← hrt]; rfl
 have heRx : eR.exp = (e.1, e.2.1, true, e.exp.2.2.2 - pq) := by rw [heR, cexp_exp]
 have hP7 : ExpE 7 W1 [.int .i64 e.1, .int .i64 e.2.1, .bool s, .slice px xs.length pc, .bool t, .slice py ys.length pd] eP := by rw [heP]; exact ⟨_, _, _, _, rfl, hi1, hi2, hu1, by show xs.length ≤ 7; omega, by show ys.length ≤ 7; omega⟩
 have ecast : ((j + 1 : Nat) : Int) - 1 = (j : Int) := by omega
 simp only [hpp, ecast]
 rcases hst with ⟨hts, rfl, rfl⟩ | ⟨n, c', vs, spare, rfl, rfl, htr⟩ | ⟨n, c', vs, spare, rfl, rfl, htr⟩
 ·(repeat first|refine wN ?_|refine wP rfl ?_|refine cxE_r rfl ?_|refine cxE_d rfl ?_|refine wO rfl rfl ?_)
  refine VO.call rfl rfl (fk Tryz.func26) (fun wa5 ka5 ba5 => (pick_any at' N wa5 (by omega)).mono ?_)
  rintro e w5 ⟨⟨kx, rfl⟩, hb5⟩
  skip
  refine ⟨_, rfl, hb5, fun kb5 _ bb5 => wV rfl ?_⟩
  (repeat first|refine wN ?_|refine wP rfl ?_|refine cxE_r rfl ?_|refine cxE_d rfl ?_|refine wO rfl rfl ?_)
  by_cases hpk : (j : Int) = kx
  ·refine VS.condY rfl (by rw [beq_iff_eq]; exact hpk) ?_
   (repeat first|refine wN ?_|refine wP rfl ?_|refine cxE_r rfl ?_|refine cxE_d rfl ?_|refine wO rfl rfl ?_)
   refine VO.cond rfl ⟨by omega, by omega⟩ ?_
   refine wV rfl ?_
   (repeat first|refine wN ?_|refine wP rfl ?_|refine cxE_r rfl ?_|refine cxE_d rfl ?_|refine wO rfl rfl ?_)
   refine VO.read rfl [.int .i64 e.1] rfl (cells_at hc 0 _ ⟨_, rfl⟩) (wV rfl ?_)
   (repeat first|refine wN ?_|refine wP rfl ?_|refine cxE_r rfl ?_|refine cxE_d rfl ?_|refine wO rfl rfl ?_)
   refine VO.cond rfl ⟨by omega, by omega⟩ ?_
   refine wV rfl ?_
   (repeat first|refine wN ?_|refine wP rfl ?_|refine cxE_r rfl ?_|refine cxE_d rfl ?_|refine wO rfl rfl ?_)
   refine VO.read rfl [.int .i64 e.2.1] rfl (cells_at hc 1 _ ⟨_, rfl⟩) (wV rfl ?_)
   (repeat first|refine wN ?_|refine wP rfl ?_|refine cxE_r rfl ?_|refine cxE_d rfl ?_|refine wO rfl rfl ?_)
   refine VO.read rfl [.bool s, .slice px xs.length pc, .bool t, .slice py ys.length pd] rfl hpc (wV rfl ?_)
   (repeat first|refine wN ?_|refine wP rfl ?_|refine cxE_r rfl ?_|refine cxE_d rfl ?_|refine wO rfl rfl ?_)
   refine VO.app (cxE_ok _ _) (t := 22) (e := 36) (sz := 6) (n := 0) (c := 0) (mm := 1) (known := []) (spare := []) (del := none) (news := ([.int .i64 e.1, .int .i64 e.2.1, .bool s, .slice px xs.length pc, .bool t, .slice py ys.length pd] : List Value).map .val) (dst := 66) rfl rfl rfl rfl rfl rfl rfl rfl (Nat.le_of_ble_eq_true rfl) rfl (.inl ⟨rfl, rfl, rfl, rfl, rfl, rfl, by omega⟩) (.inl rfl) rfl rfl (by omega) (by omega) ⟨rfl, rfl, rfl⟩ ⟨rfl, rfl, rfl⟩ rfl (by omega)
    (fun w1 β k1 b1 ho => ⟨_, _, rfl, .inr ⟨β 65, 0, rfl, own_src (rest := []) (ho.own 65 (.base (List.mem_append_right _ (List.mem_singleton.2 rfl))) _ _ rfl) rfl⟩⟩)
    (fun w13 c13 sp13 ρ13 k13 b13 hρ13 hc113 hc213 hl13 ho13 hi13 => wV rfl ?_)
   (repeat first|refine wN ?_|refine wP rfl ?_|refine cxE_r rfl ?_|refine cxE_d rfl ?_|refine wO rfl rfl ?_)
   have tr13 : TRow7 w13 [eP] 1 c13 [[.int .i64 e.1, .int .i64 e.2.1, .bool s, .slice px xs.length pc, .bool t, .slice py ys.length pd]] sp13 := ⟨rfl, .cons (hP7.kp (Kp.of (U := UU) b13)) .nil, by simpa using hl13, by omega, hc213, ho13, hi13⟩
   refine VO.cond rfl ⟨by omega, by omega⟩ ?_
   refine wV rfl ?_
   (repeat first|refine wN ?_|refine wP rfl ?_|refine cxE_r rfl ?_|refine cxE_d rfl ?_|refine wO rfl rfl ?_)
   refine VO.read rfl [.int .i64 e.1] rfl (cells_at hc 0 _ ⟨_, rfl⟩) (wV rfl ?_)
   (repeat first|refine wN ?_|refine wP rfl ?_|refine cxE_r rfl ?_|refine cxE_d rfl ?_|refine wO rfl rfl ?_)
   refine VO.cond rfl ⟨by omega, by omega⟩ ?_
   refine wV rfl ?_
   (repeat first|refine wN ?_|refine wP rfl ?_|refine cxE_r rfl ?_|refine cxE_d rfl ?_|refine wO rfl rfl ?_)
   refine VO.read rfl [.int .i64 e.2.1] rfl (cells_at hc 1 _ ⟨_, rfl⟩) (wV rfl ?_)
   (repeat first|refine wN ?_|refine wP rfl ?_|refine cxE_r rfl ?_|refine cxE_d rfl ?_|refine wO rfl rfl ?_)
   refine VO.cond rfl ⟨by omega, by omega⟩ ?_
   refine wV rfl ?_
   (repeat first|refine wN ?_|refine wP rfl ?_|refine cxE_r rfl ?_|refine cxE_d rfl ?_|refine wO rfl rfl ?_)
   refine VO.read rfl [.bool e.2.2.1, .slice ep e.2.2.2.1.length ec, .bool e.2.2.2.2.1, .slice er e.2.2.2.2.2.length ed] rfl (cells_at hc 2 _ ⟨_, rfl⟩) (wV rfl ?_)
   (repeat first|refine wN ?_|refine wP rfl ?_|refine cxE_r rfl ?_|refine cxE_d rfl ?_|refine wO rfl rfl ?_)
   refine VO.read rfl [.bool s, .slice px xs.length pc, .bool t, .slice py ys.length pd] rfl hpc (wV rfl ?_)
   refine VO.call rfl rfl (fk Tryz.func23) (fun wa7 ka7 ba7 => (ratSub_any _ _ e.exp.2.2.2 pq 3 3 wa7 (hin.kp (Kp.of (U := UU) ba7)) (hpin.kp (Kp.of (U := UU) ba7)) (by decide) (by decide)).mono ?_)
   rintro e w7 ⟨r7, rfl, q7, hb7⟩
   obtain ⟨s7, p7, n7, c7, t7, y7, m7, d7, rfl⟩ := q7.form
   refine ⟨_, rfl, hb7, fun kb7 _ bb7 => wV rfl ?_⟩
   (repeat first|refine wN ?_|refine wP rfl ?_|refine cxE_r rfl ?_|refine cxE_d rfl ?_|refine wO rfl rfl ?_)
   refine VO.app (cxE_ok _ _) (t := 22) (e := 36) (sz := 6) (n := 1) (c := c13) (mm := 1) (known := ([[.int .i64 e.1, .int .i64 e.2.1, .bool s, .slice px xs.length pc, .bool t, .slice py ys.length pd]] : List (List Value)).flatten.map .val) (spare := sp13) (del := some 66) (news := ([.int .i64 e.1, .int .i64 e.2.1, .bool s7, .slice p7 n7 c7, .bool t7, .slice y7 m7 d7] : List Value).map .val) (dst := 87) rfl rfl rfl rfl rfl rfl rfl rfl (Nat.le_of_ble_eq_true rfl) rfl (.inr ⟨66, rfl, rfl, rfl⟩) (.inl rfl) (by rw [List.length_map, (tr13).el.ok_len]; exact congrArg (· * 6) (tr13).len.symm) (tr13).fl (tr13).le (tr13).cm ⟨lidsOf_vals _, (tr13).lids, rfl⟩ ⟨vals_ok ((tr13).el.ok (exp_ok 7)).1, (tr13).ok, rfl⟩ rfl (by omega)
    (fun w1 β k1 b1 ho => ⟨_, _, rfl, .inr ⟨β 86, 0, rfl, own_src (rest := []) (ho.own 86 (.base (List.mem_append_right _ (List.mem_singleton.2 rfl))) _ _ rfl) rfl⟩⟩)
    (fun w15 c15 sp15 ρ15 k15 b15 hρ15 hc115 hc215 hl15 ho15 hi15 => wV rfl ?_)
   (repeat first|refine wN ?_|refine wP rfl ?_|refine cxE_r rfl ?_|refine cxE_d rfl ?_|refine wO rfl rfl ?_)
   have hS7 : ExpE 7 w15 [.int .i64 e.1, .int .i64 e.2.1, .bool s7, .slice p7 n7 c7, .bool t7, .slice y7 m7 d7] eR := by rw [heR]; exact cexp_E (q7.kp kE).rd hsub hi1 hi2
   have tr15 : TRow7 w15 ([eP] ++ [eR]) (1 + 1) c15 (([[.int .i64 e.1, .int .i64 e.2.1, .bool s, .slice px xs.length pc, .bool t, .slice py ys.length pd]] : List (List Value)) ++ [[.int .i64 e.1, .int .i64 e.2.1, .bool s7, .slice p7 n7 c7, .bool t7, .slice y7 m7 d7]]) sp15 := ⟨by rw [(tr13).len]; simp, ((tr13).el.kp (exp_ok 7) kE).snoc hS7, by simpa [List.flatten_append] using hl15, hc115, hc215, ho15, hi15⟩
   have hnew : Turn l ([eP] ++ [eR]) j N := (hts ▸ htn : Turn l [] (j + 1) N).two he hwe hePx heRx (by omega)
   refine VS.back j (by omega) ⟨_, _, ?_, ?_, ?_, ?_, ⟨j, _, _, by omega, rfl, rfl, hnew, .inr (.inl ⟨_, _, _, _, rfl, rfl, tr15⟩)⟩⟩
   ·refine ⟨rfl, rfl, rfl, rfl, rfl, rfl, ?_, trivial⟩
    exact congrArg (fun z => some (AV.val (.int .i64 z))) (IntWalk.i64_in _ (by omega))
   ·exact ⟨congrArg (fun l => some (_, l ++ sp15)) (by simp), trivial⟩
   ·rfl
   ·exact ⟨.append (.vals _) (.none hi15), trivial⟩
  ·refine VS.condN rfl (by rw [beq_eq_false_iff_ne]; exact hpk) ?_
   (repeat first|refine wN ?_|refine wP rfl ?_|refine cxE_r rfl ?_|refine cxE_d rfl ?_|refine wO rfl rfl ?_)
   refine VO.cond rfl ⟨by omega, by omega⟩ ?_
   refine wV rfl ?_
   (repeat first|refine wN ?_|refine wP rfl ?_|refine cxE_r rfl ?_|refine cxE_d rfl ?_|refine wO rfl rfl ?_)
   refine VO.read rfl [.int .i64 e.1, .int .i64 e.2.1, .bool e.2.2.1, .slice ep e.2.2.2.1.length ec, .bool e.2.2.2.2.1, .slice er e.2.2.2.2.2.length ed] rfl (cells_at hc 0 _ ⟨_, rfl⟩) (wV rfl ?_)
   (repeat first|refine wN ?_|refine wP rfl ?_|refine cxE_r rfl ?_|refine cxE_d rfl ?_|refine wO rfl rfl ?_)
   refine VO.app (cxE_ok _ _) (t := 22) (e := 36) (sz := 6) (n := 0) (c := 0) (mm := 1) (known := []) (spare := []) (del := none) (news := ([.int .i64 e.1, .int .i64 e.2.1, .bool e.2.2.1, .slice ep e.2.2.2.1.length ec, .bool e.2.2.2.2.1, .slice er e.2.2.2.2.2.length ed] : List Value).map .val) (dst := 94) rfl rfl rfl rfl rfl rfl rfl rfl (Nat.le_of_ble_eq_true rfl) rfl (.inl ⟨rfl, rfl, rfl, rfl, rfl, rfl, by omega⟩) (.inl rfl) rfl rfl (by omega) (by omega) ⟨rfl, rfl, rfl⟩ ⟨rfl, rfl, rfl⟩ rfl (by omega)
    (fun w1 β k1 b1 ho => ⟨_, _, rfl, .inr ⟨β 93, 0, rfl, own_src (rest := []) (ho.own 93 (.base (List.mem_append_right _ (List.mem_singleton.2 rfl))) _ _ rfl) rfl⟩⟩)
    (fun w17 c17 sp17 ρ17 k17 b17 hρ17 hc117 hc217 hl17 ho17 hi17 => wV rfl ?_)
   (repeat first|refine wN ?_|refine wP rfl ?_|refine cxE_r rfl ?_|refine cxE_d rfl ?_|refine wO rfl rfl ?_)
   have tr17 : TRow7 w17 [e] 1 c17 [[.int .i64 e.1, .int .i64 e.2.1, .bool e.2.2.1, .slice ep e.2.2.2.1.length ec, .bool e.2.2.2.2.1, .slice er e.2.2.2.2.2.length ed]] sp17 := ⟨rfl, .cons (hE7.kp (Kp.of (U := UU) b17)) .nil, by simpa using hl17, by omega, hc217, ho17, hi17⟩
   have hnew : Turn l ([e]) j N := (hts ▸ htn : Turn l [] (j + 1) N).one he hwe (by omega)
   refine VS.back j (by omega) ⟨_, _, ?_, ?_, ?_, ?_, ⟨j, _, _, by omega, rfl, rfl, hnew, .inr (.inr ⟨_, _, _, _, rfl, rfl, tr17⟩)⟩⟩
   ·refine ⟨rfl, rfl, rfl, rfl, rfl, rfl, ?_, trivial⟩
    exact congrArg (fun z => some (AV.val (.int .i64 z))) (IntWalk.i64_in _ (by omega))
   ·(repeat first|exact trivial|refine ⟨rfl, ?_⟩)
   ·rfl
   ·exact ⟨.append (.vals _) (.none hi17), trivial⟩
 ·(repeat first|refine wN ?_|refine wP rfl ?_|refine cxE_r rfl ?_|refine cxE_d rfl ?_|refine wO rfl rfl ?_)
  have hn20 : n ≤ 20 := by rw [htr.len]; exact htsl
  refine VO.call rfl rfl (fk Tryz.func26) (fun wa5 ka5 ba5 => (pick_any at' N wa5 (by omega)).mono ?_)
  rintro e w5 ⟨⟨kx, rfl⟩, hb5⟩
  skip
  refine ⟨_, rfl, hb5, fun kb5 _ bb5 => wV rfl ?_⟩
  (repeat first|refine wN ?_|refine wP rfl ?_|refine cxE_r rfl ?_|refine cxE_d rfl ?_|refine wO rfl rfl ?_)
  by_cases hpk : (j : Int) = kx
  ·refine VS.condY rfl (by rw [beq_iff_eq]; exact hpk) ?_
   (repeat first|refine wN ?_|refine wP rfl ?_|refine cxE_r rfl ?_|refine cxE_d rfl ?_|refine wO rfl rfl ?_)
   refine VO.cond rfl ⟨by omega, by omega⟩ ?_
   refine wV rfl ?_
   (repeat first|refine wN ?_|refine wP rfl ?_|refine cxE_r rfl ?_|refine cxE_d rfl ?_|refine wO rfl rfl ?_)
   refine VO.read rfl [.int .i64 e.1] rfl (cells_at hc 0 _ ⟨_, rfl⟩) (wV rfl ?_)
   (repeat first|refine wN ?_|refine wP rfl ?_|refine cxE_r rfl ?_|refine cxE_d rfl ?_|refine wO rfl rfl ?_)
   refine VO.cond rfl ⟨by omega, by omega⟩ ?_
   refine wV rfl ?_
   (repeat first|refine wN ?_|refine wP rfl ?_|refine cxE_r rfl ?_|refine cxE_d rfl ?_|refine wO rfl rfl ?_)
   refine VO.read rfl [.int .i64 e.2.1] rfl (cells_at hc 1 _ ⟨_, rfl⟩) (wV rfl ?_)
   (repeat first|refine wN ?_|refine wP rfl ?_|refine cxE_r rfl ?_|refine cxE_d rfl ?_|refine wO rfl rfl ?_)
   refine VO.read rfl [.bool s, .slice px xs.length pc, .bool t, .slice py ys.length pd] rfl hpc (wV rfl ?_)
   (repeat first|refine wN ?_|refine wP rfl ?_|refine cxE_r rfl ?_|refine cxE_d rfl ?_|refine wO rfl rfl ?_)
   refine VO.app (cxE_ok _ _) (t := 22) (e := 36) (sz := 6) (n := n) (c := c') (mm := 1) (known := vs.flatten.map .val) (spare := spare) (del := some 87) (news := ([.int .i64 e.1, .int .i64 e.2.1, .bool s, .slice px xs.length pc, .bool t, .slice py ys.length pd] : List Value).map .val) (dst := 66) rfl rfl rfl rfl rfl rfl rfl rfl (Nat.le_of_ble_eq_true rfl) rfl (.inr ⟨87, rfl, rfl, rfl⟩) (.inl rfl) (by rw [List.length_map, (htr).el.ok_len]; exact congrArg (· * 6) (htr).len.symm) (htr).fl (htr).le (htr).cm ⟨lidsOf_vals _, (htr).lids, rfl⟩ ⟨vals_ok ((htr).el.ok (exp_ok 7)).1, (htr).ok, rfl⟩ rfl (by omega)
    (fun w1 β k1 b1 ho => ⟨_, _, rfl, .inr ⟨β 65, 0, rfl, own_src (rest := []) (ho.own 65 (.base (List.mem_append_right _ (List.mem_singleton.2 rfl))) _ _ rfl) rfl⟩⟩)
    (fun w13 c13 sp13 ρ13 k13 b13 hρ13 hc113 hc213 hl13 ho13 hi13 => wV rfl ?_)
   (repeat first|refine wN ?_|refine wP rfl ?_|refine cxE_r rfl ?_|refine cxE_d rfl ?_|refine wO rfl rfl ?_)
   have tr13 : TRow7 w13 (ts ++ [eP]) (n + 1) c13 (vs ++ [[.int .i64 e.1, .int .i64 e.2.1, .bool s, .slice px xs.length pc, .bool t, .slice py ys.length pd]]) sp13 := ⟨by rw [(htr).len]; simp, ((htr).el.kp (exp_ok 7) kE).snoc (hP7.kp (Kp.of (U := UU) b13)), by simpa [List.flatten_append] using hl13, hc113, hc213, ho13, hi13⟩
   refine VO.cond rfl ⟨by omega, by omega⟩ ?_
   refine wV rfl ?_
   (repeat first|refine wN ?_|refine wP rfl ?_|refine cxE_r rfl ?_|refine cxE_d rfl ?_|refine wO rfl rfl ?_)
   refine VO.read rfl [.int .i64 e.1] rfl (cells_at hc 0 _ ⟨_, rfl⟩) (wV rfl ?_)
   (repeat first|refine wN ?_|refine wP rfl ?_|refine cxE_r rfl ?_|refine cxE_d rfl ?_|refine wO rfl rfl ?_)
   refine VO.cond rfl ⟨by omega, by omega⟩ ?_
   refine wV rfl ?_
   (repeat first|refine wN ?_|refine wP rfl ?_|refine cxE_r rfl ?_|refine cxE_d rfl ?_|refine wO rfl rfl ?_)
   refine VO.read rfl [.int .i64 e.2.1] rfl (cells_at hc 1 _ ⟨_, rfl⟩) (wV rfl ?_)
   (repeat first|refine wN ?_|refine wP rfl ?_|refine cxE_r rfl ?_|refine cxE_d rfl ?_|refine wO rfl rfl ?_)
   refine VO.cond rfl ⟨by omega, by omega⟩ ?_
   refine wV rfl ?_
   (repeat first|refine wN ?_|refine wP rfl ?_|refine cxE_r rfl ?_|refine cxE_d rfl ?_|refine wO rfl rfl ?_)
   refine VO.read rfl [.bool e.2.2.1, .slice ep e.2.2.2.1.length ec, .bool e.2.2.2.2.1, .slice er e.2.2.2.2.2.length ed] rfl (cells_at hc 2 _ ⟨_, rfl⟩) (wV rfl ?_)
   (repeat first|refine wN ?_|refine wP rfl ?_|refine cxE_r rfl ?_|refine cxE_d rfl ?_|refine wO rfl rfl ?_)
   refine VO.read rfl [.bool s, .slice px xs.length pc, .bool t, .slice py ys.length pd] rfl hpc (wV rfl ?_)
   refine VO.call rfl rfl (fk Tryz.func23) (fun wa7 ka7 ba7 => (ratSub_any _ _ e.exp.2.2.2 pq 3 3 wa7 (hin.kp (Kp.of (U := UU) ba7)) (hpin.kp (Kp.of (U := UU) ba7)) (by decide) (by decide)).mono ?_)
   rintro e w7 ⟨r7, rfl, q7, hb7⟩
   obtain ⟨s7, p7, n7, c7, t7, y7, m7, d7, rfl⟩ := q7.form
   refine ⟨_, rfl, hb7, fun kb7 _ bb7 => wV rfl ?_⟩
   (repeat first|refine wN ?_|refine wP rfl ?_|refine cxE_r rfl ?_|refine cxE_d rfl ?_|refine wO rfl rfl ?_)
   refine VO.fixH 66 rfl (show (vs.flatten.map AV.val ++ ([.int .i64 e.1, .int .i64 e.2.1, .bool s, .slice px xs.length pc, .bool t, .slice py ys.length pd] : List Value).map AV.val) ++ sp13 = (vs ++ ([[.int .i64 e.1, .int .i64 e.2.1, .bool s, .slice px xs.length pc, .bool t, .slice py ys.length pd]] : List (List Value))).flatten.map AV.val ++ sp13 by simp) ?_
   refine VO.app (cxE_ok _ _) (t := 22) (e := 36) (sz := 6) (n := (n + 1)) (c := c13) (mm := 1) (known := (vs ++ ([[.int .i64 e.1, .int .i64 e.2.1, .bool s, .slice px xs.length pc, .bool t, .slice py ys.length pd]] : List (List Value))).flatten.map .val) (spare := sp13) (del := some 66) (news := ([.int .i64 e.1, .int .i64 e.2.1, .bool s7, .slice p7 n7 c7, .bool t7, .slice y7 m7 d7] : List Value).map .val) (dst := 87) rfl rfl rfl rfl rfl rfl rfl rfl (Nat.le_of_ble_eq_true rfl) rfl (.inr ⟨66, rfl, rfl, rfl⟩) (.inl rfl) (by rw [List.length_map, (tr13).el.ok_len]; exact congrArg (· * 6) (tr13).len.symm) (tr13).fl (tr13).le (tr13).cm ⟨lidsOf_vals _, (tr13).lids, rfl⟩ ⟨vals_ok ((tr13).el.ok (exp_ok 7)).1, (tr13).ok, rfl⟩ rfl (by omega)
    (fun w1 β k1 b1 ho => ⟨_, _, rfl, .inr ⟨β 86, 0, rfl, own_src (rest := []) (ho.own 86 (.base (List.mem_append_right _ (List.mem_singleton.2 rfl))) _ _ rfl) rfl⟩⟩)
    (fun w15 c15 sp15 ρ15 k15 b15 hρ15 hc115 hc215 hl15 ho15 hi15 => wV rfl ?_)
   (repeat first|refine wN ?_|refine wP rfl ?_|refine cxE_r rfl ?_|refine cxE_d rfl ?_|refine wO rfl rfl ?_)
   have hS7 : ExpE 7 w15 [.int .i64 e.1, .int .i64 e.2.1, .bool s7, .slice p7 n7 c7, .bool t7, .slice y7 m7 d7] eR := by rw [heR]; exact cexp_E (q7.kp kE).rd hsub hi1 hi2
   have tr15 : TRow7 w15 ((ts ++ [eP]) ++ [eR]) ((n + 1) + 1) c15 ((vs ++ ([[.int .i64 e.1, .int .i64 e.2.1, .bool s, .slice px xs.length pc, .bool t, .slice py ys.length pd]] : List (List Value))) ++ [[.int .i64 e.1, .int .i64 e.2.1, .bool s7, .slice p7 n7 c7, .bool t7, .slice y7 m7 d7]]) sp15 := ⟨by rw [(tr13).len]; simp, ((tr13).el.kp (exp_ok 7) kE).snoc hS7, by simpa [List.flatten_append] using hl15, hc115, hc215, ho15, hi15⟩
   have hnew : Turn l ((ts ++ [eP]) ++ [eR]) j N := htn.two he hwe hePx heRx (by omega)
   refine VS.back j (by omega) ⟨_, _, ?_, ?_, ?_, ?_, ⟨j, _, _, by omega, rfl, rfl, hnew, .inr (.inl ⟨_, _, _, _, rfl, rfl, tr15⟩)⟩⟩
   ·refine ⟨rfl, rfl, rfl, rfl, rfl, rfl, ?_, trivial⟩
    exact congrArg (fun z => some (AV.val (.int .i64 z))) (IntWalk.i64_in _ (by omega))
   ·exact ⟨congrArg (fun l => some (_, l ++ sp15)) (by simp), trivial⟩
   ·rfl
   ·exact ⟨.append (.vals _) (.none hi15), trivial⟩
  ·refine VS.condN rfl (by rw [beq_eq_false_iff_ne]; exact hpk) ?_
   (repeat first|refine wN ?_|refine wP rfl ?_|refine cxE_r rfl ?_|refine cxE_d rfl ?_|refine wO rfl rfl ?_)
   refine VO.cond rfl ⟨by omega, by omega⟩ ?_
   refine wV rfl ?_
   (repeat first|refine wN ?_|refine wP rfl ?_|refine cxE_r rfl ?_|refine cxE_d rfl ?_|refine wO rfl rfl ?_)
   refine VO.read rfl [.int .i64 e.1, .int .i64 e.2.1, .bool e.2.2.1, .slice ep e.2.2.2.1.length ec, .bool e.2.2.2.2.1, .slice er e.2.2.2.2.2.length ed] rfl (cells_at hc 0 _ ⟨_, rfl⟩) (wV rfl ?_)
   (repeat first|refine wN ?_|refine wP rfl ?_|refine cxE_r rfl ?_|refine cxE_d rfl ?_|refine wO rfl rfl ?_)
   refine VO.app (cxE_ok _ _) (t := 22) (e := 36) (sz := 6) (n := n) (c := c') (mm := 1) (known := vs.flatten.map .val) (spare := spare) (del := some 87) (news := ([.int .i64 e.1, .int .i64 e.2.1, .bool e.2.2.1, .slice ep e.2.2.2.1.length ec, .bool e.2.2.2.2.1, .slice er e.2.2.2.2.2.length ed] : List Value).map .val) (dst := 94) rfl rfl rfl rfl rfl rfl rfl rfl (Nat.le_of_ble_eq_true rfl) rfl (.inr ⟨87, rfl, rfl, rfl⟩) (.inl rfl) (by rw [List.length_map, (htr).el.ok_len]; exact congrArg (· * 6) (htr).len.symm) (htr).fl (htr).le (htr).cm ⟨lidsOf_vals _, (htr).lids, rfl⟩ ⟨vals_ok ((htr).el.ok (exp_ok 7)).1, (htr).ok, rfl⟩ rfl (by omega)
    (fun w1 β k1 b1 ho => ⟨_, _, rfl, .inr ⟨β 93, 0, rfl, own_src (rest := []) (ho.own 93 (.base (List.mem_append_right _ (List.mem_singleton.2 rfl))) _ _ rfl) rfl⟩⟩)
    (fun w17 c17 sp17 ρ17 k17 b17 hρ17 hc117 hc217 hl17 ho17 hi17 => wV rfl ?_)
   (repeat first|refine wN ?_|refine wP rfl ?_|refine cxE_r rfl ?_|refine cxE_d rfl ?_|refine wO rfl rfl ?_)
   have tr17 : TRow7 w17 (ts ++ [e]) (n + 1) c17 (vs ++ [[.int .i64 e.1, .int .i64 e.2.1, .bool e.2.2.1, .slice ep e.2.2.2.1.length ec, .bool e.2.2.2.2.1, .slice er e.2.2.2.2.2.length ed]]) sp17 := ⟨by rw [(htr).len]; simp, ((htr).el.kp (exp_ok 7) kE).snoc (hE7.kp (Kp.of (U := UU) b17)), by simpa [List.flatten_append] using hl17, hc117, hc217, ho17, hi17⟩
   have hnew : Turn l (ts ++ [e]) j N := htn.one he hwe (by omega)
   refine VS.back j (by omega) ⟨_, _, ?_, ?_, ?_, ?_, ⟨j, _, _, by omega, rfl, rfl, hnew, .inr (.inr ⟨_, _, _, _, rfl, rfl, tr17⟩)⟩⟩
   ·refine ⟨rfl, rfl, rfl, rfl, rfl, rfl, ?_, trivial⟩
    exact congrArg (fun z => some (AV.val (.int .i64 z))) (IntWalk.i64_in _ (by omega))
   ·exact ⟨congrArg (fun l => some (_, l ++ sp17)) (by simp), trivial⟩
   ·rfl
   ·exact ⟨.append (.vals _) (.none hi17), trivial⟩
 ·(repeat first|refine wN ?_|refine wP rfl ?_|refine cxE_r rfl ?_|refine cxE_d rfl ?_|refine wO rfl rfl ?_)
  have hn20 : n ≤ 20 := by rw [htr.len]; exact htsl
  refine VO.call rfl rfl (fk Tryz.func26) (fun wa5 ka5 ba5 => (pick_any at' N wa5 (by omega)).mono ?_)
  rintro e w5 ⟨⟨kx, rfl⟩, hb5⟩
  skip
  refine ⟨_, rfl, hb5, fun kb5 _ bb5 => wV rfl ?_⟩
  (repeat first|refine wN ?_|refine wP rfl ?_|refine cxE_r rfl ?_|refine cxE_d rfl ?_|refine wO rfl rfl ?_)
  by_cases hpk : (j : Int) = kx
  ·refine VS.condY rfl (by rw [beq_iff_eq]; exact hpk) ?_
   (repeat first|refine wN ?_|refine wP rfl ?_|refine cxE_r rfl ?_|refine cxE_d rfl ?_|refine wO rfl rfl ?_)
   refine VO.cond rfl ⟨by omega, by omega⟩ ?_
   refine wV rfl ?_
   (repeat first|refine wN ?_|refine wP rfl ?_|refine cxE_r rfl ?_|refine cxE_d rfl ?_|refine wO rfl rfl ?_)
   refine VO.read rfl [.int .i64 e.1] rfl (cells_at hc 0 _ ⟨_, rfl⟩) (wV rfl ?_)
   (repeat first|refine wN ?_|refine wP rfl ?_|refine cxE_r rfl ?_|refine cxE_d rfl ?_|refine wO rfl rfl ?_)
   refine VO.cond rfl ⟨by omega, by omega⟩ ?_
   refine wV rfl ?_
   (repeat first|refine wN ?_|refine wP rfl ?_|refine cxE_r rfl ?_|refine cxE_d rfl ?_|refine wO rfl rfl ?_)
   refine VO.read rfl [.int .i64 e.2.1] rfl (cells_at hc 1 _ ⟨_, rfl⟩) (wV rfl ?_)
   (repeat first|refine wN ?_|refine wP rfl ?_|refine cxE_r rfl ?_|refine cxE_d rfl ?_|refine wO rfl rfl ?_)
   refine VO.read rfl [.bool s, .slice px xs.length pc, .bool t, .slice py ys.length pd] rfl hpc (wV rfl ?_)
   (repeat first|refine wN ?_|refine wP rfl ?_|refine cxE_r rfl ?_|refine cxE_d rfl ?_|refine wO rfl rfl ?_)
   refine VO.app (cxE_ok _ _) (t := 22) (e := 36) (sz := 6) (n := n) (c := c') (mm := 1) (known := vs.flatten.map .val) (spare := spare) (del := some 94) (news := ([.int .i64 e.1, .int .i64 e.2.1, .bool s, .slice px xs.length pc, .bool t, .slice py ys.length pd] : List Value).map .val) (dst := 66) rfl rfl rfl rfl rfl rfl rfl rfl (Nat.le_of_ble_eq_true rfl) rfl (.inr ⟨94, rfl, rfl, rfl⟩) (.inl rfl) (by rw [List.length_map, (htr).el.ok_len]; exact congrArg (· * 6) (htr).len.symm) (htr).fl (htr).le (htr).cm ⟨lidsOf_vals _, (htr).lids, rfl⟩ ⟨vals_ok ((htr).el.ok (exp_ok 7)).1, (htr).ok, rfl⟩ rfl (by omega)
    (fun w1 β k1 b1 ho => ⟨_, _, rfl, .inr ⟨β 65, 0, rfl, own_src (rest := []) (ho.own 65 (.base (List.mem_append_right _ (List.mem_singleton.2 rfl))) _ _ rfl) rfl⟩⟩)
    (fun w13 c13 sp13 ρ13 k13 b13 hρ13 hc113 hc213 hl13 ho13 hi13 => wV rfl ?_)
   (repeat first|refine wN ?_|refine wP rfl ?_|refine cxE_r rfl ?_|refine cxE_d rfl ?_|refine wO rfl rfl ?_)
   have tr13 : TRow7 w13 (ts ++ [eP]) (n + 1) c13 (vs ++ [[.int .i64 e.1, .int .i64 e.2.1, .bool s, .slice px xs.length pc, .bool t, .slice py ys.length pd]]) sp13 := ⟨by rw [(htr).len]; simp, ((htr).el.kp (exp_ok 7) kE).snoc (hP7.kp (Kp.of (U := UU) b13)), by simpa [List.flatten_append] using hl13, hc113, hc213, ho13, hi13⟩
   refine VO.cond rfl ⟨by omega, by omega⟩ ?_
   refine wV rfl ?_
   (repeat first|refine wN ?_|refine wP rfl ?_|refine cxE_r rfl ?_|refine cxE_d rfl ?_|refine wO rfl rfl ?_)
   refine VO.read rfl [.int .i64 e.1] rfl (cells_at hc 0 _ ⟨_, rfl⟩) (wV rfl ?_)
   (repeat first|refine wN ?_|refine wP rfl ?_|refine cxE_r rfl ?_|refine cxE_d rfl ?_|refine wO rfl rfl ?_)
   refine VO.cond rfl ⟨by omega, by omega⟩ ?_
   refine wV rfl ?_
   (repeat first|refine wN ?_|refine wP rfl ?_|refine cxE_r rfl ?_|refine cxE_d rfl ?_|refine wO rfl rfl ?_)
   refine VO.read rfl [.int .i64 e.2.1] rfl (cells_at hc 1 _ ⟨_, rfl⟩) (wV rfl ?_)
   (repeat first|refine wN ?_|refine wP rfl ?_|refine cxE_r rfl ?_|refine cxE_d rfl ?_|refine wO rfl rfl ?_)
   refine VO.cond rfl ⟨by omega, by omega⟩ ?_
   refine wV rfl ?_
   (repeat first|refine wN ?_|refine wP rfl ?_|refine cxE_r rfl ?_|refine cxE_d rfl ?_|refine wO rfl rfl ?_)
   refine VO.read rfl [.bool e.2.2.1, .slice ep e.2.2.2.1.length ec, .bool e.2.2.2.2.1, .slice er e.2.2.2.2.2.length ed] rfl (cells_at hc 2 _ ⟨_, rfl⟩) (wV rfl ?_)
   (repeat first|refine wN ?_|refine wP rfl ?_|refine cxE_r rfl ?_|refine cxE_d rfl ?_|refine wO rfl rfl ?_)
   refine VO.read rfl [.bool s, .slice px xs.length pc, .bool t, .slice py ys.length pd] rfl hpc (wV rfl ?_)
   refine VO.call rfl rfl (fk Tryz.func23) (fun wa7 ka7 ba7 => (ratSub_any _ _ e.exp.2.2.2 pq 3 3 wa7 (hin.kp (Kp.of (U := UU) ba7)) (hpin.kp (Kp.of (U := UU) ba7)) (by decide) (by decide)).mono ?_)
   rintro e w7 ⟨r7, rfl, q7, hb7⟩
   obtain ⟨s7, p7, n7, c7, t7, y7, m7, d7, rfl⟩ := q7.form
   refine ⟨_, rfl, hb7, fun kb7 _ bb7 => wV rfl ?_⟩
   (repeat first|refine wN ?_|refine wP rfl ?_|refine cxE_r rfl ?_|refine cxE_d rfl ?_|refine wO rfl rfl ?_)
   refine VO.fixH 66 rfl (show (vs.flatten.map AV.val ++ ([.int .i64 e.1, .int .i64 e.2.1, .bool s, .slice px xs.length pc, .bool t, .slice py ys.length pd] : List Value).map AV.val) ++ sp13 = (vs ++ ([[.int .i64 e.1, .int .i64 e.2.1, .bool s, .slice px xs.length pc, .bool t, .slice py ys.length pd]] : List (List Value))).flatten.map AV.val ++ sp13 by simp) ?_
   refine VO.app (cxE_ok _ _) (t := 22) (e := 36) (sz := 6) (n := (n + 1)) (c := c13) (mm := 1) (known := (vs ++ ([[.int .i64 e.1, .int .i64 e.2.1, .bool s, .slice px xs.length pc, .bool t, .slice py ys.length pd]] : List (List Value))).flatten.map .val) (spare := sp13) (del := some 66) (news := ([.int .i64 e.1, .int .i64 e.2.1, .bool s7, .slice p7 n7 c7, .bool t7, .slice y7 m7 d7] : List Value).map .val) (dst := 87) rfl rfl rfl rfl rfl rfl rfl rfl (Nat.le_of_ble_eq_true rfl) rfl (.inr ⟨66, rfl, rfl, rfl⟩) (.inl rfl) (by rw [List.length_map, (tr13).el.ok_len]; exact congrArg (· * 6) (tr13).len.symm) (tr13).fl (tr13).le (tr13).cm ⟨lidsOf_vals _, (tr13).lids, rfl⟩ ⟨vals_ok ((tr13).el.ok (exp_ok 7)).1, (tr13).ok, rfl⟩ rfl (by omega)
    (fun w1 β k1 b1 ho => ⟨_, _, rfl, .inr ⟨β 86, 0, rfl, own_src (rest := []) (ho.own 86 (.base (List.mem_append_right _ (List.mem_singleton.2 rfl))) _ _ rfl) rfl⟩⟩)
    (fun w15 c15 sp15 ρ15 k15 b15 hρ15 hc115 hc215 hl15 ho15 hi15 => wV rfl ?_)
   (repeat first|refine wN ?_|refine wP rfl ?_|refine cxE_r rfl ?_|refine cxE_d rfl ?_|refine wO rfl rfl ?_)
   have hS7 : ExpE 7 w15 [.int .i64 e.1, .int .i64 e.2.1, .bool s7, .slice p7 n7 c7, .bool t7, .slice y7 m7 d7] eR := by rw [heR]; exact cexp_E (q7.kp kE).rd hsub hi1 hi2
   have tr15 : TRow7 w15 ((ts ++ [eP]) ++ [eR]) ((n + 1) + 1) c15 ((vs ++ ([[.int .i64 e.1, .int .i64 e.2.1, .bool s, .slice px xs.length pc, .bool t, .slice py ys.length pd]] : List (List Value))) ++ [[.int .i64 e.1, .int .i64 e.2.1, .bool s7, .slice p7 n7 c7, .bool t7, .slice y7 m7 d7]]) sp15 := ⟨by rw [(tr13).len]; simp, ((tr13).el.kp (exp_ok 7) kE).snoc hS7, by simpa [List.flatten_append] using hl15, hc115, hc215, ho15, hi15⟩
   have hnew : Turn l ((ts ++ [eP]) ++ [eR]) j N := htn.two he hwe hePx heRx (by omega)
   refine VS.back j (by omega) ⟨_, _, ?_, ?_, ?_, ?_, ⟨j, _, _, by omega, rfl, rfl, hnew, .inr (.inl ⟨_, _, _, _, rfl, rfl, tr15⟩)⟩⟩
   ·refine ⟨rfl, rfl, rfl, rfl, rfl, rfl, ?_, trivial⟩
    exact congrArg (fun z => some (AV.val (.int .i64 z))) (IntWalk.i64_in _ (by omega))
   ·exact ⟨congrArg (fun l => some (_, l ++ sp15)) (by simp), trivial⟩
   ·rfl
   ·exact ⟨.append (.vals _) (.none hi15), trivial⟩
  ·refine VS.condN rfl (by rw [beq_eq_false_iff_ne]; exact hpk) ?_
   (repeat first|refine wN ?_|refine wP rfl ?_|refine cxE_r rfl ?_|refine cxE_d rfl ?_|refine wO rfl rfl ?_)
   refine VO.cond rfl ⟨by omega, by omega⟩ ?_
   refine wV rfl ?_
   (repeat first|refine wN ?_|refine wP rfl ?_|refine cxE_r rfl ?_|refine cxE_d rfl ?_|refine wO rfl rfl ?_)
   refine VO.read rfl [.int .i64 e.1, .int .i64 e.2.1, .bool e.2.2.1, .slice ep e.2.2.2.1.length ec, .bool e.2.2.2.2.1, .slice er e.2.2.2.2.2.length ed] rfl (cells_at hc 0 _ ⟨_, rfl⟩) (wV rfl ?_)
   (repeat first|refine wN ?_|refine wP rfl ?_|refine cxE_r rfl ?_|refine cxE_d rfl ?_|refine wO rfl rfl ?_)
   refine VO.app (cxE_ok _ _) (t := 22) (e := 36) (sz := 6) (n := n) (c := c') (mm := 1) (known := vs.flatten.map .val) (spare := spare) (del := some 94) (news := ([.int .i64 e.1, .int .i64 e.2.1, .bool e.2.2.1, .slice ep e.2.2.2.1.length ec, .bool e.2.2.2.2.1, .slice er e.2.2.2.2.2.length ed] : List Value).map .val) (dst := 94) rfl rfl rfl rfl rfl rfl rfl rfl (Nat.le_of_ble_eq_true rfl) rfl (.inr ⟨94, rfl, rfl, rfl⟩) (.inr rfl) (by rw [List.length_map, (htr).el.ok_len]; exact congrArg (· * 6) (htr).len.symm) (htr).fl (htr).le (htr).cm ⟨lidsOf_vals _, (htr).lids, rfl⟩ ⟨vals_ok ((htr).el.ok (exp_ok 7)).1, (htr).ok, rfl⟩ rfl (by omega)
    (fun w1 β k1 b1 ho => ⟨_, _, rfl, .inr ⟨β 93, 0, rfl, own_src (rest := []) (ho.own 93 (.base (List.mem_append_right _ (List.mem_singleton.2 rfl))) _ _ rfl) rfl⟩⟩)
    (fun w17 c17 sp17 ρ17 k17 b17 hρ17 hc117 hc217 hl17 ho17 hi17 => wV rfl ?_)
   (repeat first|refine wN ?_|refine wP rfl ?_|refine cxE_r rfl ?_|refine cxE_d rfl ?_|refine wO rfl rfl ?_)
   have tr17 : TRow7 w17 (ts ++ [e]) (n + 1) c17 (vs ++ [[.int .i64 e.1, .int .i64 e.2.1, .bool e.2.2.1, .slice ep e.2.2.2.1.length ec, .bool e.2.2.2.2.1, .slice er e.2.2.2.2.2.length ed]]) sp17 := ⟨by rw [(htr).len]; simp, ((htr).el.kp (exp_ok 7) kE).snoc (hE7.kp (Kp.of (U := UU) b17)), by simpa [List.flatten_append] using hl17, hc117, hc217, ho17, hi17⟩
   have hnew : Turn l (ts ++ [e]) j N := htn.one he hwe (by omega)
   refine VS.back j (by omega) ⟨_, _, ?_, ?_, ?_, ?_, ⟨j, _, _, by omega, rfl, rfl, hnew, .inr (.inr ⟨_, _, _, _, rfl, rfl, tr17⟩)⟩⟩
   ·refine ⟨rfl, rfl, rfl, rfl, rfl, rfl, ?_, trivial⟩
    exact congrArg (fun z => some (AV.val (.int .i64 z))) (IntWalk.i64_in _ (by omega))
   ·exact ⟨congrArg (fun l => some (_, l ++ sp17)) (by simp), trivial⟩
   ·rfl
   ·exact ⟨.append (.vals _) (.none hi17), trivial⟩
end Go.Proofs.YtohlmpibnnkanaaGreat
