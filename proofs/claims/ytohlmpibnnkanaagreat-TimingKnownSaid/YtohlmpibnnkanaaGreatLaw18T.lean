/- TimingTells: what this statement's function answers. (Printed by gen18t.py.) -/
import Derived.Test.YtohlmpibnnkanaaGreatLaw18B
import Derived.Test.YtohlmpibnnkanaaGreatWrite
set_option linter.all false
set_option maxRecDepth 4000
namespace Go.Proofs.YtohlmpibnnkanaaGreat
open Go.RowKit
attribute [local irreducible] vcOps VS

theorem Huk.any {T : TypeId → Bool} {w w' : World} {b n : Nat} {p : Option Addr} (h : Huk w p n) (k : Over T b w w') : Huk w' p n := fun h0 => by
 obtain ⟨g, cur, hp, hg, hn⟩ := h h0
 by_cases e : g = b
 ·subst e
  obtain ⟨c, h1, h2⟩ := k.shp cur UU hg (by simp)
  exact ⟨g, c, hp, h1, by omega⟩
 ·exact ⟨g, cur, hp, k.kp.block UU g cur (by simp [KC.fz]) e hg, hn⟩
def WOk (B : Nat) (w : World) (cs : List Value) : Prop := ∃ y n s p m c t r m' d, cs = [.int .i64 y, .int .i64 n, .bool s, .slice p m c, .bool t, .slice r m' d] ∧ Huk w p m ∧ Lies (fun b => B ≤ b) p m ∧ m ≤ 1000000
theorem WOk.any {T : TypeId → Bool} {B : Nat} {w w' : World} {b : Nat} {cs : List Value} (h : WOk B w cs) (k : Over T b w w') : WOk B w' cs := by
 obtain ⟨y, n, s, p, m, c, t, r, m', d, h1, h2, h3⟩ := h
 exact ⟨y, n, s, p, m, c, t, r, m', d, h1, h2.any k, h3⟩
theorem WOk.zero (B : Nat) (w : World) : WOk B w [.int .i64 0, .int .i64 0, .bool false, .slice none 0 0, .bool false, .slice none 0 0] :=
 ⟨_, _, _, _, _, _, _, _, _, _, rfl, fun h => absurd h (Nat.lt_irrefl 0), fun h => absurd h (Nat.lt_irrefl 0), by decide⟩
theorem WOk.of {B kk : Nat} {w : World} {cs : List Value} {e : RExp} (h : ExpO B kk w cs e) (hk : kk ≤ 1000000) : WOk B w cs := by
 obtain ⟨h1, h2⟩ := h
 obtain ⟨p, c, r, d, rfl, -, -, -, hx, -⟩ := h1
 have h3 := (RatOwn.parts (show RatOwn w B (.agg #[.bool e.2.2.1, .slice p e.2.2.2.1.length c, .bool e.2.2.2.2.1, .slice r e.2.2.2.2.2.length d]) _ from h2)).1
 exact ⟨_, _, _, _, _, _, _, _, _, _, rfl, h3.huk, h3.lies, by omega⟩
theorem ExpO.kp' {B kk : Nat} {w w' : World} {cs : List Value} {e : RExp} (h : ExpO B kk w cs e) (k : Kp UU w w') : ExpO B kk w' cs e := ⟨h.1.kp k, h.2.kp k⟩
theorem q18Of_not (v : Value) (l : List RExp) (kk : Nat) (w : World) (hv : SlIn (ExpE kk) 6 w v l) (hk : kk ≤ 1024) (hn : l.length ≤ 64) (h : ewell l = false) :
  Calls Tryz.prog 28 #[v] w fun o w' => o = .returned (.tuple #[.slice none 0 0, .int .i64 2]) ∧ Beh w w' := by
 refine (q18Of_any v l kk w hv hk hn).mono ?_
 rintro o w' ⟨r, rfl, -, h1, hb⟩
 rw [h, h1 h]
 exact ⟨rfl, hb⟩
set_option maxRecDepth 4000 in
set_option maxHeartbeats 16000000 in
theorem tells18_any (v : Value) (l : List RExp) (z : Int) (kk : Nat) (w : World) (hv : SlIn (ExpE kk) 6 w v l) (hz : i64b z) :
  Calls Tryz.prog 5 #[v, .int .i64 z] w fun o w' => o = .returned (.bool true) ∧ Beh w w' := by
 obtain ⟨p, c, rfl, hnc, hcm⟩ := hv.form
 obtain ⟨N, hN⟩ : ∃ N, N = l.length := ⟨_, rfl⟩
 rw [← hN] at hv hnc
 rw [← hN]
 refine calm_enter (C := cxT Tryz.prog w _) (args := [_, _]) Tryz.func5 rfl Tryz.ntmps5 (Nat.le_of_ble_eq_true rfl) ?_
 (repeat first|refine wN ?_|refine wP rfl ?_|refine cxT_r rfl ?_|refine cxT_d rfl ?_|refine wO rfl rfl ?_)
 cases hf : fewE l with
 | false =>
  refine VO.call rfl rfl (fk Tryz.func14) (fun wa1 ka1 ba1 => (few18_ok _ l kk wa1 (hv.beh (exp_ok kk) ba1) false hf).mono ?_)
  rintro e w1 ⟨rfl, hb1⟩
  skip
  refine ⟨_, rfl, hb1, fun kb1 _ bb1 => wV rfl ?_⟩
  (repeat first|refine wN ?_|refine wP rfl ?_|refine cxT_r rfl ?_|refine cxT_d rfl ?_|refine wO rfl rfl ?_)
  refine VO.call rfl rfl (fk Tryz.func15) (fun wa2 ka2 ba2 => (works18_any wa2).mono ?_)
  rintro e w2 ⟨rfl, hb2⟩
  skip
  refine ⟨_, rfl, hb2, fun kb2 _ bb2 => wV rfl ?_⟩
  (repeat first|refine wN ?_|refine wP rfl ?_|refine cxT_r rfl ?_|refine cxT_d rfl ?_|refine wO rfl rfl ?_)
  refine VS.ret (cxT_ok _ _) rfl rfl (fun wz kz bz => ?_)
  exact ⟨rfl, bz⟩
 | true =>
 refine VO.call rfl rfl (fk Tryz.func14) (fun wa1 ka1 ba1 => (few18_ok _ l kk wa1 (hv.beh (exp_ok kk) ba1) true hf).mono ?_)
 rintro e w1 ⟨rfl, hb1⟩
 skip
 refine ⟨_, rfl, hb1, fun kb1 _ bb1 => wV rfl ?_⟩
 (repeat first|refine wN ?_|refine wP rfl ?_|refine cxT_r rfl ?_|refine cxT_d rfl ?_|refine wO rfl rfl ?_)
 have hl3 := fewE_sl hf hv
 have h10 : N ≤ 10 := by rw [hN]; exact fewE_len hf
 refine VO.call rfl rfl (fk Tryz.func27) (fun wa5 ka5 ba5 => (ref18_any _ l 3 wa5 (hl3.beh (exp_ok 3) ba5) (by decide) (by omega)).mono ?_)
 rintro e w5 ⟨r5, rfl, q5, hb5⟩
 obtain ⟨p5, c5, rfl⟩ := q5.form
 refine ⟨_, rfl, hb5, fun kb5 _ bb5 => wV rfl ?_⟩
 (repeat first|refine wN ?_|refine wP rfl ?_|refine cxT_r rfl ?_|refine cxT_d rfl ?_|refine wO rfl rfl ?_)
 cases hw : ewell l with
 | false =>
  refine VO.call rfl rfl (fk Tryz.func28) (fun wa6 ka6 ba6 => (q18Of_not _ l 3 wa6 ((q5.kp (exp_ok 3) (by (with_reducible (repeat (first | assumption | exact kU _ | exact kR _ | exact Kp.of (U := UU) (by assumption) | exact KpS.of (by assumption) | refine kT ?_ (by assumption))))) rfl).sl (exp_ok 3)) (by decide) (by omega) hw).mono ?_)
  rintro e w6 ⟨rfl, hb6⟩
  skip
  refine ⟨_, rfl, hb6, fun kb6 _ bb6 => wV rfl ?_⟩
  (repeat first|refine wN ?_|refine wP rfl ?_|refine cxT_r rfl ?_|refine cxT_d rfl ?_|refine wO rfl rfl ?_)
  refine VO.call rfl rfl (fk Tryz.func16) (fun wa7 ka7 ba7 => (tOf_not _ l 3 wa7 (hl3.beh (exp_ok 3) ba7) (by decide) (by omega) hw).mono ?_)
  rintro e w7 ⟨rfl, hb7⟩
  skip
  refine ⟨_, rfl, hb7, fun kb7 _ bb7 => wV rfl ?_⟩
  (repeat first|refine wN ?_|refine wP rfl ?_|refine cxT_r rfl ?_|refine cxT_d rfl ?_|refine wO rfl rfl ?_)
  rw [← hN]
  refine VS.rebase (fun w => cxE Tryz.prog w 167) (fun _ => rfl) (fun _ => rfl) (fun _ => Beh.refl _) (fun W1 β1 k1 o1 en1 => ?_)
  refine ⟨[(0, .val (.slice p N c)), (1, .val (.int .i64 z)), (5, .val (.slice p5 N c5)), (6, .val (.slice none 0 0)), (7, .val (.int .i64 2)), (8, .val (.pointer none)), (10, .val (.int .i64 0))], ⟨⟨_, _, rfl, rfl, rfl⟩, ⟨_, _, rfl, rfl, rfl⟩, ⟨_, _, rfl, rfl, rfl⟩, ⟨_, _, rfl, rfl, rfl⟩, ⟨_, _, rfl, rfl, rfl⟩, ⟨_, _, rfl, rfl, rfl⟩, ⟨_, _, rfl, rfl, rfl⟩, trivial⟩, ?_⟩
  have hl1 := hl3.beh (exp_ok 3) o1
  have hr1 : SlIn (ExpE 3) 6 W1 (.slice p5 l.length c5) l := (q5.kp (exp_ok 3) (by (with_reducible (repeat (first | assumption | exact kU _ | exact kR _ | exact Kp.of (U := UU) (by assumption) | exact KpS.of (by assumption) | refine kT ?_ (by assumption))))) rfl).sl (exp_ok 3)
  rw [← hN] at hr1
  refine VS.loop (J := fun m L M w' => ∃ i : Nat, i ≤ N ∧ m = N - i ∧ L = [(0, .val (.slice p N c)), (1, .val (.int .i64 z)), (5, .val (.slice p5 N c5)), (6, .val (.slice none 0 0)), (7, .val (.int .i64 2)), (8, .val (.pointer none)), (10, .val (.int .i64 (i : Int)))] ∧ M = []) N ⟨_, _, ?_, ?_, ?_, ?_, ⟨0, by omega, rfl, rfl, rfl⟩⟩ ?_
  ·(repeat first|exact trivial|refine ⟨rfl, ?_⟩)
  ·(repeat first|exact trivial|refine ⟨rfl, ?_⟩)
  ·rfl
  ·(repeat first|exact trivial|refine ⟨ClosedC.lit rfl, ?_⟩|refine ⟨ClosedC.vals _, ?_⟩)
  rintro m L M w4 ⟨i, hi, rfl, rfl, rfl⟩
  (repeat first|refine wN ?_|refine wP rfl ?_|refine cxE_r rfl ?_|refine cxE_d rfl ?_|refine wO rfl rfl ?_)
  by_cases hlt : i < N
  ·obtain ⟨e, he⟩ : ∃ e, l[i]? = some e := ⟨_, List.getElem?_eq_getElem (by omega)⟩
   obtain ⟨b, off, cs', hpp, hc, hE⟩ := hl1.at he
   obtain ⟨b', off', cs'', hpp', hc', hE'⟩ := hr1.at he
   have hE0 := hE
   have hF0 := hE'
   obtain ⟨ep, ec, er, ed, rfl, -, -, hraw, hx1, hx2⟩ := hE
   obtain ⟨fp, fc, fr, fd, rfl, -⟩ := hE'
   simp only [hpp, hpp']
   refine VS.condY rfl (decide_eq_true (Int.ofNat_lt.2 hlt)) ?_
   (repeat first|refine wN ?_|refine wP rfl ?_|refine cxE_r rfl ?_|refine cxE_d rfl ?_|refine wO rfl rfl ?_)
   refine VO.cond rfl ⟨by omega, by omega⟩ ?_
   refine wV rfl ?_
   (repeat first|refine wN ?_|refine wP rfl ?_|refine cxE_r rfl ?_|refine cxE_d rfl ?_|refine wO rfl rfl ?_)
   refine VO.read rfl [.int .i64 e.1, .int .i64 e.2.1, .bool e.2.2.1, .slice ep e.2.2.2.1.length ec, .bool e.2.2.2.2.1, .slice er e.2.2.2.2.2.length ed] rfl (cells_at hc 0 _ ⟨[], rfl⟩) (wV rfl ?_)
   refine VO.call rfl rfl (fk Tryz.func18) (fun wa11 ka11 ba11 => (tPart_any _ e 3 z wa11 ⟨_, rfl, hE0.kp (Kp.of (U := UU) ba11)⟩ (by decide) hz).mono ?_)
   rintro e w11 ⟨r11, rfl, q11, hb11⟩
   obtain ⟨s11, p11, n11, c11, t11, y11, m11, d11, rfl⟩ := q11.form
   refine ⟨_, rfl, hb11, fun kb11 _ bb11 => wV rfl ?_⟩
   (repeat first|refine wN ?_|refine wP rfl ?_|refine cxE_r rfl ?_|refine cxE_d rfl ?_|refine wO rfl rfl ?_)
   refine VO.cond rfl ⟨by omega, by omega⟩ ?_
   refine wV rfl ?_
   (repeat first|refine wN ?_|refine wP rfl ?_|refine cxE_r rfl ?_|refine cxE_d rfl ?_|refine wO rfl rfl ?_)
   refine VO.read rfl [.int .i64 e.1, .int .i64 e.2.1, .bool e.2.2.1, .slice fp e.2.2.2.1.length fc, .bool e.2.2.2.2.1, .slice fr e.2.2.2.2.2.length fd] rfl (cells_at hc' 0 _ ⟨[], rfl⟩) (wV rfl ?_)
   refine VO.call rfl rfl (fk Tryz.func30) (fun wa12 ka12 ba12 => (q18Part_any _ e 3 z wa12 ⟨_, rfl, hF0.kp (Kp.of (U := UU) ba12)⟩ (by decide) hz).mono ?_)
   rintro e w12 ⟨r12, rfl, q12, hb12⟩
   obtain ⟨s12, p12, n12, c12, t12, y12, m12, d12, rfl⟩ := q12.form
   refine ⟨_, rfl, hb12, fun kb12 _ bb12 => wV rfl ?_⟩
   (repeat first|refine wN ?_|refine wP rfl ?_|refine cxE_r rfl ?_|refine cxE_d rfl ?_|refine wO rfl rfl ?_)
   refine VO.call rfl rfl (fk Tryz.func29) (fun wa13 ka13 ba13 => (filIs_any (epart e.exp z) _ _ wa13 (q11.kp kE).rd (q12.kp kE).rd).mono ?_)
   rintro e w13 ⟨rfl, hb13⟩
   skip
   refine ⟨_, rfl, hb13, fun kb13 _ bb13 => wV rfl ?_⟩
   (repeat first|refine wN ?_|refine wP rfl ?_|refine cxE_r rfl ?_|refine cxE_d rfl ?_|refine wO rfl rfl ?_)
   refine VS.back (N - (i + 1)) (by omega) ⟨_, _, ?_, ?_, ?_, ?_, ⟨i + 1, by omega, rfl, rfl, rfl⟩⟩
   ·refine ⟨rfl, rfl, rfl, rfl, rfl, rfl, ?_, trivial⟩
    rw [← nat_step (i := i) (by omega)]; rfl
   ·(repeat first|exact trivial|refine ⟨rfl, ?_⟩)
   ·rfl
   ·(repeat first|exact trivial|refine ⟨ClosedC.lit rfl, ?_⟩|refine ⟨ClosedC.vals _, ?_⟩)
  refine VS.condN rfl (decide_eq_false (fun e => hlt (Int.ofNat_lt.1 e))) ?_
  (repeat first|refine wN ?_|refine wP rfl ?_|refine cxE_r rfl ?_|refine cxE_d rfl ?_|refine wO rfl rfl ?_)
  refine VO.call rfl rfl (fk Tryz.func15) (fun wa14 ka14 ba14 => (works18_any wa14).mono ?_)
  rintro e w14 ⟨rfl, hb14⟩
  skip
  refine ⟨_, rfl, hb14, fun kb14 _ bb14 => wV rfl ?_⟩
  (repeat first|refine wN ?_|refine wP rfl ?_|refine cxE_r rfl ?_|refine cxE_d rfl ?_|refine wO rfl rfl ?_)
  refine VS.ret (cxE_ok _ _) rfl rfl (fun wz kz bz => ?_)
  exact ⟨rfl, o1.thn bz⟩
 | true =>
 have hwl := ewell_iff.1 hw
 have hwt : ∀ e ∈ etaken l, ewrong e.exp = false := fun e he => hwl e (List.mem_filter.1 he).1
 have htl : (etaken l).length ≤ 10 := Nat.le_trans (List.length_filter_le _ _) (by omega)
 refine VO.call rfl rfl (fk Tryz.func28) (fun wa6 ka6 ba6 => (q18Of_ok _ l 3 wa6 ((q5.kp (exp_ok 3) (by (with_reducible (repeat (first | assumption | exact kU _ | exact kR _ | exact Kp.of (U := UU) (by assumption) | exact KpS.of (by assumption) | refine kT ?_ (by assumption))))) rfl).sl (exp_ok 3)) (by decide) (by omega) hw).mono ?_)
 rintro e w6 ⟨r6, rfl, q6, hb6⟩
 obtain ⟨p6, c6, rfl⟩ := q6.form
 refine ⟨_, rfl, hb6, fun kb6 _ bb6 => wV rfl ?_⟩
 (repeat first|refine wN ?_|refine wP rfl ?_|refine cxT_r rfl ?_|refine cxT_d rfl ?_|refine wO rfl rfl ?_)
 refine VO.call rfl rfl (fk Tryz.func16) (fun wa7 ka7 ba7 => (tOf_well _ l 3 wa7 (hl3.beh (exp_ok 3) ba7) (by decide) (by omega) hw).mono ?_)
 rintro e w7 ⟨g, rfl, hg7, q7, hb7⟩
 skip
 refine ⟨_, rfl, hb7, fun kb7 _ bb7 => wV rfl ?_⟩
 (repeat first|refine wN ?_|refine wP rfl ?_|refine cxT_r rfl ?_|refine cxT_d rfl ?_|refine wO rfl rfl ?_)
 obtain ⟨c60, hc60⟩ : ∃ a, a = (etaken l).length := ⟨_, rfl⟩
 rw [← hN, ← hc60]
 refine VS.rebase (fun w => cxE Tryz.prog w 167) (fun _ => rfl) (fun _ => rfl) (fun _ => Beh.refl _) (fun W1 β1 k1 o1 en1 => ?_)
 refine ⟨[(0, .val (.slice p N c)), (1, .val (.int .i64 z)), (5, .val (.slice p5 N c5)), (6, .val (.slice p6 c60 c6)), (7, .val (.int .i64 0)), (8, .val (.pointer (some ⟨g, 0, none⟩))), (10, .val (.int .i64 0))], ⟨⟨_, _, rfl, rfl, rfl⟩, ⟨_, _, rfl, rfl, rfl⟩, ⟨_, _, rfl, rfl, rfl⟩, ⟨_, _, rfl, rfl, rfl⟩, ⟨_, _, rfl, rfl, rfl⟩, ⟨_, _, rfl, rfl, rfl⟩, ⟨_, _, rfl, rfl, rfl⟩, trivial⟩, ?_⟩
 have hl1 := hl3.beh (exp_ok 3) o1
 have hr1 : SlIn (ExpE 3) 6 W1 (.slice p5 l.length c5) l := (q5.kp (exp_ok 3) (by (with_reducible (repeat (first | assumption | exact kU _ | exact kR _ | exact Kp.of (U := UU) (by assumption) | exact KpS.of (by assumption) | refine kT ?_ (by assumption))))) rfl).sl (exp_ok 3)
 rw [← hN] at hr1
 have hw1 : SlIn (ExpE 3) 6 W1 (.slice p6 (etaken l).length c6) (etaken l) := (q6.kp (exp_ok 3) (by (with_reducible (repeat (first | assumption | exact kU _ | exact kR _ | exact Kp.of (U := UU) (by assumption) | exact KpS.of (by assumption) | refine kT ?_ (by assumption))))) rfl).sl (exp_ok 3)
 rw [← hc60] at hw1
 have hled1 : LedAt 3 W1 wa7.heap.size g (etaken l) := q7.kp (by (with_reducible (repeat (first | assumption | exact kU _ | exact kR _ | exact Kp.of (U := UU) (by assumption) | exact KpS.of (by assumption) | refine kT ?_ (by assumption))))) rfl rfl
 refine VS.loop (J := fun m L M w' => ∃ i : Nat, i ≤ N ∧ m = N - i ∧ L = [(0, .val (.slice p N c)), (1, .val (.int .i64 z)), (5, .val (.slice p5 N c5)), (6, .val (.slice p6 c60 c6)), (7, .val (.int .i64 0)), (8, .val (.pointer (some ⟨g, 0, none⟩))), (10, .val (.int .i64 (i : Int)))] ∧ M = []) N ⟨_, _, ?_, ?_, ?_, ?_, ⟨0, by omega, rfl, rfl, rfl⟩⟩ ?_
 ·(repeat first|exact trivial|refine ⟨rfl, ?_⟩)
 ·(repeat first|exact trivial|refine ⟨rfl, ?_⟩)
 ·rfl
 ·(repeat first|exact trivial|refine ⟨ClosedC.lit rfl, ?_⟩|refine ⟨ClosedC.vals _, ?_⟩)
 rintro m L M w4 ⟨i, hi, rfl, rfl, rfl⟩
 (repeat first|refine wN ?_|refine wP rfl ?_|refine cxE_r rfl ?_|refine cxE_d rfl ?_|refine wO rfl rfl ?_)
 by_cases hlt : i < N
 ·obtain ⟨e, he⟩ : ∃ e, l[i]? = some e := ⟨_, List.getElem?_eq_getElem (by omega)⟩
  obtain ⟨b, off, cs', hpp, hc, hE⟩ := hl1.at he
  obtain ⟨b', off', cs'', hpp', hc', hE'⟩ := hr1.at he
  have hE0 := hE
  have hF0 := hE'
  obtain ⟨ep, ec, er, ed, rfl, -, -, hraw, hx1, hx2⟩ := hE
  obtain ⟨fp, fc, fr, fd, rfl, -⟩ := hE'
  simp only [hpp, hpp']
  refine VS.condY rfl (decide_eq_true (Int.ofNat_lt.2 hlt)) ?_
  (repeat first|refine wN ?_|refine wP rfl ?_|refine cxE_r rfl ?_|refine cxE_d rfl ?_|refine wO rfl rfl ?_)
  refine VO.cond rfl ⟨by omega, by omega⟩ ?_
  refine wV rfl ?_
  (repeat first|refine wN ?_|refine wP rfl ?_|refine cxE_r rfl ?_|refine cxE_d rfl ?_|refine wO rfl rfl ?_)
  refine VO.read rfl [.int .i64 e.1, .int .i64 e.2.1, .bool e.2.2.1, .slice ep e.2.2.2.1.length ec, .bool e.2.2.2.2.1, .slice er e.2.2.2.2.2.length ed] rfl (cells_at hc 0 _ ⟨[], rfl⟩) (wV rfl ?_)
  refine VO.call rfl rfl (fk Tryz.func18) (fun wa11 ka11 ba11 => (tPart_any _ e 3 z wa11 ⟨_, rfl, hE0.kp (Kp.of (U := UU) ba11)⟩ (by decide) hz).mono ?_)
  rintro e w11 ⟨r11, rfl, q11, hb11⟩
  obtain ⟨s11, p11, n11, c11, t11, y11, m11, d11, rfl⟩ := q11.form
  refine ⟨_, rfl, hb11, fun kb11 _ bb11 => wV rfl ?_⟩
  (repeat first|refine wN ?_|refine wP rfl ?_|refine cxE_r rfl ?_|refine cxE_d rfl ?_|refine wO rfl rfl ?_)
  refine VO.cond rfl ⟨by omega, by omega⟩ ?_
  refine wV rfl ?_
  (repeat first|refine wN ?_|refine wP rfl ?_|refine cxE_r rfl ?_|refine cxE_d rfl ?_|refine wO rfl rfl ?_)
  refine VO.read rfl [.int .i64 e.1, .int .i64 e.2.1, .bool e.2.2.1, .slice fp e.2.2.2.1.length fc, .bool e.2.2.2.2.1, .slice fr e.2.2.2.2.2.length fd] rfl (cells_at hc' 0 _ ⟨[], rfl⟩) (wV rfl ?_)
  refine VO.call rfl rfl (fk Tryz.func30) (fun wa12 ka12 ba12 => (q18Part_any _ e 3 z wa12 ⟨_, rfl, hF0.kp (Kp.of (U := UU) ba12)⟩ (by decide) hz).mono ?_)
  rintro e w12 ⟨r12, rfl, q12, hb12⟩
  obtain ⟨s12, p12, n12, c12, t12, y12, m12, d12, rfl⟩ := q12.form
  refine ⟨_, rfl, hb12, fun kb12 _ bb12 => wV rfl ?_⟩
  (repeat first|refine wN ?_|refine wP rfl ?_|refine cxE_r rfl ?_|refine cxE_d rfl ?_|refine wO rfl rfl ?_)
  refine VO.call rfl rfl (fk Tryz.func29) (fun wa13 ka13 ba13 => (filIs_any (epart e.exp z) _ _ wa13 (q11.kp kE).rd (q12.kp kE).rd).mono ?_)
  rintro e w13 ⟨rfl, hb13⟩
  skip
  refine ⟨_, rfl, hb13, fun kb13 _ bb13 => wV rfl ?_⟩
  (repeat first|refine wN ?_|refine wP rfl ?_|refine cxE_r rfl ?_|refine cxE_d rfl ?_|refine wO rfl rfl ?_)
  refine VS.back (N - (i + 1)) (by omega) ⟨_, _, ?_, ?_, ?_, ?_, ⟨i + 1, by omega, rfl, rfl, rfl⟩⟩
  ·refine ⟨rfl, rfl, rfl, rfl, rfl, rfl, ?_, trivial⟩
   rw [← nat_step (i := i) (by omega)]; rfl
  ·(repeat first|exact trivial|refine ⟨rfl, ?_⟩)
  ·rfl
  ·(repeat first|exact trivial|refine ⟨ClosedC.lit rfl, ?_⟩|refine ⟨ClosedC.vals _, ?_⟩)
 refine VS.condN rfl (decide_eq_false (fun e => hlt (Int.ofNat_lt.1 e))) ?_
 refine (Nat.eq_zero_or_pos N).elim (fun h0 => ?cN1) (fun h0 => ?cN2)
 case' cN1 =>
  (repeat first|refine wN ?_|refine wP rfl ?_|refine cxE_r rfl ?_|refine cxE_d rfl ?_|refine wO rfl rfl ?_)
  refine VO.app0 (cxE_ok _ _) (t := 22) (e := 36) (sz := 6) rfl rfl rfl rfl rfl (fun w1 β k1 b1 ho => ⟨p, c, show Value.slice p N c = .slice p 0 c by rw [h0]⟩) (fun wq kq bq => wV rfl ?_)
  (repeat first|refine wN ?_|refine wP rfl ?_|refine cxE_r rfl ?_|refine cxE_d rfl ?_|refine wO rfl rfl ?_)
  refine VS.rebase (fun w => cxE Tryz.prog w 167) (fun _ => rfl) (fun _ => rfl) (fun _ => Beh.refl _) (fun W2 β2 k2 o2 en2 => ?_)
  refine ⟨[(1, .val (.int .i64 z)), (5, .val (.slice p5 N c5)), (6, .val (.slice p6 c60 c6)), (8, .val (.pointer (some ⟨g, 0, none⟩))), (11, .val (.slice none 0 0)), (12, .val (.int .i64 0))], ⟨⟨_, _, rfl, rfl, rfl⟩, ⟨_, _, rfl, rfl, rfl⟩, ⟨_, _, rfl, rfl, rfl⟩, ⟨_, _, rfl, rfl, rfl⟩, ⟨_, _, rfl, rfl, rfl⟩, ⟨_, _, rfl, rfl, rfl⟩, trivial⟩, ?_⟩
  have ho2 : SlIn (ExpE 3) 6 W2 (.slice none 0 0) l := by
   rw [List.eq_nil_of_length_eq_zero (show l.length = 0 by omega)]
   exact SlIn.nil _ _ _
  obtain ⟨po, hpo⟩ : ∃ p : Option Addr, p = none := ⟨_, rfl⟩
  obtain ⟨co, hco⟩ : ∃ c : Nat, c = 0 := ⟨_, rfl⟩
  obtain ⟨no, hno⟩ : ∃ c : Nat, c = 0 := ⟨_, rfl⟩
  rw [← hpo, show Value.slice po 0 0 = .slice po no co by rw [hno, hco]] at ho2 ⊢
 case' cN2 =>
  (repeat first|refine wN ?_|refine wP rfl ?_|refine cxE_r rfl ?_|refine cxE_d rfl ?_|refine wO rfl rfl ?_)
  obtain ⟨vs, hrw, -, hx⟩ := hl1.src (exp_ok 3)
  obtain ⟨hok1, hln1⟩ := hrw.ok (exp_ok 3)
  refine VO.app (cxE_ok _ _) (t := 22) (e := 36) (sz := 6) (n := 0) (c := 0) (mm := N) (known := []) (spare := []) (del := none) (news := vs.flatten.map .val) (dst := 71) rfl rfl rfl rfl rfl rfl rfl rfl (Nat.le_of_ble_eq_true rfl) rfl (.inl ⟨rfl, rfl, rfl, rfl, rfl, rfl, by omega⟩) (.inl rfl) rfl rfl (Nat.le_refl _) (by omega) ⟨rfl, rfl, lidsOf_vals _⟩ ⟨rfl, rfl, vals_ok hok1⟩ (by rw [List.length_map, hln1, hN]) (by omega)
   (fun w1 β k1 b1 ho => ⟨_, _, rfl, hx.imp id (fun ⟨b, off, h1, h2⟩ => ⟨b, off, h1, fun j u hj => b1.cell (h2 j u (by rw [leaf_vals] at hj; exact hj))⟩)⟩)
   (fun w13 co spare' ρ k13 b13 hρ hc1 hc2 hlen2 hok' hlid' => wV rfl ?_)
  rw [Nat.zero_add]
  (repeat first|refine wN ?_|refine wP rfl ?_|refine cxE_r rfl ?_|refine cxE_d rfl ?_|refine wO rfl rfl ?_)
  refine VS.rebase (fun w => cxE Tryz.prog w 167) (fun _ => rfl) (fun _ => rfl) (fun _ => Beh.refl _) (fun W2 β2 k2 o2 en2 => ?_)
  refine ⟨[(1, .val (.int .i64 z)), (5, .val (.slice p5 N c5)), (6, .val (.slice p6 c60 c6)), (8, .val (.pointer (some ⟨g, 0, none⟩))), (11, .val (.slice (some ⟨β2 71, 0, none⟩) N co)), (12, .val (.int .i64 0))], ⟨⟨_, _, rfl, rfl, rfl⟩, ⟨_, _, rfl, rfl, rfl⟩, ⟨_, _, rfl, rfl, rfl⟩, ⟨_, _, rfl, rfl, rfl⟩, ⟨_, _, rfl, rfl, rfl⟩, ⟨_, _, rfl, rfl, rfl⟩, trivial⟩, ?_⟩
  have ho2 : SlIn (ExpE 3) 6 W2 (.slice (some ⟨β2 71, 0, none⟩) N co) l := ownV_sl (exp_ok 3) (en2.own 71 _ _ rfl) spare' rfl (hrw.kp (exp_ok 3) (Kp.of (U := UU) o2)) hN (by omega) hc2
  obtain ⟨po, hpo⟩ : ∃ p : Option Addr, p = some ⟨β2 71, 0, none⟩ := ⟨_, rfl⟩
  obtain ⟨no, hno⟩ : ∃ c : Nat, c = N := ⟨_, rfl⟩
  rw [← hpo, show Value.slice po N co = .slice po no co by rw [hno]] at ho2 ⊢
 all_goals
  have hr2 := hr1.beh (exp_ok 3) o2
  have hw2 := hw1.beh (exp_ok 3) o2
  have hled2 := hled1.beh o2
  refine VS.loop (J := fun m L M w' => ∃ n : Nat, n ≤ 2 ∧ m = 2 - n ∧ L = [(1, .val (.int .i64 z)), (5, .val (.slice p5 N c5)), (6, .val (.slice p6 c60 c6)), (8, .val (.pointer (some ⟨g, 0, none⟩))), (11, .val (.slice po no co)), (12, .val (.int .i64 (n : Int)))] ∧ M = []) 2 ⟨_, _, ?_, ?_, ?_, ?_, ⟨0, by omega, rfl, rfl, rfl⟩⟩ ?_
  ·(repeat first|exact trivial|refine ⟨rfl, ?_⟩)
  ·(repeat first|exact trivial|refine ⟨rfl, ?_⟩)
  ·rfl
  ·(repeat first|exact trivial|refine ⟨ClosedC.lit rfl, ?_⟩|refine ⟨ClosedC.vals _, ?_⟩)
  rintro m L M w5 ⟨n, hn, rfl, rfl, rfl⟩
  (repeat first|refine wN ?_|refine wP rfl ?_|refine cxE_r rfl ?_|refine cxE_d rfl ?_|refine wO rfl rfl ?_)
  by_cases hlt : n < 2
  ·refine VS.condY rfl (decide_eq_true (by omega)) ?_
   (repeat first|refine wN ?_|refine wP rfl ?_|refine cxE_r rfl ?_|refine cxE_d rfl ?_|refine wO rfl rfl ?_)
   refine VO.callX (expO_ok W2.heap.size 3) (dst := 77) (t := 36) (es := etaken l) rfl rfl rfl (Nat.le_of_ble_eq_true rfl) (Nat.le_of_ble_eq_true rfl) rfl (fun w1 β k1 b1 ho => ⟨fk Tryz.func31, (tRows_any g (etaken l) 3 w1 (hled2.beh b1).in hwt (by decide) (by omega)).mono ?_⟩)
   rintro o20 w20 ⟨r20, rfl, hnew, hb20⟩
   refine ⟨_, rfl, hb20, hnew.monoE (fun cs e h => ⟨h.1, h.2.mono (b1 : Beh W2 w1).size⟩), fun kb20 _ bb20 hnil => ?_, fun cr vs spare kb20 _ bb20 hrow hsp hnc2 hcm2 hlen => ?_⟩
   ·refine wV rfl ?_
    (repeat first|refine wN ?_|refine wP rfl ?_|refine cxE_r rfl ?_|refine cxE_d rfl ?_|refine wO rfl rfl ?_)
    refine VO.call rfl rfl (fk Tryz.func24) (fun wa21 ka21 ba21 => (tDue_any g (etaken l) 3 z wa21 (hled2.beh ba21).in (by decide) hz (by omega)).mono ?_)
    rintro e w21 ⟨r21, rfl, q21, hs21, hb21⟩
    obtain ⟨sd, pd, nd, cd, td, yd, md, dd, rfl⟩ := q21.form
    refine ⟨_, rfl, hb21, fun kb21 _ bb21 => wV rfl ?_⟩
    (repeat first|refine wN ?_|refine wP rfl ?_|refine cxE_r rfl ?_|refine cxE_d rfl ?_|refine wO rfl rfl ?_)
    refine VO.call rfl rfl (fk Tryz.func22) (fun wa22 ka22 ba22 => (tBalance_any g (etaken l) 3 z wa22 (hled2.beh ba22).in hwt (by decide) hz (by omega)).mono ?_)
    rintro e w22 ⟨r22, rfl, q22, hs22, hb22⟩
    obtain ⟨sb, pb, nb, cb, tb, yb, mb, db, rfl⟩ := q22.form
    refine ⟨_, rfl, hb22, fun kb22 _ bb22 => wV rfl ?_⟩
    (repeat first|refine wN ?_|refine wP rfl ?_|refine cxE_r rfl ?_|refine cxE_d rfl ?_|refine wO rfl rfl ?_)
    refine VO.call rfl rfl (fk Tryz.func32) (fun wa23 ka23 ba23 => (same18_any _ _ (etaken l) 3 3 wa23 (hnil ▸ SlIn.nil _ _ _) (hw2.beh (exp_ok 3) ba23)).mono ?_)
    rintro e w23 ⟨rfl, hb23⟩
    skip
    refine ⟨_, rfl, hb23, fun kb23 _ bb23 => wV rfl ?_⟩
    (repeat first|refine wN ?_|refine wP rfl ?_|refine cxE_r rfl ?_|refine cxE_d rfl ?_|refine wO rfl rfl ?_)
    refine VO.call rfl rfl (fk Tryz.func33) (fun wa24 ka24 ba24 => (q18Due_any _ (etaken l) 3 z wa24 (hw2.beh (exp_ok 3) ba24) (by decide) hz (by omega)).mono ?_)
    rintro e w24 ⟨r24, rfl, q24, hs24, hb24⟩
    obtain ⟨s24, p24, n24, c24, t24, y24, m24, d24, rfl⟩ := q24.form
    refine ⟨_, rfl, hb24, fun kb24 _ bb24 => wV rfl ?_⟩
    (repeat first|refine wN ?_|refine wP rfl ?_|refine cxE_r rfl ?_|refine cxE_d rfl ?_|refine wO rfl rfl ?_)
    refine VO.call rfl rfl (fk Tryz.func29) (fun wa25 ka25 ba25 => (filIs_any (edueR (etaken l) z) _ _ wa25 (q21.kp kE).rd (q24.kp kE).rd).mono ?_)
    rintro e w25 ⟨rfl, hb25⟩
    skip
    refine ⟨_, rfl, hb25, fun kb25 _ bb25 => wV rfl ?_⟩
    (repeat first|refine wN ?_|refine wP rfl ?_|refine cxE_r rfl ?_|refine cxE_d rfl ?_|refine wO rfl rfl ?_)
    refine VO.call rfl rfl (fk Tryz.func34) (fun wa26 ka26 ba26 => (q18Balance_any _ (etaken l) 3 z wa26 (hw2.beh (exp_ok 3) ba26) hwt (by decide) hz (by omega)).mono ?_)
    rintro e w26 ⟨r26, rfl, q26, hs26, hb26⟩
    obtain ⟨s26, p26, n26, c26, t26, y26, m26, d26, rfl⟩ := q26.form
    refine ⟨_, rfl, hb26, fun kb26 _ bb26 => wV rfl ?_⟩
    (repeat first|refine wN ?_|refine wP rfl ?_|refine cxE_r rfl ?_|refine cxE_d rfl ?_|refine wO rfl rfl ?_)
    refine VO.call rfl rfl (fk Tryz.func29) (fun wa27 ka27 ba27 => (filIs_any (ebalR (etaken l) z) _ _ wa27 (q22.kp kE).rd (q26.kp kE).rd).mono ?_)
    rintro e w27 ⟨rfl, hb27⟩
    skip
    refine ⟨_, rfl, hb27, fun kb27 _ bb27 => wV rfl ?_⟩
    (repeat first|refine wN ?_|refine wP rfl ?_|refine cxE_r rfl ?_|refine cxE_d rfl ?_|refine wO rfl rfl ?_)
    have hld : Lies (fun b => W2.heap.size ≤ b) yd md := (q21.mono (ba21 : Beh W2 wa21).size).parts.2.lies
    have hlb : Lies (fun b => W2.heap.size ≤ b) yb mb := (q22.mono (ba22 : Beh W2 wa22).size).parts.2.lies
    have hmd : md ≤ 1000 := Nat.le_trans (q21.rd.len hs21).2 (Nat.le_trans (stepSz_le htl) (by decide))
    have hmb : mb ≤ 1000 := Nat.le_trans (q22.rd.len hs22).2 (Nat.le_trans (stepSz_le htl) (by decide))
    have hkd := (q21.kp (kE : Kp UU w21 w27)).parts.2.huk
    have hkb := (q22.kp (kE : Kp UU w22 w27)).parts.2.huk
    refine VS.loop (J := fun m L M w' => m = 0 ∧ L = [(1, .val (.int .i64 z)), (5, .val (.slice p5 N c5)), (6, .val (.slice p6 c60 c6)), (8, .val (.pointer (some ⟨g, 0, none⟩))), (11, .val (.slice po no co)), (12, .val (.int .i64 (n : Int))), (13, .val (.slice none 0 0)), (14, .box 14 0), (15, .box 15 0), (16, .val (.int .i64 0))] ∧ M = [(14, (33, ([.bool sd, .slice pd nd cd, .bool td, .slice yd md dd] : List Value).map .val)), (15, (33, ([.bool sb, .slice pb nb cb, .bool tb, .slice yb mb db] : List Value).map .val))] ∧ Huk w' yd md ∧ Huk w' yb mb) 0 ⟨_, _, ?_, ?_, ?_, ?_, ⟨rfl, rfl, rfl, hkd, hkb⟩⟩ ?_
    ·(repeat first|exact trivial|refine ⟨rfl, ?_⟩)
    ·(repeat first|exact trivial|refine ⟨rfl, ?_⟩)
    ·rfl
    ·(repeat first|exact trivial|refine ⟨ClosedC.lit rfl, ?_⟩|refine ⟨ClosedC.vals _, ?_⟩)
    rintro m L M w29 ⟨rfl, rfl, rfl, hkd, hkb⟩
    (repeat first|refine wN ?_|refine wP rfl ?_|refine cxE_r rfl ?_|refine cxE_d rfl ?_|refine wO rfl rfl ?_)
    refine VS.loop (J := fun m L M w' => ∃ k : Nat, k ≤ md ∧ m = md - k ∧ L = [(1, .val (.int .i64 z)), (5, .val (.slice p5 N c5)), (6, .val (.slice p6 c60 c6)), (8, .val (.pointer (some ⟨g, 0, none⟩))), (11, .val (.slice po no co)), (12, .val (.int .i64 (n : Int))), (14, .box 14 0), (15, .box 15 0), (18, .val (.int .i64 (k : Int)))] ∧ M = [(14, (33, ([.bool sd, .slice pd nd cd, .bool td, .slice yd md dd] : List Value).map .val)), (15, (33, ([.bool sb, .slice pb nb cb, .bool tb, .slice yb mb db] : List Value).map .val))] ∧ Huk w' yd md ∧ Huk w' yb mb) md ⟨_, _, ?_, ?_, ?_, ?_, ⟨0, by omega, rfl, rfl, rfl, hkd, hkb⟩⟩ ?_
    ·(repeat first|exact trivial|refine ⟨rfl, ?_⟩)
    ·(repeat first|exact trivial|refine ⟨rfl, ?_⟩)
    ·rfl
    ·(repeat first|exact trivial|refine ⟨ClosedC.lit rfl, ?_⟩|refine ⟨ClosedC.vals _, ?_⟩)
    rintro m L M w140 ⟨k, hk, rfl, rfl, rfl, hkd, hkb⟩
    (repeat first|refine wN ?_|refine wP rfl ?_|refine cxE_r rfl ?_|refine cxE_d rfl ?_|refine wO rfl rfl ?_)
    by_cases hlt2 : k < md
    ·refine VS.condY rfl (decide_eq_true (Int.ofNat_lt.2 hlt2)) ?_
     obtain ⟨gq, curq, hpq, hcurq, hsq⟩ := hkd (by omega)
     have hgq : W2.heap.size ≤ gq := hld (by omega) gq 0 none hpq
     subst hpq
     (repeat (first | refine wN ?_ | refine wP rfl ?_))
     refine VS.regionWn (cxE_ok _ _) (fun _ => Iff.rfl) rfl ?_
     refine wV rfl ?_
     refine VO.cond rfl ⟨by omega, by omega⟩ ?_
     refine wV rfl ?_
     refine wN ?_
     refine ⟨_, _, _, gq, 0 + (k : Int).toNat * 1, _, .int .u32 98, rfl, rfl, rfl, rfl, rfl, rfl, rfl, rfl, hgq, fun w1 k1 bo1 => ?_⟩
     have hcur1 := k1.block UU gq curq (by simp [KC.fz]) trivial hcurq
     refine ⟨curq, UU, hcur1, by rw [Int.toNat_natCast]; show 0 + k * 1 + 1 ≤ _; omega, by simp [KC.fz], fun bo2 => ?_⟩
     have hov2 : Over _ gq w140 (w1.setCells gq (0 + (k : Int).toNat * 1) (Value.cells (.int .u32 98)).toList) := (Over.of k1).thn (Over.set hcur1)
     generalize w1.setCells gq (0 + (k : Int).toNat * 1) (Value.cells (.int .u32 98)).toList = w2 at *
     (repeat first|refine wN ?_|refine wP rfl ?_|refine cxE_r rfl ?_|refine cxE_d rfl ?_|refine wO rfl rfl ?_)
     refine VS.back (md - (k + 1)) (by omega) ⟨_, _, ?_, ?_, ?_, ?_, ⟨k + 1, by omega, rfl, rfl, rfl, hkd.any hov2, hkb.any hov2⟩⟩
     ·refine ⟨rfl, rfl, rfl, rfl, rfl, rfl, rfl, rfl, ?_, trivial⟩
      rw [← nat_step (i := k) (by omega)]; rfl
     ·(repeat first|exact trivial|refine ⟨rfl, ?_⟩)
     ·rfl
     ·(repeat first|exact trivial|refine ⟨ClosedC.lit rfl, ?_⟩|refine ⟨ClosedC.vals _, ?_⟩)
    refine VS.condN rfl (decide_eq_false (fun e => hlt2 (Int.ofNat_lt.1 e))) ?_
    (repeat first|refine wN ?_|refine wP rfl ?_|refine cxE_r rfl ?_|refine cxE_d rfl ?_|refine wO rfl rfl ?_)
    refine VS.loop (J := fun m L M w' => ∃ k : Nat, k ≤ mb ∧ m = mb - k ∧ L = [(1, .val (.int .i64 z)), (5, .val (.slice p5 N c5)), (6, .val (.slice p6 c60 c6)), (8, .val (.pointer (some ⟨g, 0, none⟩))), (11, .val (.slice po no co)), (12, .val (.int .i64 (n : Int))), (14, .box 14 0), (15, .box 15 0), (19, .val (.int .i64 (k : Int)))] ∧ M = [(14, (33, ([.bool sd, .slice pd nd cd, .bool td, .slice yd md dd] : List Value).map .val)), (15, (33, ([.bool sb, .slice pb nb cb, .bool tb, .slice yb mb db] : List Value).map .val))] ∧ Huk w' yd md ∧ Huk w' yb mb) mb ⟨_, _, ?_, ?_, ?_, ?_, ⟨0, by omega, rfl, rfl, rfl, hkd, hkb⟩⟩ ?_
    ·(repeat first|exact trivial|refine ⟨rfl, ?_⟩)
    ·(repeat first|exact trivial|refine ⟨rfl, ?_⟩)
    ·rfl
    ·(repeat first|exact trivial|refine ⟨ClosedC.lit rfl, ?_⟩|refine ⟨ClosedC.vals _, ?_⟩)
    rintro m L M w150 ⟨k, hk, rfl, rfl, rfl, hkd, hkb⟩
    (repeat first|refine wN ?_|refine wP rfl ?_|refine cxE_r rfl ?_|refine cxE_d rfl ?_|refine wO rfl rfl ?_)
    by_cases hlt2 : k < mb
    ·refine VS.condY rfl (decide_eq_true (Int.ofNat_lt.2 hlt2)) ?_
     obtain ⟨gq, curq, hpq, hcurq, hsq⟩ := hkb (by omega)
     have hgq : W2.heap.size ≤ gq := hlb (by omega) gq 0 none hpq
     subst hpq
     (repeat (first | refine wN ?_ | refine wP rfl ?_))
     refine VS.regionWn (cxE_ok _ _) (fun _ => Iff.rfl) rfl ?_
     refine wV rfl ?_
     refine VO.cond rfl ⟨by omega, by omega⟩ ?_
     refine wV rfl ?_
     refine wN ?_
     refine ⟨_, _, _, gq, 0 + (k : Int).toNat * 1, _, .int .u32 97, rfl, rfl, rfl, rfl, rfl, rfl, rfl, rfl, hgq, fun w1 k1 bo1 => ?_⟩
     have hcur1 := k1.block UU gq curq (by simp [KC.fz]) trivial hcurq
     refine ⟨curq, UU, hcur1, by rw [Int.toNat_natCast]; show 0 + k * 1 + 1 ≤ _; omega, by simp [KC.fz], fun bo2 => ?_⟩
     have hov2 : Over _ gq w150 (w1.setCells gq (0 + (k : Int).toNat * 1) (Value.cells (.int .u32 97)).toList) := (Over.of k1).thn (Over.set hcur1)
     generalize w1.setCells gq (0 + (k : Int).toNat * 1) (Value.cells (.int .u32 97)).toList = w2 at *
     (repeat first|refine wN ?_|refine wP rfl ?_|refine cxE_r rfl ?_|refine cxE_d rfl ?_|refine wO rfl rfl ?_)
     refine VS.back (mb - (k + 1)) (by omega) ⟨_, _, ?_, ?_, ?_, ?_, ⟨k + 1, by omega, rfl, rfl, rfl, hkd.any hov2, hkb.any hov2⟩⟩
     ·refine ⟨rfl, rfl, rfl, rfl, rfl, rfl, rfl, rfl, ?_, trivial⟩
      rw [← nat_step (i := k) (by omega)]; rfl
     ·(repeat first|exact trivial|refine ⟨rfl, ?_⟩)
     ·rfl
     ·(repeat first|exact trivial|refine ⟨ClosedC.lit rfl, ?_⟩|refine ⟨ClosedC.vals _, ?_⟩)
    refine VS.condN rfl (decide_eq_false (fun e => hlt2 (Int.ofNat_lt.1 e))) ?_
    (repeat first|refine wN ?_|refine wP rfl ?_|refine cxE_r rfl ?_|refine cxE_d rfl ?_|refine wO rfl rfl ?_)
    refine VS.back (2 - (n + 1)) (by omega) ⟨_, _, ?_, ?_, ?_, ?_, ⟨n + 1, by omega, rfl, rfl, rfl⟩⟩
    ·refine ⟨rfl, rfl, rfl, rfl, rfl, ?_, trivial⟩
     rw [← nat_step (i := n) (by omega)]; rfl
    ·(repeat first|exact trivial|refine ⟨rfl, ?_⟩)
    ·rfl
    ·(repeat first|exact trivial|refine ⟨ClosedC.lit rfl, ?_⟩|refine ⟨ClosedC.vals _, ?_⟩)
   ·obtain ⟨T, hT⟩ : ∃ T, T = (etaken l).length := ⟨_, rfl⟩
    rw [← hT] at hnc2 ⊢
    refine wV rfl ?_
    (repeat first|refine wN ?_|refine wP rfl ?_|refine cxE_r rfl ?_|refine cxE_d rfl ?_|refine wO rfl rfl ?_)
    refine VO.call rfl rfl (fk Tryz.func24) (fun wa21 ka21 ba21 => (tDue_any g (etaken l) 3 z wa21 (hled2.beh ba21).in (by decide) hz (by omega)).mono ?_)
    rintro e w21 ⟨r21, rfl, q21, hs21, hb21⟩
    obtain ⟨sd, pd, nd, cd, td, yd, md, dd, rfl⟩ := q21.form
    refine ⟨_, rfl, hb21, fun kb21 _ bb21 => wV rfl ?_⟩
    (repeat first|refine wN ?_|refine wP rfl ?_|refine cxE_r rfl ?_|refine cxE_d rfl ?_|refine wO rfl rfl ?_)
    refine VO.call rfl rfl (fk Tryz.func22) (fun wa22 ka22 ba22 => (tBalance_any g (etaken l) 3 z wa22 (hled2.beh ba22).in hwt (by decide) hz (by omega)).mono ?_)
    rintro e w22 ⟨r22, rfl, q22, hs22, hb22⟩
    obtain ⟨sb, pb, nb, cb, tb, yb, mb, db, rfl⟩ := q22.form
    refine ⟨_, rfl, hb22, fun kb22 _ bb22 => wV rfl ?_⟩
    (repeat first|refine wN ?_|refine wP rfl ?_|refine cxE_r rfl ?_|refine cxE_d rfl ?_|refine wO rfl rfl ?_)
    refine VO.callF rfl (fk Tryz.func32) (fun wa23 β23 ka23 ba23 ho23 => (same18_any _ _ (etaken l) 3 3 wa23 (ownV_sl (exp_ok 3) (ho23.own 77 (.base (List.mem_append_left _ (List.mem_singleton.2 rfl))) _ _ rfl) (spare.map .val) rfl ((hrow.mono (fun cs a h => h.1)).kp (exp_ok 3) kE) hT hnc2 hcm2) (hw2.beh (exp_ok 3) ba23)).mono ?_)
    rintro o23 w23 ⟨rfl, hb23⟩
    refine ⟨_, rfl, hb23, fun kb23 _ bb23 => wV rfl ?_⟩
    (repeat first|refine wN ?_|refine wP rfl ?_|refine cxE_r rfl ?_|refine cxE_d rfl ?_|refine wO rfl rfl ?_)
    refine VO.call rfl rfl (fk Tryz.func33) (fun wa24 ka24 ba24 => (q18Due_any _ (etaken l) 3 z wa24 (hw2.beh (exp_ok 3) ba24) (by decide) hz (by omega)).mono ?_)
    rintro e w24 ⟨r24, rfl, q24, hs24, hb24⟩
    obtain ⟨s24, p24, n24, c24, t24, y24, m24, d24, rfl⟩ := q24.form
    refine ⟨_, rfl, hb24, fun kb24 _ bb24 => wV rfl ?_⟩
    (repeat first|refine wN ?_|refine wP rfl ?_|refine cxE_r rfl ?_|refine cxE_d rfl ?_|refine wO rfl rfl ?_)
    refine VO.call rfl rfl (fk Tryz.func29) (fun wa25 ka25 ba25 => (filIs_any (edueR (etaken l) z) _ _ wa25 (q21.kp kE).rd (q24.kp kE).rd).mono ?_)
    rintro e w25 ⟨rfl, hb25⟩
    skip
    refine ⟨_, rfl, hb25, fun kb25 _ bb25 => wV rfl ?_⟩
    (repeat first|refine wN ?_|refine wP rfl ?_|refine cxE_r rfl ?_|refine cxE_d rfl ?_|refine wO rfl rfl ?_)
    refine VO.call rfl rfl (fk Tryz.func34) (fun wa26 ka26 ba26 => (q18Balance_any _ (etaken l) 3 z wa26 (hw2.beh (exp_ok 3) ba26) hwt (by decide) hz (by omega)).mono ?_)
    rintro e w26 ⟨r26, rfl, q26, hs26, hb26⟩
    obtain ⟨s26, p26, n26, c26, t26, y26, m26, d26, rfl⟩ := q26.form
    refine ⟨_, rfl, hb26, fun kb26 _ bb26 => wV rfl ?_⟩
    (repeat first|refine wN ?_|refine wP rfl ?_|refine cxE_r rfl ?_|refine cxE_d rfl ?_|refine wO rfl rfl ?_)
    refine VO.call rfl rfl (fk Tryz.func29) (fun wa27 ka27 ba27 => (filIs_any (ebalR (etaken l) z) _ _ wa27 (q22.kp kE).rd (q26.kp kE).rd).mono ?_)
    rintro e w27 ⟨rfl, hb27⟩
    skip
    refine ⟨_, rfl, hb27, fun kb27 _ bb27 => wV rfl ?_⟩
    (repeat first|refine wN ?_|refine wP rfl ?_|refine cxE_r rfl ?_|refine cxE_d rfl ?_|refine wO rfl rfl ?_)
    have hld : Lies (fun b => W2.heap.size ≤ b) yd md := (q21.mono (ba21 : Beh W2 wa21).size).parts.2.lies
    have hlb : Lies (fun b => W2.heap.size ≤ b) yb mb := (q22.mono (ba22 : Beh W2 wa22).size).parts.2.lies
    have hmd : md ≤ 1000 := Nat.le_trans (q21.rd.len hs21).2 (Nat.le_trans (stepSz_le htl) (by decide))
    have hmb : mb ≤ 1000 := Nat.le_trans (q22.rd.len hs22).2 (Nat.le_trans (stepSz_le htl) (by decide))
    have hkd := (q21.kp (kE : Kp UU w21 w27)).parts.2.huk
    have hkb := (q22.kp (kE : Kp UU w22 w27)).parts.2.huk
    have hwk : ∀ cs ∈ vs, WOk W2.heap.size w27 cs := fun cs hcs => by
     obtain ⟨i, hi⟩ := List.getElem?_of_mem hcs
     obtain ⟨a, ha⟩ : ∃ a, (etaken l)[i]? = some a := ⟨_, List.getElem?_eq_getElem (by have := (List.getElem?_eq_some_iff.1 hi).1; have := hrow.len; omega)⟩
     obtain ⟨cs', h1, h2⟩ := hrow.at i a ha
     rw [hi] at h1
     cases h1
     exact WOk.of (h2.kp' kE) (by decide)
    have hl6 := hrow.lens (expO_ok _ 3)
    have hlenT : vs.length = T := by have := hrow.len; omega
    clear hrow
    refine VS.loop (J := fun m L M w' => ∃ (i : Nat) (vs : List (List Value)), i ≤ T ∧ m = T - i ∧ L = [(1, .val (.int .i64 z)), (5, .val (.slice p5 N c5)), (6, .val (.slice p6 c60 c6)), (8, .val (.pointer (some ⟨g, 0, none⟩))), (11, .val (.slice po no co)), (12, .val (.int .i64 (n : Int))), (13, .row 77 0 T cr), (14, .box 14 0), (15, .box 15 0), (16, .val (.int .i64 (i : Int)))] ∧ M = [(14, (33, ([.bool sd, .slice pd nd cd, .bool td, .slice yd md dd] : List Value).map .val)), (15, (33, ([.bool sb, .slice pb nb cb, .bool tb, .slice yb mb db] : List Value).map .val)), (77, (36, vs.flatten.map .val ++ spare.map .val))] ∧ vs.length = T ∧ (∀ v ∈ vs, v.length = 6) ∧ (∀ cs ∈ vs, WOk W2.heap.size w' cs) ∧ Huk w' yd md ∧ Huk w' yb mb) T ⟨_, _, ?_, ?_, ?_, ?_, ⟨0, vs, by omega, rfl, rfl, rfl, hlenT, hl6, hwk, hkd, hkb⟩⟩ ?_
    ·(repeat first|exact trivial|refine ⟨rfl, ?_⟩)
    ·(repeat first|exact trivial|refine ⟨rfl, ?_⟩)
    ·rfl
    ·exact ⟨.vals _, .vals _, .append (.vals _) (.vals _), trivial⟩
    clear hwk hl6 hlenT hkd hkb
    rintro m L M w30 ⟨i, vs, hi, rfl, rfl, rfl, hlenT, hx6, hwk, hkd, hkb⟩
    (repeat first|refine wN ?_|refine wP rfl ?_|refine cxE_r rfl ?_|refine cxE_d rfl ?_|refine wO rfl rfl ?_)
    by_cases hltT : i < T
    ·refine VS.condY rfl (decide_eq_true (Int.ofNat_lt.2 hltT)) ?_
     obtain ⟨cs, hcs⟩ : ∃ cs, vs[i]? = some cs := ⟨_, List.getElem?_eq_getElem (by omega)⟩
     obtain ⟨yz, nz, sz, ps, ns, cc, tz, ys, ms, ds, rfl, -, hls, hns⟩ := hwk cs (List.mem_of_getElem? hcs)
     have hfl : vs.flatten.length = T * 6 := by rw [flat_len vs 6 hx6, hlenT]
     (repeat first|refine wN ?_|refine wP rfl ?_|refine cxE_r rfl ?_|refine cxE_d rfl ?_|refine wO rfl rfl ?_)
     refine VS.loop (J := fun m L M w' => ∃ k : Nat, k ≤ ns ∧ m = ns - k ∧ L = [(1, .val (.int .i64 z)), (5, .val (.slice p5 N c5)), (6, .val (.slice p6 c60 c6)), (8, .val (.pointer (some ⟨g, 0, none⟩))), (11, .val (.slice po no co)), (12, .val (.int .i64 (n : Int))), (13, .row 77 0 T cr), (14, .box 14 0), (15, .box 15 0), (16, .val (.int .i64 (i : Int))), (17, .val (.int .i64 (k : Int)))] ∧ M = [(14, (33, ([.bool sd, .slice pd nd cd, .bool td, .slice yd md dd] : List Value).map .val)), (15, (33, ([.bool sb, .slice pb nb cb, .bool tb, .slice yb mb db] : List Value).map .val)), (77, (36, vs.flatten.map .val ++ spare.map .val))] ∧ (∀ cs ∈ vs, WOk W2.heap.size w' cs) ∧ Huk w' yd md ∧ Huk w' yb mb) ns ⟨_, _, ?_, ?_, ?_, ?_, ⟨0, by omega, rfl, rfl, rfl, hwk, hkd, hkb⟩⟩ ?_
     ·(repeat first|exact trivial|refine ⟨rfl, ?_⟩)
     ·(repeat first|exact trivial|refine ⟨rfl, ?_⟩)
     ·rfl
     ·exact ⟨.vals _, .vals _, .append (.vals _) (.vals _), trivial⟩
     rintro m L M w31 ⟨k, hk, rfl, rfl, rfl, hwk, hkd, hkb⟩
     (repeat first|refine wN ?_|refine wP rfl ?_|refine cxE_r rfl ?_|refine cxE_d rfl ?_|refine wO rfl rfl ?_)
     refine VO.cond rfl ⟨by omega, by omega⟩ ?_
     refine wV rfl ?_
     (repeat first|refine wN ?_|refine wP rfl ?_|refine cxE_r rfl ?_|refine cxE_d rfl ?_|refine wO rfl rfl ?_)
     refine VO.peek rfl (([.slice ps ns cc] : List Value).map AV.val) rfl (flat_peek' hx6 _ hcs 3 _ ⟨[.bool tz, .slice ys ms ds], rfl⟩ _ (by rw [Int.toNat_natCast]; show 0 + i * 6 + 2 + 0 + 1 = i * 6 + 3; omega)) (wV rfl ?_)
     (repeat first|refine wN ?_|refine wP rfl ?_|refine cxE_r rfl ?_|refine cxE_d rfl ?_|refine wO rfl rfl ?_)
     by_cases hlt2 : k < ns
     ·refine VS.condY rfl (decide_eq_true (Int.ofNat_lt.2 hlt2)) ?_
      obtain ⟨_, _, _, _, _, _, _, _, _, _, hcsE, hkz, _⟩ := hwk _ (List.mem_of_getElem? hcs)
      simp only [List.cons.injEq, Value.int.injEq, Value.bool.injEq, Value.slice.injEq, and_true, true_and] at hcsE
      obtain ⟨_, _, _, ⟨rfl, rfl, _⟩, _⟩ := hcsE
      obtain ⟨gq, curq, hpq, hcurq, hsq⟩ := hkz (by omega)
      have hgq : W2.heap.size ≤ gq := hls (by omega) gq 0 none hpq
      subst hpq
      (repeat (first | refine wN ?_ | refine wP rfl ?_))
      refine VS.regionWn (cxE_ok _ _) (fun _ => Iff.rfl) rfl ?_
      refine wV rfl ?_
      refine VO.cond rfl ⟨by omega, by omega⟩ ?_
      refine wV rfl ?_
      refine VO.peek rfl (([.slice (some ⟨gq, 0, none⟩) ns cc] : List Value).map AV.val) rfl (flat_peek' hx6 _ hcs 3 _ ⟨[.bool tz, .slice ys ms ds], rfl⟩ _ (by rw [Int.toNat_natCast]; show 0 + i * 6 + 2 + 0 + 1 = i * 6 + 3; omega)) (wV rfl ?_)
      refine VO.cond rfl ⟨by omega, by omega⟩ ?_
      refine wV rfl ?_
      refine wN ?_
      refine ⟨_, _, _, gq, 0 + (k : Int).toNat * 1, _, .int .u32 99, rfl, rfl, rfl, rfl, rfl, rfl, rfl, rfl, hgq, fun w1 k1 bo1 => ?_⟩
      have hcur1 := k1.block UU gq curq (by simp [KC.fz]) trivial hcurq
      refine ⟨curq, UU, hcur1, by rw [Int.toNat_natCast]; show 0 + k * 1 + 1 ≤ _; omega, by simp [KC.fz], fun bo2 => ?_⟩
      have hov2 : Over _ gq w31 (w1.setCells gq (0 + (k : Int).toNat * 1) (Value.cells (.int .u32 99)).toList) := (Over.of k1).thn (Over.set hcur1)
      generalize w1.setCells gq (0 + (k : Int).toNat * 1) (Value.cells (.int .u32 99)).toList = w2 at *
      (repeat first|refine wN ?_|refine wP rfl ?_|refine cxE_r rfl ?_|refine cxE_d rfl ?_|refine wO rfl rfl ?_)
      refine VS.back (ns - (k + 1)) (by omega) ⟨_, _, ?_, ?_, ?_, ?_, ⟨k + 1, by omega, rfl, rfl, rfl, fun cs h => (hwk cs h).any hov2, hkd.any hov2, hkb.any hov2⟩⟩
      ·refine ⟨rfl, rfl, rfl, rfl, rfl, rfl, rfl, rfl, rfl, rfl, ?_, trivial⟩
       rw [← nat_step (i := k) (by omega)]; rfl
      ·(repeat first|exact trivial|refine ⟨rfl, ?_⟩)
      ·rfl
      ·exact ⟨.vals _, .vals _, .append (.vals _) (.vals _), trivial⟩
     refine VS.condN rfl (decide_eq_false (fun e => hlt2 (Int.ofNat_lt.1 e))) ?_
     (repeat first|refine wN ?_|refine wP rfl ?_|refine cxE_r rfl ?_|refine cxE_d rfl ?_|refine wO rfl rfl ?_)
     refine VO.cond rfl ⟨by omega, by omega⟩ (wV rfl ?_)
     refine VO.cond rfl (by rw [List.length_append, List.length_map, List.length_map, hfl, Int.toNat_natCast]; show 0 + i * 6 + 6 ≤ _; omega) (wV rfl ?_)
     (repeat first|refine wN ?_|refine wP rfl ?_|refine cxE_r rfl ?_|refine cxE_d rfl ?_|refine wO rfl rfl ?_)
     have hx6' : ∀ v ∈ vs.set i [.int .i64 0, .int .i64 0, .bool false, .slice none 0 0, .bool false, .slice none 0 0], v.length = 6 := fun v hv => by
      rcases List.mem_or_eq_of_mem_set hv with h | h
      ·exact hx6 v h
      ·rw [h]; rfl
     have hwk' : ∀ v ∈ vs.set i [.int .i64 0, .int .i64 0, .bool false, .slice none 0 0, .bool false, .slice none 0 0], WOk W2.heap.size w31 v := fun v hv => by
      rcases List.mem_or_eq_of_mem_set hv with h | h
      ·exact hwk v h
      ·rw [h]; exact WOk.zero _ _
     refine VS.back (T - (i + 1)) (by omega) ⟨_, _, ?_, ?_, ?_, ?_, ⟨i + 1, vs.set i [.int .i64 0, .int .i64 0, .bool false, .slice none 0 0, .bool false, .slice none 0 0], by omega, rfl, rfl, rfl, by rw [List.length_set]; exact hlenT, hx6', hwk', hkd, hkb⟩⟩
     ·refine ⟨rfl, rfl, rfl, rfl, rfl, rfl, rfl, rfl, rfl, ?_, trivial⟩
      rw [← nat_step (i := i) (by omega)]; rfl
     ·exact ⟨rfl, rfl, congrArg (fun l => some (_, l)) (flat_poke hx6 hcs 0 [.int .i64 0, .int .i64 0, .bool false, .slice none 0 0, .bool false, .slice none 0 0] (Nat.le_refl _) _ _ (by rw [Int.toNat_natCast]; show 0 + i * 6 = i * 6 + 0; omega) 6 rfl), trivial⟩
     ·rfl
     ·exact ⟨.vals _, .vals _, .append (.vals _) (.vals _), trivial⟩
    refine VS.condN rfl (decide_eq_false (fun e => hltT (Int.ofNat_lt.1 e))) ?_
    (repeat first|refine wN ?_|refine wP rfl ?_|refine cxE_r rfl ?_|refine cxE_d rfl ?_|refine wO rfl rfl ?_)
    refine VS.loop (J := fun m L M w' => ∃ k : Nat, k ≤ md ∧ m = md - k ∧ L = [(1, .val (.int .i64 z)), (5, .val (.slice p5 N c5)), (6, .val (.slice p6 c60 c6)), (8, .val (.pointer (some ⟨g, 0, none⟩))), (11, .val (.slice po no co)), (12, .val (.int .i64 (n : Int))), (14, .box 14 0), (15, .box 15 0), (18, .val (.int .i64 (k : Int)))] ∧ M = [(14, (33, ([.bool sd, .slice pd nd cd, .bool td, .slice yd md dd] : List Value).map .val)), (15, (33, ([.bool sb, .slice pb nb cb, .bool tb, .slice yb mb db] : List Value).map .val))] ∧ Huk w' yd md ∧ Huk w' yb mb) md ⟨_, _, ?_, ?_, ?_, ?_, ⟨0, by omega, rfl, rfl, rfl, hkd, hkb⟩⟩ ?_
    ·(repeat first|exact trivial|refine ⟨rfl, ?_⟩)
    ·(repeat first|exact trivial|refine ⟨rfl, ?_⟩)
    ·rfl
    ·(repeat first|exact trivial|refine ⟨ClosedC.lit rfl, ?_⟩|refine ⟨ClosedC.vals _, ?_⟩)
    rintro m L M w140 ⟨k, hk, rfl, rfl, rfl, hkd, hkb⟩
    (repeat first|refine wN ?_|refine wP rfl ?_|refine cxE_r rfl ?_|refine cxE_d rfl ?_|refine wO rfl rfl ?_)
    by_cases hlt2 : k < md
    ·refine VS.condY rfl (decide_eq_true (Int.ofNat_lt.2 hlt2)) ?_
     obtain ⟨gq, curq, hpq, hcurq, hsq⟩ := hkd (by omega)
     have hgq : W2.heap.size ≤ gq := hld (by omega) gq 0 none hpq
     subst hpq
     (repeat (first | refine wN ?_ | refine wP rfl ?_))
     refine VS.regionWn (cxE_ok _ _) (fun _ => Iff.rfl) rfl ?_
     refine wV rfl ?_
     refine VO.cond rfl ⟨by omega, by omega⟩ ?_
     refine wV rfl ?_
     refine wN ?_
     refine ⟨_, _, _, gq, 0 + (k : Int).toNat * 1, _, .int .u32 98, rfl, rfl, rfl, rfl, rfl, rfl, rfl, rfl, hgq, fun w1 k1 bo1 => ?_⟩
     have hcur1 := k1.block UU gq curq (by simp [KC.fz]) trivial hcurq
     refine ⟨curq, UU, hcur1, by rw [Int.toNat_natCast]; show 0 + k * 1 + 1 ≤ _; omega, by simp [KC.fz], fun bo2 => ?_⟩
     have hov2 : Over _ gq w140 (w1.setCells gq (0 + (k : Int).toNat * 1) (Value.cells (.int .u32 98)).toList) := (Over.of k1).thn (Over.set hcur1)
     generalize w1.setCells gq (0 + (k : Int).toNat * 1) (Value.cells (.int .u32 98)).toList = w2 at *
     (repeat first|refine wN ?_|refine wP rfl ?_|refine cxE_r rfl ?_|refine cxE_d rfl ?_|refine wO rfl rfl ?_)
     refine VS.back (md - (k + 1)) (by omega) ⟨_, _, ?_, ?_, ?_, ?_, ⟨k + 1, by omega, rfl, rfl, rfl, hkd.any hov2, hkb.any hov2⟩⟩
     ·refine ⟨rfl, rfl, rfl, rfl, rfl, rfl, rfl, rfl, ?_, trivial⟩
      rw [← nat_step (i := k) (by omega)]; rfl
     ·(repeat first|exact trivial|refine ⟨rfl, ?_⟩)
     ·rfl
     ·(repeat first|exact trivial|refine ⟨ClosedC.lit rfl, ?_⟩|refine ⟨ClosedC.vals _, ?_⟩)
    refine VS.condN rfl (decide_eq_false (fun e => hlt2 (Int.ofNat_lt.1 e))) ?_
    (repeat first|refine wN ?_|refine wP rfl ?_|refine cxE_r rfl ?_|refine cxE_d rfl ?_|refine wO rfl rfl ?_)
    refine VS.loop (J := fun m L M w' => ∃ k : Nat, k ≤ mb ∧ m = mb - k ∧ L = [(1, .val (.int .i64 z)), (5, .val (.slice p5 N c5)), (6, .val (.slice p6 c60 c6)), (8, .val (.pointer (some ⟨g, 0, none⟩))), (11, .val (.slice po no co)), (12, .val (.int .i64 (n : Int))), (14, .box 14 0), (15, .box 15 0), (19, .val (.int .i64 (k : Int)))] ∧ M = [(14, (33, ([.bool sd, .slice pd nd cd, .bool td, .slice yd md dd] : List Value).map .val)), (15, (33, ([.bool sb, .slice pb nb cb, .bool tb, .slice yb mb db] : List Value).map .val))] ∧ Huk w' yd md ∧ Huk w' yb mb) mb ⟨_, _, ?_, ?_, ?_, ?_, ⟨0, by omega, rfl, rfl, rfl, hkd, hkb⟩⟩ ?_
    ·(repeat first|exact trivial|refine ⟨rfl, ?_⟩)
    ·(repeat first|exact trivial|refine ⟨rfl, ?_⟩)
    ·rfl
    ·(repeat first|exact trivial|refine ⟨ClosedC.lit rfl, ?_⟩|refine ⟨ClosedC.vals _, ?_⟩)
    rintro m L M w150 ⟨k, hk, rfl, rfl, rfl, hkd, hkb⟩
    (repeat first|refine wN ?_|refine wP rfl ?_|refine cxE_r rfl ?_|refine cxE_d rfl ?_|refine wO rfl rfl ?_)
    by_cases hlt2 : k < mb
    ·refine VS.condY rfl (decide_eq_true (Int.ofNat_lt.2 hlt2)) ?_
     obtain ⟨gq, curq, hpq, hcurq, hsq⟩ := hkb (by omega)
     have hgq : W2.heap.size ≤ gq := hlb (by omega) gq 0 none hpq
     subst hpq
     (repeat (first | refine wN ?_ | refine wP rfl ?_))
     refine VS.regionWn (cxE_ok _ _) (fun _ => Iff.rfl) rfl ?_
     refine wV rfl ?_
     refine VO.cond rfl ⟨by omega, by omega⟩ ?_
     refine wV rfl ?_
     refine wN ?_
     refine ⟨_, _, _, gq, 0 + (k : Int).toNat * 1, _, .int .u32 97, rfl, rfl, rfl, rfl, rfl, rfl, rfl, rfl, hgq, fun w1 k1 bo1 => ?_⟩
     have hcur1 := k1.block UU gq curq (by simp [KC.fz]) trivial hcurq
     refine ⟨curq, UU, hcur1, by rw [Int.toNat_natCast]; show 0 + k * 1 + 1 ≤ _; omega, by simp [KC.fz], fun bo2 => ?_⟩
     have hov2 : Over _ gq w150 (w1.setCells gq (0 + (k : Int).toNat * 1) (Value.cells (.int .u32 97)).toList) := (Over.of k1).thn (Over.set hcur1)
     generalize w1.setCells gq (0 + (k : Int).toNat * 1) (Value.cells (.int .u32 97)).toList = w2 at *
     (repeat first|refine wN ?_|refine wP rfl ?_|refine cxE_r rfl ?_|refine cxE_d rfl ?_|refine wO rfl rfl ?_)
     refine VS.back (mb - (k + 1)) (by omega) ⟨_, _, ?_, ?_, ?_, ?_, ⟨k + 1, by omega, rfl, rfl, rfl, hkd.any hov2, hkb.any hov2⟩⟩
     ·refine ⟨rfl, rfl, rfl, rfl, rfl, rfl, rfl, rfl, ?_, trivial⟩
      rw [← nat_step (i := k) (by omega)]; rfl
     ·(repeat first|exact trivial|refine ⟨rfl, ?_⟩)
     ·rfl
     ·(repeat first|exact trivial|refine ⟨ClosedC.lit rfl, ?_⟩|refine ⟨ClosedC.vals _, ?_⟩)
    refine VS.condN rfl (decide_eq_false (fun e => hlt2 (Int.ofNat_lt.1 e))) ?_
    (repeat first|refine wN ?_|refine wP rfl ?_|refine cxE_r rfl ?_|refine cxE_d rfl ?_|refine wO rfl rfl ?_)
    refine VS.back (2 - (n + 1)) (by omega) ⟨_, _, ?_, ?_, ?_, ?_, ⟨n + 1, by omega, rfl, rfl, rfl⟩⟩
    ·refine ⟨rfl, rfl, rfl, rfl, rfl, ?_, trivial⟩
     rw [← nat_step (i := n) (by omega)]; rfl
    ·(repeat first|exact trivial|refine ⟨rfl, ?_⟩)
    ·rfl
    ·(repeat first|exact trivial|refine ⟨ClosedC.lit rfl, ?_⟩|refine ⟨ClosedC.vals _, ?_⟩)
  refine VS.condN rfl (decide_eq_false (by omega)) ?_
  (repeat first|refine wN ?_|refine wP rfl ?_|refine cxE_r rfl ?_|refine cxE_d rfl ?_|refine wO rfl rfl ?_)
  refine VO.call rfl rfl (fk Tryz.func32) (fun wa40 ka40 ba40 => (same18_any _ _ l 3 3 wa40 (ho2.beh (exp_ok 3) ba40) (hr2.beh (exp_ok 3) ba40)).mono ?_)
  rintro e w40 ⟨rfl, hb40⟩
  skip
  refine ⟨_, rfl, hb40, fun kb40 _ bb40 => wV rfl ?_⟩
  (repeat first|refine wN ?_|refine wP rfl ?_|refine cxE_r rfl ?_|refine cxE_d rfl ?_|refine wO rfl rfl ?_)
  refine VO.call rfl rfl (fk Tryz.func15) (fun wa41 ka41 ba41 => (works18_any wa41).mono ?_)
  rintro e w41 ⟨rfl, hb41⟩
  skip
  refine ⟨_, rfl, hb41, fun kb41 _ bb41 => wV rfl ?_⟩
  (repeat first|refine wN ?_|refine wP rfl ?_|refine cxE_r rfl ?_|refine cxE_d rfl ?_|refine wO rfl rfl ?_)
  refine VS.ret (cxE_ok _ _) rfl rfl (fun wz kz bz => ?_)
  exact ⟨rfl, (o1.thn o2).thn bz⟩
end Go.Proofs.YtohlmpibnnkanaaGreat
