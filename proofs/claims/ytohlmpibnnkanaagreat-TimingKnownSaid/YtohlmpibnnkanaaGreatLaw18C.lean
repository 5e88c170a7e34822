/- TimingAll: what this statement's function answers. -/
import Derived.Test.YtohlmpibnnkanaaGreatLaw18B
set_option linter.all false
set_option maxRecDepth 4000
namespace Go.Proofs.YtohlmpibnnkanaaGreat
open Go.RowKit
attribute [local irreducible] vcOps VS

def eputR (l : List RExp) (z : Int) : Rat := rsum (l.map fun e => if e.1 = z then e.exp.2.2.2 else 0)
theorem bal_exp (l : List RExp) (z : Int) : ebalR l z = ebalance (l.map RExp.exp) z := by unfold ebalR ebalance; rw [List.map_map]; rfl
theorem bal_step {l : List RExp} (h : ∀ e ∈ l, ewrong e.exp = false) (z : Int) : ebalR l z = ebalR l (z - 1) + eputR l z - edueR l z := by
 have := ebalance_step (l := l.map RExp.exp) (fun e he => by obtain ⟨x, hx, rfl⟩ := List.mem_map.1 he; exact h x hx) z
 rw [bal_exp, bal_exp, this]
 unfold eput edue eputR edueR
 rw [List.map_map, List.map_map]; rfl
theorem bal_before {l : List RExp} {z : Int} (h : ∀ e ∈ l, z < e.1) : ebalR l z = 0 := by
 rw [bal_exp]
 exact ebalance_before fun e he => by obtain ⟨x, hx, rfl⟩ := List.mem_map.1 he; exact h x hx
theorem bal_after {l : List RExp} (hw : ∀ e ∈ l, ewrong e.exp = false) {z : Int} (h : ∀ e ∈ l, e.1 + e.2.1 ≤ z) : ebalR l z = 0 := by
 rw [bal_exp]
 exact ebalance_after (fun e he => by obtain ⟨x, hx, rfl⟩ := List.mem_map.1 he; exact hw x hx) fun e he => by obtain ⟨x, hx, rfl⟩ := List.mem_map.1 he; exact h x hx
theorem put_snoc {l : List RExp} {i : Nat} {e : RExp} (he : l[i]? = some e) (z : Int) : eputR (l.take (i + 1)) z = eputR (l.take i) z + (if e.1 = z then e.exp.2.2.2 else 0) := by
 unfold eputR
 rw [take_snoc_at he, List.map_append, rsum_append]
 show _ + rsum [_] = _
 rw [rsum_one]
theorem rsum_sz {K : Nat} : ∀ (qs : List Rat), (∀ q ∈ qs, RSz q K) → RSz (rsum qs) (stepSz K qs.length)
 | [], _ => RSz.zero.mono (by unfold stepSz; omega)
 | q :: r, h => by
  rw [rsum_cons, List.length_cons, stepSz_succ]
  exact ((h q (by simp)).add (rsum_sz r (fun x hx => h x (by simp [hx])))).mono (by unfold up1; omega)
theorem bal_sz {l : List RExp} (hs : ∀ e ∈ l, RSz e.exp.2.2.2 3) (hw : ∀ e ∈ l, ewrong e.exp = false) (hn : l.length ≤ 10) (z : Int) : RSz (ebalR l z) (stepSz 4 10) :=
 (rsum_sz (K := 4) _ (fun q hq => by obtain ⟨e, he, rfl⟩ := List.mem_map.1 hq; exact ebal_sz (hs e he) (hw e he) z)).mono (by rw [List.length_map]; exact stepSz_le hn)
theorem put_sz {l : List RExp} (hs : ∀ e ∈ l, RSz e.exp.2.2.2 3) (hn : l.length ≤ 10) (z : Int) : RSz (eputR l z) (stepSz 4 10) :=
 (rsum_sz (K := 4) _ (fun q hq => by
  obtain ⟨e, he, rfl⟩ := List.mem_map.1 hq
  show RSz (if e.1 = z then _ else _) 4
  split
  ·exact (hs e he).mono (by omega)
  ·exact RSz.zero.mono (by omega))).mono (by rw [List.length_map]; exact stepSz_le hn)
def Bnd (l : List RExp) (i : Nat) (fi la : Int) : Prop := (∀ e ∈ l.take i, fi ≤ e.1 ∧ e.1 + e.2.1 ≤ la) ∧ 0 ≤ fi ∧ fi ≤ 9999 ∧ 0 ≤ la ∧ la ≤ 10039 ∧ fi ≤ la
theorem Bnd.step {l : List RExp} {i : Nat} {e : RExp} {fi la fi' la' : Int} (h : Bnd l i fi la) (he : l[i]? = some e) (hw : ewrong e.exp = false) (h1 : fi' ≤ e.1) (h2 : i = 0 ∨ fi' ≤ fi) (h3 : fi' = e.1 ∨ fi' = fi) (h4 : la' = max la (e.1 + e.2.1)) : Bnd l (i + 1) fi' la' := by
 obtain ⟨a, b, c, d, f, g⟩ := h
 obtain ⟨w0, w1, w2, w3, _⟩ := ewrong_no hw
 replace w0 : 0 ≤ e.1 := w0
 replace w1 : e.1 ≤ 9999 := w1
 replace w2 : 1 ≤ e.2.1 := w2
 replace w3 : e.2.1 ≤ 40 := w3
 refine ⟨fun x hx => ?_, by omega, by omega, by omega, by omega, by omega⟩
 rw [take_snoc_at he] at hx
 rcases List.mem_append.1 hx with hx | hx
 ·have := a x hx
  rcases h2 with rfl | h2
  ·simp at hx
  ·omega
 ·rw [List.mem_singleton.1 hx]; omega
theorem epart_zero {e : Exp} {z : Int} (h : z ≤ e.1 ∨ z > e.1 + e.2.1) : epart e z = 0 := if_pos (.inr h)
set_option maxRecDepth 4000 in
set_option maxHeartbeats 8000000 in
theorem all18_any (v : Value) (l : List RExp) (kk : Nat) (w : World) (hv : SlIn (ExpE kk) 6 w v l) :
  Calls Tryz.prog 3 #[v] w fun o w' => o = .returned (.bool true) ∧ Beh w w' := by
 obtain ⟨p, c, rfl, hnc, hcm⟩ := hv.form
 obtain ⟨N, hN⟩ : ∃ N, N = l.length := ⟨_, rfl⟩
 rw [← hN] at hv hnc
 rw [← hN]
 refine calm_enter (C := cxT Tryz.prog w _) (args := [_]) Tryz.func3 rfl Tryz.ntmps3 (Nat.le_of_ble_eq_true rfl) ?_
 (repeat first|refine wN ?_|refine wP rfl ?_|refine cxT_r rfl ?_|refine cxT_d rfl ?_|refine wO rfl rfl ?_)
 cases hf : fewE l with
 | false =>
  refine VO.call rfl rfl (fk Tryz.func14) (fun wa1 ka1 ba1 => (few18_ok _ l kk wa1 (hv.beh (exp_ok kk) ba1) false hf).mono ?_)
  rintro e w1 ⟨rfl, hb1⟩
  skip
  refine ⟨_, rfl, hb1, fun kb1 _ bb1 => wV rfl ?_⟩
  (repeat first|refine wN ?_|refine wP rfl ?_|refine cxT_r rfl ?_|refine cxT_d rfl ?_|refine wO rfl rfl ?_)
  refine VO.call rfl rfl (fk Tryz.func15) (fun wa2 ka2 ba2 => (works18_any wa2).mono ?_)
  rintro e w2 ⟨rfl, hb2⟩
  skip
  refine ⟨_, rfl, hb2, fun kb2 _ bb2 => wV rfl ?_⟩
  (repeat first|refine wN ?_|refine wP rfl ?_|refine cxT_r rfl ?_|refine cxT_d rfl ?_|refine wO rfl rfl ?_)
  refine VS.ret (cxT_ok _ _) rfl rfl (fun wz kz bz => ?_)
  exact ⟨rfl, bz⟩
 | true =>
 refine VO.call rfl rfl (fk Tryz.func14) (fun wa1 ka1 ba1 => (few18_ok _ l kk wa1 (hv.beh (exp_ok kk) ba1) true hf).mono ?_)
 rintro e w1 ⟨rfl, hb1⟩
 skip
 refine ⟨_, rfl, hb1, fun kb1 _ bb1 => wV rfl ?_⟩
 (repeat first|refine wN ?_|refine wP rfl ?_|refine cxT_r rfl ?_|refine cxT_d rfl ?_|refine wO rfl rfl ?_)
 have hl3 := fewE_sl hf hv
 have h10 : N ≤ 10 := by rw [hN]; exact fewE_len hf
 have hsz : ∀ e ∈ l, RSz e.exp.2.2.2 3 := fun e he => by obtain ⟨cs, h⟩ := hl3.mem he; exact h.sz
 cases hw : ewell l with
 | false =>
  refine VO.call rfl rfl (fk Tryz.func16) (fun wa2 ka2 ba2 => (tOf_not _ l 3 wa2 (hl3.beh (exp_ok 3) ba2) (by omega) (by omega) hw).mono ?_)
  rintro e w2 ⟨rfl, hb2⟩
  skip
  refine ⟨_, rfl, hb2, fun kb2 _ bb2 => wV rfl ?_⟩
  (repeat first|refine wN ?_|refine wP rfl ?_|refine cxT_r rfl ?_|refine cxT_d rfl ?_|refine wO rfl rfl ?_)
  refine VO.call rfl rfl (fk Tryz.func15) (fun wa3 ka3 ba3 => (works18_any wa3).mono ?_)
  rintro e w3 ⟨rfl, hb3⟩
  skip
  refine ⟨_, rfl, hb3, fun kb3 _ bb3 => wV rfl ?_⟩
  (repeat first|refine wN ?_|refine wP rfl ?_|refine cxT_r rfl ?_|refine cxT_d rfl ?_|refine wO rfl rfl ?_)
  refine VS.ret (cxT_ok _ _) rfl rfl (fun wz kz bz => ?_)
  exact ⟨rfl, bz⟩
 | true =>
 have hwl := ewell_iff.1 hw
 have hwt : ∀ e ∈ etaken l, ewrong e.exp = false := fun e he => hwl e (List.mem_filter.1 he).1
 have htl : (etaken l).length ≤ 10 := Nat.le_trans (List.length_filter_le _ _) (by omega)
 refine VO.call rfl rfl (fk Tryz.func16) (fun wa2 ka2 ba2 => (tOf_well _ l 3 wa2 (hl3.beh (exp_ok 3) ba2) (by omega) (by omega) hw).mono ?_)
 rintro e w2 ⟨g2, rfl, hg2, q2, hb2⟩
 skip
 refine ⟨_, rfl, hb2, fun kb2 _ bb2 => wV rfl ?_⟩
 (repeat first|refine wN ?_|refine wP rfl ?_|refine cxT_r rfl ?_|refine cxT_d rfl ?_|refine wO rfl rfl ?_)
 obtain ⟨B, hB⟩ : ∃ B, B = wa2.heap.size := ⟨_, rfl⟩
 rw [← hB] at q2
 refine VS.loop (J := fun m L M w' => ∃ (i : Nat) (fi la : Int), i ≤ N ∧ m = N - i ∧ L = [(0, .val (.slice p N c)), (3, .val (.pointer (some ⟨g2, 0, none⟩))), (5, .val (.int .i64 fi)), (6, .val (.int .i64 la)), (7, .val (.int .i64 (i : Int)))] ∧ M = [] ∧ LedAt 3 w' B g2 (etaken l) ∧ Bnd l i fi la) N
  ⟨_, _, ?_, ?_, ?_, ?_, ⟨0, 0, 0, by omega, rfl, rfl, rfl, q2, fun e he => (by simp at he), by omega, by omega, by omega, by omega, by omega⟩⟩ ?_
 ·(repeat first|exact trivial|refine ⟨rfl, ?_⟩)
 ·(repeat first|exact trivial|refine ⟨rfl, ?_⟩)
 ·rfl
 ·(repeat first|exact trivial|refine ⟨ClosedC.lit rfl, ?_⟩|refine ⟨ClosedC.vals _, ?_⟩)
 rintro m L M w1 ⟨i, fi, la, hi, rfl, rfl, rfl, hled, hbnd⟩
 (repeat first|refine wN ?_|refine wP rfl ?_|refine cxT_r rfl ?_|refine cxT_d rfl ?_|refine wO rfl rfl ?_)
 by_cases hlt : i < N
 ·refine VS.condY rfl (decide_eq_true (Int.ofNat_lt.2 hlt)) ?_
  obtain ⟨e, he⟩ : ∃ e, l[i]? = some e := ⟨_, List.getElem?_eq_getElem (by omega)⟩
  have hem := List.mem_of_getElem? he
  obtain ⟨b, off, cs', rfl, hc, hE⟩ := hl3.at he
  have hE0 := hE
  obtain ⟨ep, ec, er, ed, rfl, hi1, hi2, hraw, hx1, hx2⟩ := hE
  have hin := hraw.in hx1 hx2
  have hwe := hwl e hem
  obtain ⟨g0, g1, g3, g4, g5⟩ := ewrong_no hwe
  replace g0 : 0 ≤ e.1 := g0
  replace g1 : e.1 ≤ 9999 := g1
  replace g3 : 1 ≤ e.2.1 := g3
  replace g4 : e.2.1 ≤ 40 := g4
  obtain ⟨T, hT⟩ : ∃ T : Nat, T = e.2.1.toNat := ⟨_, rfl⟩
  have hT' : (T : Int) = e.2.1 := by omega
  have hpz : ∀ z, RSz (epart e.exp z) 4 := fun z => epart_sz (hsz e hem) z
  (repeat first|refine wN ?_|refine wP rfl ?_|refine cxT_r rfl ?_|refine cxT_d rfl ?_|refine wO rfl rfl ?_)
  refine VO.call rfl rfl (fk Tryz.func17) (fun wa3 ka3 ba3 => (ratWhole_any 0 wa3 (by omega) (by omega)).mono ?_)
  rintro e w3 ⟨r3, rfl, q3, hb3⟩
  obtain ⟨s3, p3, n3, c3, t3, y3, m3, d3, rfl⟩ := q3.form
  refine ⟨_, rfl, hb3, fun kb3 _ bb3 => wV rfl ?_⟩
  (repeat first|refine wN ?_|refine wP rfl ?_|refine cxT_r rfl ?_|refine cxT_d rfl ?_|refine wO rfl rfl ?_)
  refine VS.loop (J := fun m L M w' => ∃ (n : Nat) (s : Bool) (p' : Option Addr) (n' c' : Nat) (t : Bool) (r : Option Addr) (m' d : Nat), n ≤ T + 1 ∧ m = T + 1 - n ∧ L = [(0, .val (.slice (some ⟨b, off, none⟩) N c)), (3, .val (.pointer (some ⟨g2, 0, none⟩))), (5, .val (.int .i64 fi)), (6, .val (.int .i64 la)), (7, .val (.int .i64 (i : Int))), (8, .box 8 0), (9, .val (.int .i64 (n : Int)))] ∧
    M = [(8, (33, ([.bool s, .slice p' n' c', .bool t, .slice r m' d] : List Value).map .val))] ∧ RatOwn w' w.heap.size (.agg #[.bool s, .slice p' n' c', .bool t, .slice r m' d]) (eparts e.exp n) ∧ RSz (eparts e.exp n) (stepSz 4 n) ∧ LedAt 3 w' B g2 (etaken l)) (T + 1)
   ⟨_, _, ?_, ?_, ?_, ?_, ⟨0, _, _, _, _, _, _, _, _, by omega, rfl, rfl, rfl, (q3.k).mono ba3.size, RSz.zero.mono (by unfold stepSz; omega), hled.kp (by (with_reducible (repeat (first | assumption | exact kU _ | exact kR _ | exact Kp.of (U := UU) (by assumption) | exact KpS.of (by assumption) | refine kT ?_ (by assumption))))) rfl rfl⟩⟩ ?_
  ·(repeat first|exact trivial|refine ⟨rfl, ?_⟩)
  ·(repeat first|exact trivial|refine ⟨rfl, ?_⟩)
  ·rfl
  ·(repeat first|exact trivial|refine ⟨ClosedC.lit rfl, ?_⟩|refine ⟨ClosedC.vals _, ?_⟩)
  rintro m L M w2 ⟨n, s, p', n', c', t, r, m', d, hn, rfl, rfl, rfl, ho, hz, hled⟩
  have hz2 : stepSz 4 n ≤ 1000 := by show 1 + n * 5 ≤ 1000; omega
  (repeat first|refine wN ?_|refine wP rfl ?_|refine cxT_r rfl ?_|refine cxT_d rfl ?_|refine wO rfl rfl ?_)
  refine VO.cond rfl ⟨by omega, by omega⟩ ?_
  refine wV rfl ?_
  (repeat first|refine wN ?_|refine wP rfl ?_|refine cxT_r rfl ?_|refine cxT_d rfl ?_|refine wO rfl rfl ?_)
  refine VO.read rfl [.int .i64 e.2.1] rfl (cells_at hc 1 _ ⟨_, rfl⟩) (wV rfl ?_)
  (repeat first|refine wN ?_|refine wP rfl ?_|refine cxT_r rfl ?_|refine cxT_d rfl ?_|refine wO rfl rfl ?_)
  by_cases hnT : n ≤ T
  ·refine VS.condY rfl (decide_eq_true (by omega)) ?_
   (repeat first|refine wN ?_|refine wP rfl ?_|refine cxT_r rfl ?_|refine cxT_d rfl ?_|refine wO rfl rfl ?_)
   refine VO.cond rfl ⟨by omega, by omega⟩ ?_
   refine wV rfl ?_
   (repeat first|refine wN ?_|refine wP rfl ?_|refine cxT_r rfl ?_|refine cxT_d rfl ?_|refine wO rfl rfl ?_)
   refine VO.read rfl [.int .i64 e.1, .int .i64 e.2.1, .bool e.2.2.1, .slice ep e.2.2.2.1.length ec, .bool e.2.2.2.2.1, .slice er e.2.2.2.2.2.length ed] rfl (cells_at hc 0 _ ⟨_, rfl⟩) (wV rfl ?_)
   (repeat first|refine wN ?_|refine wP rfl ?_|refine cxT_r rfl ?_|refine cxT_d rfl ?_|refine wO rfl rfl ?_)
   refine VO.cond rfl ⟨by omega, by omega⟩ ?_
   refine wV rfl ?_
   (repeat first|refine wN ?_|refine wP rfl ?_|refine cxT_r rfl ?_|refine cxT_d rfl ?_|refine wO rfl rfl ?_)
   refine VO.read rfl [.int .i64 e.1] rfl (cells_at hc 0 _ ⟨_, rfl⟩) (wV rfl ?_)
   have e4 : IntKind.i64.wrap (e.1 + (n : Int)) = e.1 + (n : Int) := IntWalk.i64_in _ (by omega)
   refine VO.call rfl rfl (fk Tryz.func18) (fun wa4 ka4 ba4 => (tPart_any _ e 3 (IntKind.i64.wrap (e.1 + (n : Int))) wa4 ⟨_, rfl, hE0.kp (Kp.of (U := UU) ba4)⟩ (by omega) (by rw [e4]; unfold i64b; omega)).mono ?_)
   rintro e w4 ⟨r4, rfl, q4, hb4⟩
   rw [e4] at q4; obtain ⟨s4, p4, n4, c4, t4, y4, m4, d4, rfl⟩ := q4.form
   refine ⟨_, rfl, hb4, fun kb4 _ bb4 => wV rfl ?_⟩
   (repeat first|refine wN ?_|refine wP rfl ?_|refine cxT_r rfl ?_|refine cxT_d rfl ?_|refine wO rfl rfl ?_)
   refine VO.call rfl rfl (fk Tryz.func19) (fun wa5 ka5 ba5 => (ratAdd_any _ _ (eparts e.exp n) (epart e.exp (e.1 + (n : Int))) (stepSz 4 n) 4 wa5 (ho.ki hz) (q4.ki (hpz _)) (by omega) (by omega)).mono ?_)
   rintro e w5 ⟨r5, rfl, q5, hb5⟩
   obtain ⟨s5, p5, n5, c5, t5, y5, m5, d5, rfl⟩ := q5.form
   refine ⟨_, rfl, hb5, fun kb5 _ bb5 => wV rfl ?_⟩
   (repeat first|refine wN ?_|refine wP rfl ?_|refine cxT_r rfl ?_|refine cxT_d rfl ?_|refine wO rfl rfl ?_)
   have hnew : RSz (eparts e.exp (n + 1)) (stepSz 4 (n + 1)) := by rw [stepSz_succ]; exact (hz.add (hpz _)).mono (by unfold up1; omega)
   by_cases hn0 : n = 0
   ·subst hn0
    refine VO.fix 63 rfl (congrArg (fun b => AV.val (.bool b)) ((by rfl : ((((0 : Nat) : Int)) == 0) = true))) ?_
    (repeat first|refine wN ?_|refine wP rfl ?_|refine cxT_r rfl ?_|refine cxT_d rfl ?_|refine wO rfl rfl ?_)
    refine VO.call rfl rfl (fk Tryz.func20) (fun wa6 ka6 ba6 => (ratSign_ok _ (epart e.exp (e.1 + ((0 : Nat) : Int))) 4 wa6 (q4.ki (hpz _)) (by omega) 0 (rcmp_zero' (epart_zero (.inl (show e.1 + ((0 : Nat) : Int) ≤ e.1 by omega))))).mono ?_)
    rintro e w6 ⟨rfl, hb6⟩
    skip
    refine ⟨_, rfl, hb6, fun kb6 _ bb6 => wV rfl ?_⟩
    (repeat first|refine wN ?_|refine wP rfl ?_|refine cxT_r rfl ?_|refine cxT_d rfl ?_|refine wO rfl rfl ?_)
    refine VS.back (T + 1 - (0 + 1)) (by omega) ⟨_, _, ?_, ?_, ?_, ?_, ⟨0 + 1, _, _, _, _, _, _, _, _, by omega, rfl, rfl, rfl, (q5.k).mono ba5.size, hnew, hled.kp (by (with_reducible (repeat (first | assumption | exact kU _ | exact kR _ | exact Kp.of (U := UU) (by assumption) | exact KpS.of (by assumption) | refine kT ?_ (by assumption))))) rfl rfl⟩⟩
    ·refine ⟨rfl, rfl, rfl, rfl, rfl, rfl, ?_, trivial⟩
     rw [← nat_step (i := 0) (by omega)]; rfl
    ·(repeat first|exact trivial|refine ⟨rfl, ?_⟩)
    ·rfl
    ·(repeat first|exact trivial|refine ⟨ClosedC.lit rfl, ?_⟩|refine ⟨ClosedC.vals _, ?_⟩)
   ·refine VO.fix 63 rfl (congrArg (fun b => AV.val (.bool b)) ((by rw [beq_eq_false_iff_ne]; omega : (((n : Nat) : Int) == 0) = false))) ?_
    (repeat first|refine wN ?_|refine wP rfl ?_|refine cxT_r rfl ?_|refine cxT_d rfl ?_|refine wO rfl rfl ?_)
    refine VS.back (T + 1 - (n + 1)) (by omega) ⟨_, _, ?_, ?_, ?_, ?_, ⟨n + 1, _, _, _, _, _, _, _, _, by omega, rfl, rfl, rfl, (q5.k).mono ba5.size, hnew, hled.kp (by (with_reducible (repeat (first | assumption | exact kU _ | exact kR _ | exact Kp.of (U := UU) (by assumption) | exact KpS.of (by assumption) | refine kT ?_ (by assumption))))) rfl rfl⟩⟩
    ·refine ⟨rfl, rfl, rfl, rfl, rfl, rfl, ?_, trivial⟩
     rw [← nat_step (i := n) (by omega)]; rfl
    ·(repeat first|exact trivial|refine ⟨rfl, ?_⟩)
    ·rfl
    ·(repeat first|exact trivial|refine ⟨ClosedC.lit rfl, ?_⟩|refine ⟨ClosedC.vals _, ?_⟩)
  ·refine VS.condN rfl (decide_eq_false (by omega)) ?_
   obtain rfl : n = T + 1 := by omega
   have hall : eparts e.exp (T + 1) = e.exp.2.2.2 := by rw [hT]; exact eparts_all hwe
   (repeat first|refine wN ?_|refine wP rfl ?_|refine cxT_r rfl ?_|refine cxT_d rfl ?_|refine wO rfl rfl ?_)
   refine VO.cond rfl ⟨by omega, by omega⟩ ?_
   refine wV rfl ?_
   (repeat first|refine wN ?_|refine wP rfl ?_|refine cxT_r rfl ?_|refine cxT_d rfl ?_|refine wO rfl rfl ?_)
   refine VO.read rfl [.bool e.2.2.1, .slice ep e.2.2.2.1.length ec, .bool e.2.2.2.2.1, .slice er e.2.2.2.2.2.length ed] rfl (cells_at hc 2 _ ⟨_, rfl⟩) (wV rfl ?_)
   refine VO.call rfl rfl (fk Tryz.func21) (fun wa7 ka7 ba7 => (ratCmp_ok _ _ (eparts e.exp (T + 1)) e.exp.2.2.2 (stepSz 4 (T + 1)) 3 wa7 (ho.ki hz) (hin.kp (Kp.of (U := UU) ba7)) (by omega) (by omega) 0 (rcmp_eq hall)).mono ?_)
   rintro e w7 ⟨rfl, hb7⟩
   skip
   refine ⟨_, rfl, hb7, fun kb7 _ bb7 => wV rfl ?_⟩
   (repeat first|refine wN ?_|refine wP rfl ?_|refine cxT_r rfl ?_|refine cxT_d rfl ?_|refine wO rfl rfl ?_)
   refine VO.cond rfl ⟨by omega, by omega⟩ ?_
   refine wV rfl ?_
   (repeat first|refine wN ?_|refine wP rfl ?_|refine cxT_r rfl ?_|refine cxT_d rfl ?_|refine wO rfl rfl ?_)
   refine VO.read rfl [.int .i64 e.1, .int .i64 e.2.1, .bool e.2.2.1, .slice ep e.2.2.2.1.length ec, .bool e.2.2.2.2.1, .slice er e.2.2.2.2.2.length ed] rfl (cells_at hc 0 _ ⟨_, rfl⟩) (wV rfl ?_)
   (repeat first|refine wN ?_|refine wP rfl ?_|refine cxT_r rfl ?_|refine cxT_d rfl ?_|refine wO rfl rfl ?_)
   refine VO.cond rfl ⟨by omega, by omega⟩ ?_
   refine wV rfl ?_
   (repeat first|refine wN ?_|refine wP rfl ?_|refine cxT_r rfl ?_|refine cxT_d rfl ?_|refine wO rfl rfl ?_)
   refine VO.read rfl [.int .i64 e.1] rfl (cells_at hc 0 _ ⟨_, rfl⟩) (wV rfl ?_)
   (repeat first|refine wN ?_|refine wP rfl ?_|refine cxT_r rfl ?_|refine cxT_d rfl ?_|refine wO rfl rfl ?_)
   refine VO.cond rfl ⟨by omega, by omega⟩ ?_
   refine wV rfl ?_
   (repeat first|refine wN ?_|refine wP rfl ?_|refine cxT_r rfl ?_|refine cxT_d rfl ?_|refine wO rfl rfl ?_)
   refine VO.read rfl [.int .i64 e.2.1] rfl (cells_at hc 1 _ ⟨_, rfl⟩) (wV rfl ?_)
   (repeat first|refine wN ?_|refine wP rfl ?_|refine cxT_r rfl ?_|refine cxT_d rfl ?_|refine wO rfl rfl ?_)
   have e8 : IntKind.i64.wrap (IntKind.i64.wrap (e.1 + e.2.1) + 1) = e.1 + e.2.1 + 1 := by rw [IntWalk.i64_in (e.1 + e.2.1) (by omega), IntWalk.i64_in _ (by omega)]
   refine VO.call rfl rfl (fk Tryz.func18) (fun wa8 ka8 ba8 => (tPart_any _ e 3 (IntKind.i64.wrap (IntKind.i64.wrap (e.1 + e.2.1) + 1)) wa8 ⟨_, rfl, hE0.kp (Kp.of (U := UU) ba8)⟩ (by omega) (by rw [e8]; unfold i64b; omega)).mono ?_)
   rintro e w8 ⟨r8, rfl, q8, hb8⟩
   rw [e8] at q8; obtain ⟨s8, p8, n8, c8, t8, y8, m8, d8, rfl⟩ := q8.form
   refine ⟨_, rfl, hb8, fun kb8 _ bb8 => wV rfl ?_⟩
   (repeat first|refine wN ?_|refine wP rfl ?_|refine cxT_r rfl ?_|refine cxT_d rfl ?_|refine wO rfl rfl ?_)
   refine VO.call rfl rfl (fk Tryz.func20) (fun wa9 ka9 ba9 => (ratSign_ok _ (epart e.exp (e.1 + e.2.1 + 1)) 4 wa9 (q8.ki (hpz _)) (by omega) 0 (rcmp_zero' (epart_zero (.inr (show e.1 + e.2.1 + 1 > e.1 + e.2.1 by omega))))).mono ?_)
   rintro e w9 ⟨rfl, hb9⟩
   skip
   refine ⟨_, rfl, hb9, fun kb9 _ bb9 => wV rfl ?_⟩
   (repeat first|refine wN ?_|refine wP rfl ?_|refine cxT_r rfl ?_|refine cxT_d rfl ?_|refine wO rfl rfl ?_)
   refine VO.cond rfl ⟨by omega, by omega⟩ ?_
   refine wV rfl ?_
   (repeat first|refine wN ?_|refine wP rfl ?_|refine cxT_r rfl ?_|refine cxT_d rfl ?_|refine wO rfl rfl ?_)
   refine VO.read rfl [.int .i64 e.1, .int .i64 e.2.1, .bool e.2.2.1, .slice ep e.2.2.2.1.length ec, .bool e.2.2.2.2.1, .slice er e.2.2.2.2.2.length ed] rfl (cells_at hc 0 _ ⟨_, rfl⟩) (wV rfl ?_)
   (repeat first|refine wN ?_|refine wP rfl ?_|refine cxT_r rfl ?_|refine cxT_d rfl ?_|refine wO rfl rfl ?_)
   refine VO.cond rfl ⟨by omega, by omega⟩ ?_
   refine wV rfl ?_
   (repeat first|refine wN ?_|refine wP rfl ?_|refine cxT_r rfl ?_|refine cxT_d rfl ?_|refine wO rfl rfl ?_)
   refine VO.read rfl [.int .i64 e.1] rfl (cells_at hc 0 _ ⟨_, rfl⟩) (wV rfl ?_)
   (repeat first|refine wN ?_|refine wP rfl ?_|refine cxT_r rfl ?_|refine cxT_d rfl ?_|refine wO rfl rfl ?_)
   have e10 : IntKind.i64.wrap (e.1 - 1) = e.1 - 1 := IntWalk.i64_in _ (by omega)
   refine VO.call rfl rfl (fk Tryz.func18) (fun wa10 ka10 ba10 => (tPart_any _ e 3 (IntKind.i64.wrap (e.1 - 1)) wa10 ⟨_, rfl, hE0.kp (Kp.of (U := UU) ba10)⟩ (by omega) (by rw [e10]; unfold i64b; omega)).mono ?_)
   rintro e w10 ⟨r10, rfl, q10, hb10⟩
   rw [e10] at q10; obtain ⟨s10, p10, n10, c10, t10, y10, m10, d10, rfl⟩ := q10.form
   refine ⟨_, rfl, hb10, fun kb10 _ bb10 => wV rfl ?_⟩
   (repeat first|refine wN ?_|refine wP rfl ?_|refine cxT_r rfl ?_|refine cxT_d rfl ?_|refine wO rfl rfl ?_)
   refine VO.call rfl rfl (fk Tryz.func20) (fun wa11 ka11 ba11 => (ratSign_ok _ (epart e.exp (e.1 - 1)) 4 wa11 (q10.ki (hpz _)) (by omega) 0 (rcmp_zero' (epart_zero (.inl (show e.1 - 1 ≤ e.1 by omega))))).mono ?_)
   rintro e w11 ⟨rfl, hb11⟩
   skip
   refine ⟨_, rfl, hb11, fun kb11 _ bb11 => wV rfl ?_⟩
   (repeat first|refine wN ?_|refine wP rfl ?_|refine cxT_r rfl ?_|refine cxT_d rfl ?_|refine wO rfl rfl ?_)
   have e12 : IntKind.i64.wrap (e.1 + e.2.1) = e.1 + e.2.1 := IntWalk.i64_in _ (by omega)
   have hmx : (if IntKind.i64.wrap (e.1 + e.2.1) > la then IntKind.i64.wrap (e.1 + e.2.1) else la) = max la (e.1 + e.2.1) := by rw [e12]; split <;> omega
   by_cases hi0 : i = 0
   ·refine VO.fix 114 rfl (congrArg (fun b => AV.val (.bool b)) ((by rw [beq_iff_eq]; omega : (((i : Nat) : Int) == 0) = true))) ?_
    (repeat first|refine wN ?_|refine wP rfl ?_|refine cxT_r rfl ?_|refine cxT_d rfl ?_|refine wO rfl rfl ?_)
    refine VO.cond rfl ⟨by omega, by omega⟩ ?_
    refine wV rfl ?_
    (repeat first|refine wN ?_|refine wP rfl ?_|refine cxT_r rfl ?_|refine cxT_d rfl ?_|refine wO rfl rfl ?_)
    refine VO.read rfl [.int .i64 e.1] rfl (cells_at hc 0 _ ⟨_, rfl⟩) (wV rfl ?_)
    (repeat first|refine wN ?_|refine wP rfl ?_|refine cxT_r rfl ?_|refine cxT_d rfl ?_|refine wO rfl rfl ?_)
    refine VO.cond rfl ⟨by omega, by omega⟩ ?_
    refine wV rfl ?_
    (repeat first|refine wN ?_|refine wP rfl ?_|refine cxT_r rfl ?_|refine cxT_d rfl ?_|refine wO rfl rfl ?_)
    refine VO.read rfl [.int .i64 e.1] rfl (cells_at hc 0 _ ⟨_, rfl⟩) (wV rfl ?_)
    (repeat first|refine wN ?_|refine wP rfl ?_|refine cxT_r rfl ?_|refine cxT_d rfl ?_|refine wO rfl rfl ?_)
    refine VO.cond rfl ⟨by omega, by omega⟩ ?_
    refine wV rfl ?_
    (repeat first|refine wN ?_|refine wP rfl ?_|refine cxT_r rfl ?_|refine cxT_d rfl ?_|refine wO rfl rfl ?_)
    refine VO.read rfl [.int .i64 e.2.1] rfl (cells_at hc 1 _ ⟨_, rfl⟩) (wV rfl ?_)
    (repeat first|refine wN ?_|refine wP rfl ?_|refine cxT_r rfl ?_|refine cxT_d rfl ?_|refine wO rfl rfl ?_)
    refine VS.back (N - (i + 1)) (by omega) ⟨_, _, ?_, ?_, ?_, ?_, ⟨i + 1, e.1, max la (e.1 + e.2.1), by omega, rfl, rfl, rfl, hled.kp (by (with_reducible (repeat (first | assumption | exact kU _ | exact kR _ | exact Kp.of (U := UU) (by assumption) | exact KpS.of (by assumption) | refine kT ?_ (by assumption))))) rfl rfl, hbnd.step he hwe (Int.le_refl _) (.inl hi0) (.inl rfl) rfl⟩⟩
    ·refine ⟨rfl, rfl, rfl, ?_, ?_, trivial⟩
     ·exact congrArg (fun z => some (AV.val (.int .i64 z))) hmx
     ·rw [← nat_step (i := i) (by omega)]; rfl
    ·(repeat first|exact trivial|refine ⟨rfl, ?_⟩)
    ·rfl
    ·(repeat first|exact trivial|refine ⟨ClosedC.lit rfl, ?_⟩|refine ⟨ClosedC.vals _, ?_⟩)
   ·refine VO.fix 114 rfl (congrArg (fun b => AV.val (.bool b)) ((by rw [beq_eq_false_iff_ne]; omega : (((i : Nat) : Int) == 0) = false))) ?_
    (repeat first|refine wN ?_|refine wP rfl ?_|refine cxT_r rfl ?_|refine cxT_d rfl ?_|refine wO rfl rfl ?_)
    refine VO.cond rfl ⟨by omega, by omega⟩ ?_
    refine wV rfl ?_
    (repeat first|refine wN ?_|refine wP rfl ?_|refine cxT_r rfl ?_|refine cxT_d rfl ?_|refine wO rfl rfl ?_)
    refine VO.read rfl [.int .i64 e.1] rfl (cells_at hc 0 _ ⟨_, rfl⟩) (wV rfl ?_)
    (repeat first|refine wN ?_|refine wP rfl ?_|refine cxT_r rfl ?_|refine cxT_d rfl ?_|refine wO rfl rfl ?_)
    by_cases hfi : e.1 < fi
    ·refine VS.condY rfl (decide_eq_true hfi) ?_
     (repeat first|refine wN ?_|refine wP rfl ?_|refine cxT_r rfl ?_|refine cxT_d rfl ?_|refine wO rfl rfl ?_)
     refine VO.cond rfl ⟨by omega, by omega⟩ ?_
     refine wV rfl ?_
     (repeat first|refine wN ?_|refine wP rfl ?_|refine cxT_r rfl ?_|refine cxT_d rfl ?_|refine wO rfl rfl ?_)
     refine VO.read rfl [.int .i64 e.1] rfl (cells_at hc 0 _ ⟨_, rfl⟩) (wV rfl ?_)
     (repeat first|refine wN ?_|refine wP rfl ?_|refine cxT_r rfl ?_|refine cxT_d rfl ?_|refine wO rfl rfl ?_)
     refine VO.cond rfl ⟨by omega, by omega⟩ ?_
     refine wV rfl ?_
     (repeat first|refine wN ?_|refine wP rfl ?_|refine cxT_r rfl ?_|refine cxT_d rfl ?_|refine wO rfl rfl ?_)
     refine VO.read rfl [.int .i64 e.1] rfl (cells_at hc 0 _ ⟨_, rfl⟩) (wV rfl ?_)
     (repeat first|refine wN ?_|refine wP rfl ?_|refine cxT_r rfl ?_|refine cxT_d rfl ?_|refine wO rfl rfl ?_)
     refine VO.cond rfl ⟨by omega, by omega⟩ ?_
     refine wV rfl ?_
     (repeat first|refine wN ?_|refine wP rfl ?_|refine cxT_r rfl ?_|refine cxT_d rfl ?_|refine wO rfl rfl ?_)
     refine VO.read rfl [.int .i64 e.2.1] rfl (cells_at hc 1 _ ⟨_, rfl⟩) (wV rfl ?_)
     (repeat first|refine wN ?_|refine wP rfl ?_|refine cxT_r rfl ?_|refine cxT_d rfl ?_|refine wO rfl rfl ?_)
     refine VS.back (N - (i + 1)) (by omega) ⟨_, _, ?_, ?_, ?_, ?_, ⟨i + 1, e.1, max la (e.1 + e.2.1), by omega, rfl, rfl, rfl, hled.kp (by (with_reducible (repeat (first | assumption | exact kU _ | exact kR _ | exact Kp.of (U := UU) (by assumption) | exact KpS.of (by assumption) | refine kT ?_ (by assumption))))) rfl rfl, hbnd.step he hwe (Int.le_refl _) (.inr (by omega)) (.inl rfl) rfl⟩⟩
     ·refine ⟨rfl, rfl, rfl, ?_, ?_, trivial⟩
      ·exact congrArg (fun z => some (AV.val (.int .i64 z))) hmx
      ·rw [← nat_step (i := i) (by omega)]; rfl
     ·(repeat first|exact trivial|refine ⟨rfl, ?_⟩)
     ·rfl
     ·(repeat first|exact trivial|refine ⟨ClosedC.lit rfl, ?_⟩|refine ⟨ClosedC.vals _, ?_⟩)
    ·refine VS.condN rfl (decide_eq_false hfi) ?_
     (repeat first|refine wN ?_|refine wP rfl ?_|refine cxT_r rfl ?_|refine cxT_d rfl ?_|refine wO rfl rfl ?_)
     refine VO.cond rfl ⟨by omega, by omega⟩ ?_
     refine wV rfl ?_
     (repeat first|refine wN ?_|refine wP rfl ?_|refine cxT_r rfl ?_|refine cxT_d rfl ?_|refine wO rfl rfl ?_)
     refine VO.read rfl [.int .i64 e.1] rfl (cells_at hc 0 _ ⟨_, rfl⟩) (wV rfl ?_)
     (repeat first|refine wN ?_|refine wP rfl ?_|refine cxT_r rfl ?_|refine cxT_d rfl ?_|refine wO rfl rfl ?_)
     refine VO.cond rfl ⟨by omega, by omega⟩ ?_
     refine wV rfl ?_
     (repeat first|refine wN ?_|refine wP rfl ?_|refine cxT_r rfl ?_|refine cxT_d rfl ?_|refine wO rfl rfl ?_)
     refine VO.read rfl [.int .i64 e.2.1] rfl (cells_at hc 1 _ ⟨_, rfl⟩) (wV rfl ?_)
     (repeat first|refine wN ?_|refine wP rfl ?_|refine cxT_r rfl ?_|refine cxT_d rfl ?_|refine wO rfl rfl ?_)
     refine VS.back (N - (i + 1)) (by omega) ⟨_, _, ?_, ?_, ?_, ?_, ⟨i + 1, fi, max la (e.1 + e.2.1), by omega, rfl, rfl, rfl, hled.kp (by (with_reducible (repeat (first | assumption | exact kU _ | exact kR _ | exact Kp.of (U := UU) (by assumption) | exact KpS.of (by assumption) | refine kT ?_ (by assumption))))) rfl rfl, hbnd.step he hwe (by omega) (.inr (Int.le_refl _)) (.inr rfl) rfl⟩⟩
     ·refine ⟨rfl, rfl, rfl, ?_, ?_, trivial⟩
      ·exact congrArg (fun z => some (AV.val (.int .i64 z))) hmx
      ·rw [← nat_step (i := i) (by omega)]; rfl
     ·(repeat first|exact trivial|refine ⟨rfl, ?_⟩)
     ·rfl
     ·(repeat first|exact trivial|refine ⟨ClosedC.lit rfl, ?_⟩|refine ⟨ClosedC.vals _, ?_⟩)
 ·refine VS.condN rfl (decide_eq_false (fun e => hlt (Int.ofNat_lt.1 e))) ?_
  obtain rfl : i = N := by omega
  obtain ⟨ha, hb0, hb1, hb2', hb3', hb4'⟩ := hbnd
  rw [List.take_of_length_le (by omega)] at ha
  have e60 : IntKind.i64.wrap (la - fi) = la - fi := IntWalk.i64_in _ (by omega)
  (repeat first|refine wN ?_|refine wP rfl ?_|refine cxT_r rfl ?_|refine cxT_d rfl ?_|refine wO rfl rfl ?_)
  by_cases h60 : la - fi > 60
  ·refine VS.condY rfl (by rw [e60]; exact decide_eq_true h60) ?_
   (repeat first|refine wN ?_|refine wP rfl ?_|refine cxT_r rfl ?_|refine cxT_d rfl ?_|refine wO rfl rfl ?_)
   refine VO.call rfl rfl (fk Tryz.func15) (fun wa12 ka12 ba12 => (works18_any wa12).mono ?_)
   rintro e w12 ⟨rfl, hb12⟩
   skip
   refine ⟨_, rfl, hb12, fun kb12 _ bb12 => wV rfl ?_⟩
   (repeat first|refine wN ?_|refine wP rfl ?_|refine cxT_r rfl ?_|refine cxT_d rfl ?_|refine wO rfl rfl ?_)
   refine VS.ret (cxT_ok _ _) rfl rfl (fun wz kz bz => ?_)
   exact ⟨rfl, bz⟩
  refine VS.condN rfl (by rw [e60]; exact decide_eq_false h60) ?_
  (repeat first|refine wN ?_|refine wP rfl ?_|refine cxT_r rfl ?_|refine cxT_d rfl ?_|refine wO rfl rfl ?_)
  have e13 : IntKind.i64.wrap (fi - 1) = fi - 1 := IntWalk.i64_in _ (by omega)
  have hbef : ebalR l (fi - 1) = 0 := bal_before fun e he => by have := (ha e he).1; omega
  have haft : ebalR l la = 0 := bal_after hwl fun e he => (ha e he).2
  have hbs := bal_sz hsz hwl (by omega)
  have hS : stepSz 4 10 ≤ 100 := by decide
  refine VO.call rfl rfl (fk Tryz.func22) (fun wa13 ka13 ba13 => (tBalance_any g2 (etaken l) 3 (IntKind.i64.wrap (fi - 1)) wa13 (hled.kp ka13 rfl rfl).in hwt (by omega) (by rw [e13]; unfold i64b; omega) (by omega)).mono ?_)
  rintro e w13 ⟨r13, rfl, q13, hs13, hb13⟩
  rw [e13, bal_taken] at q13; obtain ⟨s13, p13, n13, c13, t13, y13, m13, d13, rfl⟩ := q13.form
  refine ⟨_, rfl, hb13, fun kb13 _ bb13 => wV rfl ?_⟩
  (repeat first|refine wN ?_|refine wP rfl ?_|refine cxT_r rfl ?_|refine cxT_d rfl ?_|refine wO rfl rfl ?_)
  refine VO.call rfl rfl (fk Tryz.func20) (fun wa14 ka14 ba14 => (ratSign_ok _ (ebalR l (fi - 1)) (stepSz 4 10) wa14 (q13.ki (hbs _)) (by omega) 0 (rcmp_zero' hbef)).mono ?_)
  rintro e w14 ⟨rfl, hb14⟩
  skip
  refine ⟨_, rfl, hb14, fun kb14 _ bb14 => wV rfl ?_⟩
  (repeat first|refine wN ?_|refine wP rfl ?_|refine cxT_r rfl ?_|refine cxT_d rfl ?_|refine wO rfl rfl ?_)
  refine VS.loop (J := fun m L M w' => ∃ (y : Int) (s : Bool) (p' : Option Addr) (n' c' : Nat) (t : Bool) (r : Option Addr) (m' d : Nat), fi ≤ y ∧ y ≤ la + 1 ∧ m = (la + 1 - y).toNat ∧ L = [(0, .val (.slice p i c)), (3, .val (.pointer (some ⟨g2, 0, none⟩))), (6, .val (.int .i64 la)), (11, .box 11 0), (12, .val (.int .i64 y))] ∧
    M = [(11, (33, ([.bool s, .slice p' n' c', .bool t, .slice r m' d] : List Value).map .val))] ∧ RatOwn w' w.heap.size (.agg #[.bool s, .slice p' n' c', .bool t, .slice r m' d]) (ebalR l (y - 1)) ∧ LedAt 3 w' B g2 (etaken l)) (la + 1 - fi).toNat
   ⟨_, _, ?_, ?_, ?_, ?_, ⟨fi, _, _, _, _, _, _, _, _, by omega, by omega, rfl, rfl, rfl, (q13.k).mono ba13.size, hled.kp (by (with_reducible (repeat (first | assumption | exact kU _ | exact kR _ | exact Kp.of (U := UU) (by assumption) | exact KpS.of (by assumption) | refine kT ?_ (by assumption))))) rfl rfl⟩⟩ ?_
  ·(repeat first|exact trivial|refine ⟨rfl, ?_⟩)
  ·(repeat first|exact trivial|refine ⟨rfl, ?_⟩)
  ·rfl
  ·(repeat first|exact trivial|refine ⟨ClosedC.lit rfl, ?_⟩|refine ⟨ClosedC.vals _, ?_⟩)
  rintro m L M w2 ⟨y, s, p', n', c', t, r, m', d, hy1, hy2, rfl, rfl, rfl, ho, hled⟩
  (repeat first|refine wN ?_|refine wP rfl ?_|refine cxT_r rfl ?_|refine cxT_d rfl ?_|refine wO rfl rfl ?_)
  by_cases hyl : y ≤ la
  ·refine VS.condY rfl (decide_eq_true hyl) ?_
   (repeat first|refine wN ?_|refine wP rfl ?_|refine cxT_r rfl ?_|refine cxT_d rfl ?_|refine wO rfl rfl ?_)
   refine VS.loop (J := fun m L M w' => ∃ (k : Nat) (s : Bool) (p' : Option Addr) (n' c' : Nat) (t : Bool) (r : Option Addr) (m' d : Nat), k ≤ i ∧ m = i - k ∧ L = [(0, .val (.slice p i c)), (3, .val (.pointer (some ⟨g2, 0, none⟩))), (6, .val (.int .i64 la)), (11, .box 11 0), (12, .val (.int .i64 y)), (13, .val (.int .i64 (k : Int)))] ∧
     M = [(11, (33, ([.bool s, .slice p' n' c', .bool t, .slice r m' d] : List Value).map .val))] ∧ RatOwn w' w.heap.size (.agg #[.bool s, .slice p' n' c', .bool t, .slice r m' d]) (ebalR l (y - 1) + eputR (l.take k) y) ∧ LedAt 3 w' B g2 (etaken l)) i
    ⟨_, _, ?_, ?_, ?_, ?_, ⟨0, _, _, _, _, _, _, _, _, by omega, rfl, rfl, rfl, ho.cast (show ebalR l (y - 1) = ebalR l (y - 1) + 0 by grind), hled⟩⟩ ?_
   ·(repeat first|exact trivial|refine ⟨rfl, ?_⟩)
   ·(repeat first|exact trivial|refine ⟨rfl, ?_⟩)
   ·rfl
   ·(repeat first|exact trivial|refine ⟨ClosedC.lit rfl, ?_⟩|refine ⟨ClosedC.vals _, ?_⟩)
   rintro m L M w3 ⟨k, s, p', n', c', t, r, m', d, hk, rfl, rfl, rfl, ho, hled⟩
   have hps : ∀ k, RSz (eputR (l.take k) y) (stepSz 4 10) := fun k => put_sz (fun e he => hsz e (List.mem_of_mem_take he)) (by rw [List.length_take]; omega) y
   have hsum : ∀ k, RSz (ebalR l (y - 1) + eputR (l.take k) y) 201 := fun k => ((hbs (y - 1)).add (hps k)).mono (by omega)
   (repeat first|refine wN ?_|refine wP rfl ?_|refine cxT_r rfl ?_|refine cxT_d rfl ?_|refine wO rfl rfl ?_)
   by_cases hlt2 : k < i
   ·refine VS.condY rfl (decide_eq_true (Int.ofNat_lt.2 hlt2)) ?_
    obtain ⟨e, he⟩ : ∃ e, l[k]? = some e := ⟨_, List.getElem?_eq_getElem (by omega)⟩
    have hem := List.mem_of_getElem? he
    obtain ⟨b, off, cs', rfl, hc, hE⟩ := hl3.at he
    obtain ⟨ep, ec, er, ed, rfl, hi1, hi2, hraw, hx1, hx2⟩ := hE
    have hin := hraw.in hx1 hx2
    (repeat first|refine wN ?_|refine wP rfl ?_|refine cxT_r rfl ?_|refine cxT_d rfl ?_|refine wO rfl rfl ?_)
    refine VO.cond rfl ⟨by omega, by omega⟩ ?_
    refine wV rfl ?_
    (repeat first|refine wN ?_|refine wP rfl ?_|refine cxT_r rfl ?_|refine cxT_d rfl ?_|refine wO rfl rfl ?_)
    refine VO.read rfl [.int .i64 e.1] rfl (cells_at hc 0 _ ⟨_, rfl⟩) (wV rfl ?_)
    (repeat first|refine wN ?_|refine wP rfl ?_|refine cxT_r rfl ?_|refine cxT_d rfl ?_|refine wO rfl rfl ?_)
    by_cases hey : e.1 = y
    ·refine VS.condY rfl (by rw [beq_iff_eq]; exact hey) ?_
     (repeat first|refine wN ?_|refine wP rfl ?_|refine cxT_r rfl ?_|refine cxT_d rfl ?_|refine wO rfl rfl ?_)
     refine VO.cond rfl ⟨by omega, by omega⟩ ?_
     refine wV rfl ?_
     (repeat first|refine wN ?_|refine wP rfl ?_|refine cxT_r rfl ?_|refine cxT_d rfl ?_|refine wO rfl rfl ?_)
     refine VO.read rfl [.bool e.2.2.1, .slice ep e.2.2.2.1.length ec, .bool e.2.2.2.2.1, .slice er e.2.2.2.2.2.length ed] rfl (cells_at hc 2 _ ⟨_, rfl⟩) (wV rfl ?_)
     refine VO.call rfl rfl (fk Tryz.func19) (fun wa15 ka15 ba15 => (ratAdd_any _ _ (ebalR l (y - 1) + eputR (l.take k) y) e.exp.2.2.2 201 3 wa15 (ho.ki (hsum k)) (hin.kp (Kp.of (U := UU) ba15)) (by omega) (by omega)).mono ?_)
     rintro e w15 ⟨r15, rfl, q15, hb15⟩
     obtain ⟨s15, p15, n15, c15, t15, y15, m15, d15, rfl⟩ := q15.form
     refine ⟨_, rfl, hb15, fun kb15 _ bb15 => wV rfl ?_⟩
     (repeat first|refine wN ?_|refine wP rfl ?_|refine cxT_r rfl ?_|refine cxT_d rfl ?_|refine wO rfl rfl ?_)
     refine VS.back (i - (k + 1)) (by omega) ⟨_, _, ?_, ?_, ?_, ?_, ⟨k + 1, _, _, _, _, _, _, _, _, by omega, rfl, rfl, rfl, ((q15.k).mono ba15.size).cast (by rw [put_snoc he, if_pos hey, Rat.add_assoc]), hled.kp (by (with_reducible (repeat (first | assumption | exact kU _ | exact kR _ | exact Kp.of (U := UU) (by assumption) | exact KpS.of (by assumption) | refine kT ?_ (by assumption))))) rfl rfl⟩⟩
     ·refine ⟨rfl, rfl, rfl, rfl, rfl, ?_, trivial⟩
      rw [← nat_step (i := k) (by omega)]; rfl
     ·(repeat first|exact trivial|refine ⟨rfl, ?_⟩)
     ·rfl
     ·(repeat first|exact trivial|refine ⟨ClosedC.lit rfl, ?_⟩|refine ⟨ClosedC.vals _, ?_⟩)
    ·refine VS.condN rfl (by rw [beq_eq_false_iff_ne]; exact hey) ?_
     (repeat first|refine wN ?_|refine wP rfl ?_|refine cxT_r rfl ?_|refine cxT_d rfl ?_|refine wO rfl rfl ?_)
     refine VS.back (i - (k + 1)) (by omega) ⟨_, _, ?_, ?_, ?_, ?_, ⟨k + 1, _, _, _, _, _, _, _, _, by omega, rfl, rfl, rfl, ho.cast (by rw [put_snoc he, if_neg hey]; grind), hled⟩⟩
     ·refine ⟨rfl, rfl, rfl, rfl, rfl, ?_, trivial⟩
      rw [← nat_step (i := k) (by omega)]; rfl
     ·(repeat first|exact trivial|refine ⟨rfl, ?_⟩)
     ·rfl
     ·(repeat first|exact trivial|refine ⟨ClosedC.lit rfl, ?_⟩|refine ⟨ClosedC.vals _, ?_⟩)
   ·refine VS.condN rfl (decide_eq_false (fun e => hlt2 (Int.ofNat_lt.1 e))) ?_
    obtain rfl : k = i := by omega
    (repeat first|refine wN ?_|refine wP rfl ?_|refine cxT_r rfl ?_|refine cxT_d rfl ?_|refine wO rfl rfl ?_)
    have hls : l.take k = l := List.take_of_length_le (by omega)
    have hst := bal_step hwl y
    refine VO.call rfl rfl (fk Tryz.func24) (fun wa16 ka16 ba16 => (tDue_any g2 (etaken l) 3 y wa16 (hled.kp ka16 rfl rfl).in (by omega) (by unfold i64b; omega) (by omega)).mono ?_)
    rintro e w16 ⟨r16, rfl, q16, hs16, hb16⟩
    rw [due_taken] at q16 hs16; obtain ⟨s16, p16, n16, c16, t16, y16, m16, d16, rfl⟩ := q16.form
    refine ⟨_, rfl, hb16, fun kb16 _ bb16 => wV rfl ?_⟩
    (repeat first|refine wN ?_|refine wP rfl ?_|refine cxT_r rfl ?_|refine cxT_d rfl ?_|refine wO rfl rfl ?_)
    have hs16' : RSz (edueR l y) 100 := hs16.mono (Nat.le_trans (stepSz_le htl) (by decide))
    refine VO.call rfl rfl (fk Tryz.func23) (fun wa17 ka17 ba17 => (ratSub_any _ _ (ebalR l (y - 1) + eputR (l.take k) y) (edueR l y) 201 100 wa17 (ho.ki (hsum k)) (q16.ki hs16') (by omega) (by omega)).mono ?_)
    rintro e w17 ⟨r17, rfl, q17, hb17⟩
    obtain ⟨s17, p17, n17, c17, t17, y17, m17, d17, rfl⟩ := q17.form
    refine ⟨_, rfl, hb17, fun kb17 _ bb17 => wV rfl ?_⟩
    (repeat first|refine wN ?_|refine wP rfl ?_|refine cxT_r rfl ?_|refine cxT_d rfl ?_|refine wO rfl rfl ?_)
    rw [hls, ← hst] at q17
    refine VO.call rfl rfl (fk Tryz.func22) (fun wa18 ka18 ba18 => (tBalance_any g2 (etaken l) 3 y wa18 (hled.kp (by (with_reducible (repeat (first | assumption | exact kU _ | exact kR _ | exact Kp.of (U := UU) (by assumption) | exact KpS.of (by assumption) | refine kT ?_ (by assumption))))) rfl rfl).in hwt (by omega) (by unfold i64b; omega) (by omega)).mono ?_)
    rintro e w18 ⟨r18, rfl, q18, hs18, hb18⟩
    rw [bal_taken] at q18; obtain ⟨s18, p18, n18, c18, t18, y18, m18, d18, rfl⟩ := q18.form
    refine ⟨_, rfl, hb18, fun kb18 _ bb18 => wV rfl ?_⟩
    (repeat first|refine wN ?_|refine wP rfl ?_|refine cxT_r rfl ?_|refine cxT_d rfl ?_|refine wO rfl rfl ?_)
    refine VO.call rfl rfl (fk Tryz.func21) (fun wa19 ka19 ba19 => (ratCmp_ok _ _ (ebalR l y) (ebalR l y) (stepSz 4 10) (stepSz 4 10) wa19 (q17.ki (hbs y)) (q18.ki (hbs y)) (by omega) (by omega) 0 (rcmp_eq rfl)).mono ?_)
    rintro e w19 ⟨rfl, hb19⟩
    skip
    refine ⟨_, rfl, hb19, fun kb19 _ bb19 => wV rfl ?_⟩
    (repeat first|refine wN ?_|refine wP rfl ?_|refine cxT_r rfl ?_|refine cxT_d rfl ?_|refine wO rfl rfl ?_)
    refine VS.back (la + 1 - (y + 1)).toNat (by omega) ⟨_, _, ?_, ?_, ?_, ?_, ⟨y + 1, _, _, _, _, _, _, _, _, by omega, by omega, rfl, rfl, rfl, ((q17.k).mono ba17.size).cast (by rw [show y + 1 - 1 = y by omega]), hled.kp (by (with_reducible (repeat (first | assumption | exact kU _ | exact kR _ | exact Kp.of (U := UU) (by assumption) | exact KpS.of (by assumption) | refine kT ?_ (by assumption))))) rfl rfl⟩⟩
    ·refine ⟨rfl, rfl, rfl, rfl, ?_, trivial⟩
     exact congrArg (fun z => some (AV.val (.int .i64 z))) (IntWalk.i64_in (y + 1) (by omega))
    ·(repeat first|exact trivial|refine ⟨rfl, ?_⟩)
    ·rfl
    ·(repeat first|exact trivial|refine ⟨ClosedC.lit rfl, ?_⟩|refine ⟨ClosedC.vals _, ?_⟩)
  ·refine VS.condN rfl (decide_eq_false hyl) ?_
   obtain rfl : y = la + 1 := by omega
   rw [show la + 1 - 1 = la by omega] at ho
   (repeat first|refine wN ?_|refine wP rfl ?_|refine cxT_r rfl ?_|refine cxT_d rfl ?_|refine wO rfl rfl ?_)
   refine VO.call rfl rfl (fk Tryz.func20) (fun wa20 ka20 ba20 => (ratSign_ok _ (ebalR l la) (stepSz 4 10) wa20 (ho.ki (hbs la)) (by omega) 0 (rcmp_zero' haft)).mono ?_)
   rintro e w20 ⟨rfl, hb20⟩
   skip
   refine ⟨_, rfl, hb20, fun kb20 _ bb20 => wV rfl ?_⟩
   (repeat first|refine wN ?_|refine wP rfl ?_|refine cxT_r rfl ?_|refine cxT_d rfl ?_|refine wO rfl rfl ?_)
   refine VO.call rfl rfl (fk Tryz.func15) (fun wa21 ka21 ba21 => (works18_any wa21).mono ?_)
   rintro e w21 ⟨rfl, hb21⟩
   skip
   refine ⟨_, rfl, hb21, fun kb21 _ bb21 => wV rfl ?_⟩
   (repeat first|refine wN ?_|refine wP rfl ?_|refine cxT_r rfl ?_|refine cxT_d rfl ?_|refine wO rfl rfl ?_)
   refine VS.ret (cxT_ok _ _) rfl rfl (fun wz kz bz => ?_)
   exact ⟨rfl, bz⟩
end Go.Proofs.YtohlmpibnnkanaaGreat
