/- The statements of layer 28: circumstances; few. -/
import Derived.Test.YtofdiijioejljaaGreatBrThr
import Derived.Test.YtofdiijioejljaaGreatReb
set_option linter.all false
set_option maxRecDepth 4000
namespace Go.Proofs.YtofdiijioejljaaGreat
open Go.RowKit
attribute [local irreducible] vcOps VS

abbrev cxK (P : Program) (w : World) (N : Nat) : Cx := { P := P, w0 := w, N := N, K := ⟨UU, fun _ => True, fun t => (Nat.beq t 59 || Nat.beq t 73)⟩, SU := fun t => (Nat.beq t 23 || Nat.beq t 22), ti := table, keep := fun _ _ => trivial }
theorem cxK_ok (w : World) (N : Nat) : (cxK Tryz.prog w N).Ok := table_ok
theorem cxK_mixed (w : World) (N : Nat) : (cxK Tryz.prog w N).P.follows .mixedOrders = true := by show Tryz.prog.follows .mixedOrders = true; kernel_rfl
section
variable {F F' : Fr} {H H' : Hp} {w w1 : World} {N : Nat} {l' : List Oper} {Q : Exit → Act → World → Prop} {k : List It} {id : Nat} {ops : Array Oper}
theorem cxK_r (e : runD (cxK Tryz.prog w1 N) ops 80 ops.toList F H = (l', F', H')) (h : vcOps (cxK Tryz.prog w1 N) none ops l' (VS (cxK Tryz.prog w1 N) Q k) F' H' w) : VS (cxK Tryz.prog w1 N) Q (.code (.region id ops false) :: k) F H w := VS.region (cxK_ok _ _) (VO.run 80 e h)
theorem cxK_d (e : runD (cxK Tryz.prog w1 N) ops 80 ops.toList F H = (l', F', H')) (h : vcOps (cxK Tryz.prog w1 N) (some []) ops l' (VS (cxK Tryz.prog w1 N) Q k) F' H' w) (hchk : drawOk (cxK Tryz.prog w1 N).SU [] ops = true := by kernel_rfl) : VS (cxK Tryz.prog w1 N) Q (.code (.region id ops true) :: k) F H w := VS.draw (cxK_ok _ _) (cxK_mixed _ _) [] hchk (VO.run 80 e h)
end
theorem kK {w0 w w' : World} {N : Nat} (h : KpS (cxK Tryz.prog w0 N).K w w' := by (with_reducible (repeat (first | assumption | exact kU _ | exact kR _ | exact Kp.of (U := UU) (by assumption) | exact KpS.of (by assumption) | refine kT ?_ (by assumption))))) : Kp UU w w' := h.weak
def RrE (_ : World) (cs : List Value) (e : RR) : Prop := ∃ p c r d, cs = [.bool e.1, .slice p e.2.1.length c, .bool e.2.2.1, .slice r e.2.2.2.length d]
theorem rr_ok : ElOk RrE 4 where
 kp := fun h _ => h
 len := fun h => by obtain ⟨p, c, r, d, rfl⟩ := h; rfl
 ok := fun h => by obtain ⟨p, c, r, d, rfl⟩ := h; rfl
def fl (l : List RBr) : List RR := l.flatMap fun e => [e.1, e.2]
theorem fl_len (l : List RBr) : (fl l).length = 2 * l.length := by
 induction l with
 | nil => rfl
 | cons e r ih => show (e.1 :: e.2 :: fl r).length = _; simp [ih]; omega
theorem fl_snoc {l : List RBr} {z : Nat} {e : RBr} (h : l[z]? = some e) : fl (l.take (z + 1)) = fl (l.take z) ++ [e.1, e.2] := by
 rw [take_snoc_at h]
 unfold fl
 rw [List.flatMap_append]
 rfl
def rsm (x : RR) : Bool := decide (x.2.1.length ≤ 4) && decide (x.2.2.2.length ≤ 4)
def fewB (l : List RBr) (xs : List RR) : Bool := decide (l.length ≤ 20) && (xs ++ fl l).all rsm
theorem fewB_not {l : List RBr} {xs : List RR} {z : Nat} {e : RR} (he : (xs ++ fl l)[z]? = some e) (h : rsm e = false) : fewB l xs = false := by
 unfold fewB
 cases h' : (xs ++ fl l).all rsm with
 | false => simp
 | true => rw [List.all_eq_true.1 h' e (List.mem_of_getElem? he)] at h; cases h
theorem rsm_snoc {l : List RR} {z : Nat} {e : RR} (he : l[z]? = some e) (h : (l.take z).all rsm = true) (hw : rsm e = true) : (l.take (z + 1)).all rsm = true := by
 rw [take_snoc_at he, List.all_append, h]; simp [hw]
theorem row_peekAt {α : Type} {E : World → List Value → α → Prop} {sz : Nat} (hE : ElOk E sz) {w : World} {es : List α} {vs : List (List Value)} (h : RowE E w es vs) (spare : List AV) {i : Nat} {cs : List Value} (hv : vs[i]? = some cs) (k : Nat) (ds : List Value) (hd : ds <+: cs.drop k) :
  ∀ (j : Nat) (u : AV), (ds.map AV.val)[j]? = some u → (vs.flatten.map AV.val ++ spare)[0 + ((i : Nat) : Int).toNat * sz + k + j]? = some u := by
 intro j u hj
 obtain ⟨t, ht⟩ := hd
 have := row_peek hE h spare hv (k + j) u (by
  rw [List.getElem?_map] at hj ⊢
  rw [← List.getElem?_drop, ← ht, List.getElem?_append_left]
  ·exact hj
  ·cases hh : ds[j]? with
   | none => rw [hh] at hj; cases hj
   | some v => exact (List.getElem?_eq_some_iff.1 hh).1)
 rw [← Nat.add_assoc] at this
 exact this
set_option maxRecDepth 4000 in
set_option maxHeartbeats 4000000 in
theorem few28_any (v : Value) (p : Option Addr) (n : Nat) (l : List RBr) (xs : List RR) (kk : Nat) (w : World) (hv : SlIn (BrE kk) 8 w v l) (hx : SlIn RrE 4 w (.slice p n n) xs) (hn0 : 0 < n) (hn : n ≤ 1000) :
  Calls Tryz.prog 7 #[v, .slice p n n] w fun o w' => o = .returned (.bool (fewB l xs)) ∧ Beh w w' := by
 obtain ⟨q, c, rfl, hnc, hcm⟩ := hv.form
 obtain ⟨N, hN⟩ : ∃ N, N = l.length := ⟨_, rfl⟩
 rw [← hN] at hv hnc
 rw [← hN]
 refine calm_enter (C := cxOf Tryz.prog w _) (args := [_, _]) Tryz.func7 rfl Tryz.ntmps7 (Nat.le_of_ble_eq_true rfl) ?_
 (repeat first|refine wN ?_|refine wP rfl ?_|refine cx_r rfl ?_|refine cx_d rfl ?_|refine wO rfl rfl ?_)
 by_cases hN20 : N ≤ 20
 ·refine VS.condN rfl (decide_eq_false (show ¬ (N : Int) > 20 by omega)) ?_
  (repeat first|refine wN ?_|refine wP rfl ?_|refine cx_r rfl ?_|refine cx_d rfl ?_|refine wO rfl rfl ?_)
  refine VS.loop (J := fun m L M w' => ∃ z : Nat, z ≤ N ∧ m = N - z ∧
    ((z = 0 ∧ L = [(0, .val (.slice q N c)), (1, .val (.slice p n n)), (5, .val (.int .i64 (z : Int)))] ∧ M = []) ∨
     (0 < z ∧ ∃ vs spare cap, L = [(0, .val (.slice q N c)), (1, .row 28 0 (n + 2 * z) cap), (5, .val (.int .i64 (z : Int)))] ∧ M = [(28, (27, vs.flatten.map .val ++ spare))] ∧
      RowE RrE w' (xs ++ fl (l.take z)) vs ∧ (vs.flatten.map AV.val ++ spare).length = cap * 4 ∧ n + 2 * z ≤ cap ∧ cap ≤ 9223372036854775807 ∧ spare.all okLeaf = true ∧ lidsOf spare = []))) N ⟨_, _, ?_, ?_, ?_, ?_, ⟨0, by omega, rfl, .inl ⟨rfl, rfl, rfl⟩⟩⟩ ?_
  ·(repeat first|exact trivial|refine ⟨rfl, ?_⟩)
  ·(repeat first|exact trivial|refine ⟨rfl, ?_⟩)
  ·rfl
  ·(repeat first|exact trivial|refine ⟨ClosedC.lit rfl, ?_⟩|refine ⟨ClosedC.vals _, ?_⟩)
  rintro m L M wJ ⟨z, hz, rfl, ⟨rfl, rfl, rfl⟩ | ⟨hz0, vs, spare, cap, rfl, rfl, hrow, hlen', hzc, hcc, hsok, hsl⟩⟩
  ·(repeat first|refine wN ?_|refine wP rfl ?_|refine cx_r rfl ?_|refine cx_d rfl ?_|refine wO rfl rfl ?_)
   by_cases hlt : (0 : Nat) < N
   ·obtain ⟨e, he⟩ : ∃ e, l[(0 : Nat)]? = some e := ⟨_, List.getElem?_eq_getElem (by omega)⟩
    obtain ⟨b, off, cs', rfl, hc, hE⟩ := hv.at he
    obtain ⟨ap, ac, ar, ad, bp, bc, br, bd, rfl, -⟩ := hE
    obtain ⟨vs, hrow, hnx, hcx0⟩ := hx.src rr_ok
    obtain ⟨xb, xo, hpx, hcx⟩ := hcx0.resolve_left (by omega)
    subst hpx
    obtain ⟨hok1, hln1⟩ := hrow.ok rr_ok
    refine VS.condY rfl (decide_eq_true (Int.ofNat_lt.2 hlt)) ?_
    (repeat first|refine wN ?_|refine wP rfl ?_|refine cx_r rfl ?_|refine cx_d rfl ?_|refine wO rfl rfl ?_)
    refine VO.cond rfl ⟨by omega, by omega⟩ ?_
    refine wV rfl ?_
    (repeat first|refine wN ?_|refine wP rfl ?_|refine cx_r rfl ?_|refine cx_d rfl ?_|refine wO rfl rfl ?_)
    refine VO.read rfl [.bool e.1.1, .slice ap e.1.2.1.length ac, .bool e.1.2.2.1, .slice ar e.1.2.2.2.length ad] rfl (cells_at hc 0 _ ⟨_, rfl⟩) (wV rfl ?_)
    (repeat first|refine wN ?_|refine wP rfl ?_|refine cx_r rfl ?_|refine cx_d rfl ?_|refine wO rfl rfl ?_)
    refine VO.cond rfl ⟨by omega, by omega⟩ ?_
    refine wV rfl ?_
    (repeat first|refine wN ?_|refine wP rfl ?_|refine cx_r rfl ?_|refine cx_d rfl ?_|refine wO rfl rfl ?_)
    refine VO.read rfl [.bool e.2.1, .slice bp e.2.2.1.length bc, .bool e.2.2.2.1, .slice br e.2.2.2.2.length bd] rfl (cells_at hc 4 _ ⟨[], rfl⟩) (wV rfl ?_)
    (repeat first|refine wN ?_|refine wP rfl ?_|refine cx_r rfl ?_|refine cx_d rfl ?_|refine wO rfl rfl ?_)
    refine VO.appG (cx_ok _ _) (t := 29) (e := 27) (sz := 4) (n := n) (c := n) (mm := 2) (known := vs.flatten.map .val) (spare := []) (del := none) (news := ([.bool e.1.1, .slice ap e.1.2.1.length ac, .bool e.1.2.2.1, .slice ar e.1.2.2.2.length ad, .bool e.2.1, .slice bp e.2.2.1.length bc, .bool e.2.2.2.1, .slice br e.2.2.2.2.length bd] : List Value).map .val) (dst := 28) rfl rfl rfl rfl rfl rfl rfl rfl (Nat.le_of_ble_eq_true rfl) rfl (.inr ⟨xb, xo, vs.flatten, rfl, rfl, rfl, rfl, rfl, by omega, fun w1 k1 b1 j u hj => Beh.cell b1 (hcx j u hj)⟩) (.inl rfl) (by rw [List.length_map, hln1, ← hnx]) (by rw [List.append_nil, List.length_map, hln1, ← hnx]) (by omega) (by omega) ⟨lidsOf_vals _, rfl, rfl⟩ ⟨vals_ok hok1, rfl, rfl⟩ rfl (by omega)
     (fun w1 β k1 b1 ho => ⟨_, _, rfl, .inr ⟨β 27, 0, rfl, own_src (rest := []) (ho.own 27 (.base (List.mem_append_right _ (List.mem_singleton.2 rfl))) _ _ rfl) rfl⟩⟩)
     (fun w13 cap' spare' ρ k13 b13 hρ hc1 hc2 hlen2 hok' hlid' => wV rfl ?_)
    (repeat first|refine wN ?_|refine wP rfl ?_|refine cx_r rfl ?_|refine cx_d rfl ?_|refine wO rfl rfl ?_)
    have hrow' : RowE RrE w13 (xs ++ fl (l.take ((0 : Nat) + 1))) (vs ++ [[.bool e.1.1, .slice ap e.1.2.1.length ac, .bool e.1.2.2.1, .slice ar e.1.2.2.2.length ad], [.bool e.2.1, .slice bp e.2.2.1.length bc, .bool e.2.2.2.1, .slice br e.2.2.2.2.length bd]]) := by
     rw [fl_snoc he]
     exact (hrow.kp rr_ok (Kp.of (U := UU) b13)).append (.cons ⟨_, _, _, _, rfl⟩ (.cons ⟨_, _, _, _, rfl⟩ .nil))
    refine VS.back (N - ((0 : Nat) + 1)) (by omega) ⟨_, _, ?_, ?_, ?_, ?_, ⟨(0 : Nat) + 1, by omega, rfl, .inr ⟨by omega, vs ++ [[.bool e.1.1, .slice ap e.1.2.1.length ac, .bool e.1.2.2.1, .slice ar e.1.2.2.2.length ad], [.bool e.2.1, .slice bp e.2.2.1.length bc, .bool e.2.2.2.1, .slice br e.2.2.2.2.length bd]], spare', cap', rfl, rfl, hrow', by simpa using hlen2, by omega, hc2, hok', hlid'⟩⟩⟩
    ·refine ⟨rfl, rfl, ?_, trivial⟩
     rfl
    ·exact ⟨congrArg (fun l => some (_, l ++ spare')) (by simp), trivial⟩
    ·rfl
    ·exact ⟨.append (.vals _) (.none hlid'), trivial⟩
   ·refine VS.condN rfl (decide_eq_false (fun e => hlt (Int.ofNat_lt.1 e))) ?_
    have hl0 : l = [] := List.length_eq_zero_iff.1 (by omega)
    have hfx : xs ++ fl l = xs := by rw [hl0]; exact List.append_nil _
    have hnx : n = xs.length := by obtain ⟨_, _, e, _⟩ := hx.form; cases e; rfl
    (repeat first|refine wN ?_|refine wP rfl ?_|refine cx_r rfl ?_|refine cx_d rfl ?_|refine wO rfl rfl ?_)
    refine VS.loop (J := fun m L M w' => ∃ z : Nat, z ≤ n ∧ m = n - z ∧ L = [(1, .val (.slice p n n)), (6, .val (.int .i64 (z : Int)))] ∧ M = [] ∧ (xs.take z).all rsm = true) n ⟨_, _, ?_, ?_, ?_, ?_, ⟨0, by omega, rfl, rfl, rfl, rfl⟩⟩ ?_
    ·exact ⟨rfl, rfl, trivial⟩
    ·(repeat first|exact trivial|refine ⟨rfl, ?_⟩)
    ·rfl
    ·(repeat first|exact trivial|refine ⟨ClosedC.lit rfl, ?_⟩|refine ⟨ClosedC.vals _, ?_⟩)
    rintro m L M w9 ⟨z, hz, rfl, rfl, rfl, hall⟩
    (repeat first|refine wN ?_|refine wP rfl ?_|refine cx_r rfl ?_|refine cx_d rfl ?_|refine wO rfl rfl ?_)
    by_cases hlt2 : z < n
    ·obtain ⟨e, he⟩ : ∃ e, xs[z]? = some e := ⟨_, List.getElem?_eq_getElem (by omega)⟩
     obtain ⟨b, off, cs', hpp, hc, ⟨ap, ac, ar, ad, rfl⟩⟩ := hx.at he
     subst hpp
     refine VS.condY rfl (decide_eq_true (Int.ofNat_lt.2 hlt2)) ?_
     (repeat first|refine wN ?_|refine wP rfl ?_|refine cx_r rfl ?_|refine cx_d rfl ?_|refine wO rfl rfl ?_)
     refine VO.cond rfl ⟨by omega, by omega⟩ ?_
     refine wV rfl ?_
     (repeat first|refine wN ?_|refine wP rfl ?_|refine cx_r rfl ?_|refine cx_d rfl ?_|refine wO rfl rfl ?_)
     refine VO.read rfl [.slice ap e.2.1.length ac] rfl (cells_at hc 1 _ ⟨_, rfl⟩) (wV rfl ?_)
     (repeat first|refine wN ?_|refine wP rfl ?_|refine cx_r rfl ?_|refine cx_d rfl ?_|refine wO rfl rfl ?_)
     by_cases h1 : e.2.1.length ≤ 4
     ·refine VO.fix 43 rfl (congrArg (fun b => AV.val (.bool b)) (decide_eq_false (show ¬ (e.2.1.length : Int) > 4 by omega))) ?_
      (repeat first|refine wN ?_|refine wP rfl ?_|refine cx_r rfl ?_|refine cx_d rfl ?_|refine wO rfl rfl ?_)
      refine VO.cond rfl ⟨by omega, by omega⟩ ?_
      refine wV rfl ?_
      (repeat first|refine wN ?_|refine wP rfl ?_|refine cx_r rfl ?_|refine cx_d rfl ?_|refine wO rfl rfl ?_)
      refine VO.read rfl [.slice ar e.2.2.2.length ad] rfl (cells_at hc 3 _ ⟨[], rfl⟩) (wV rfl ?_)
      (repeat first|refine wN ?_|refine wP rfl ?_|refine cx_r rfl ?_|refine cx_d rfl ?_|refine wO rfl rfl ?_)
      by_cases h2 : e.2.2.2.length ≤ 4
      ·have hs : rsm e = true := by unfold rsm; rw [decide_eq_true h1, decide_eq_true h2]; rfl
       refine VS.condN rfl (decide_eq_false (show ¬ (e.2.2.2.length : Int) > 4 by omega)) ?_
       (repeat first|refine wN ?_|refine wP rfl ?_|refine cx_r rfl ?_|refine cx_d rfl ?_|refine wO rfl rfl ?_)
       refine VS.back (n - (z + 1)) (by omega) ⟨_, _, ?_, ?_, ?_, ?_, ⟨z + 1, by omega, rfl, rfl, rfl, rsm_snoc he hall hs⟩⟩
       ·refine ⟨rfl, ?_, trivial⟩
        rw [← nat_step (i := z) (by omega)]; rfl
       ·(repeat first|exact trivial|refine ⟨rfl, ?_⟩)
       ·rfl
       ·(repeat first|exact trivial|refine ⟨ClosedC.lit rfl, ?_⟩|refine ⟨ClosedC.vals _, ?_⟩)
      ·have hs : rsm e = false := by unfold rsm; rw [decide_eq_false h2, Bool.and_false]
       refine VS.condY rfl (decide_eq_true (show (e.2.2.2.length : Int) > 4 by omega)) ?_
       (repeat first|refine wN ?_|refine wP rfl ?_|refine cx_r rfl ?_|refine cx_d rfl ?_|refine wO rfl rfl ?_)
       refine VS.ret (cx_ok _ _) rfl rfl (fun wz kz bz => ?_)
       exact ⟨by rw [fewB_not (by rw [hfx]; exact he) hs]; rfl, bz⟩
     ·have hs : rsm e = false := by unfold rsm; rw [decide_eq_false h1, Bool.false_and]
      refine VO.fix 43 rfl (congrArg (fun b => AV.val (.bool b)) (decide_eq_true (show (e.2.1.length : Int) > 4 by omega))) ?_
      (repeat first|refine wN ?_|refine wP rfl ?_|refine cx_r rfl ?_|refine cx_d rfl ?_|refine wO rfl rfl ?_)
      refine VS.ret (cx_ok _ _) rfl rfl (fun wz kz bz => ?_)
      exact ⟨by rw [fewB_not (by rw [hfx]; exact he) hs]; rfl, bz⟩
    ·refine VS.condN rfl (decide_eq_false (fun e => hlt2 (Int.ofNat_lt.1 e))) ?_
     have hzT : z = n := by omega
     (repeat first|refine wN ?_|refine wP rfl ?_|refine cx_r rfl ?_|refine cx_d rfl ?_|refine wO rfl rfl ?_)
     refine VS.ret (cx_ok _ _) rfl rfl (fun wz kz bz => ?_)
     rw [List.take_of_length_le (by omega)] at hall
     exact ⟨by unfold fewB; rw [hfx, hall, decide_eq_true (show l.length ≤ 20 by omega)]; rfl, bz⟩
  ·(repeat first|refine wN ?_|refine wP rfl ?_|refine cx_r rfl ?_|refine cx_d rfl ?_|refine wO rfl rfl ?_)
   by_cases hlt : z < N
   ·obtain ⟨e, he⟩ : ∃ e, l[z]? = some e := ⟨_, List.getElem?_eq_getElem (by omega)⟩
    obtain ⟨b, off, cs', rfl, hc, hE⟩ := hv.at he
    obtain ⟨ap, ac, ar, ad, bp, bc, br, bd, rfl, -⟩ := hE
    have hnx : n = xs.length := by obtain ⟨_, _, e, _⟩ := hx.form; cases e; rfl
    obtain ⟨hok1, hln1⟩ := hrow.ok rr_ok
    have htl : (xs ++ fl (l.take z)).length = n + 2 * z := by rw [List.length_append, fl_len, List.length_take]; omega
    refine VS.condY rfl (decide_eq_true (Int.ofNat_lt.2 hlt)) ?_
    (repeat first|refine wN ?_|refine wP rfl ?_|refine cx_r rfl ?_|refine cx_d rfl ?_|refine wO rfl rfl ?_)
    refine VO.cond rfl ⟨by omega, by omega⟩ ?_
    refine wV rfl ?_
    (repeat first|refine wN ?_|refine wP rfl ?_|refine cx_r rfl ?_|refine cx_d rfl ?_|refine wO rfl rfl ?_)
    refine VO.read rfl [.bool e.1.1, .slice ap e.1.2.1.length ac, .bool e.1.2.2.1, .slice ar e.1.2.2.2.length ad] rfl (cells_at hc 0 _ ⟨_, rfl⟩) (wV rfl ?_)
    (repeat first|refine wN ?_|refine wP rfl ?_|refine cx_r rfl ?_|refine cx_d rfl ?_|refine wO rfl rfl ?_)
    refine VO.cond rfl ⟨by omega, by omega⟩ ?_
    refine wV rfl ?_
    (repeat first|refine wN ?_|refine wP rfl ?_|refine cx_r rfl ?_|refine cx_d rfl ?_|refine wO rfl rfl ?_)
    refine VO.read rfl [.bool e.2.1, .slice bp e.2.2.1.length bc, .bool e.2.2.2.1, .slice br e.2.2.2.2.length bd] rfl (cells_at hc 4 _ ⟨[], rfl⟩) (wV rfl ?_)
    (repeat first|refine wN ?_|refine wP rfl ?_|refine cx_r rfl ?_|refine cx_d rfl ?_|refine wO rfl rfl ?_)
    refine VO.appG (cx_ok _ _) (t := 29) (e := 27) (sz := 4) (n := n + 2 * z) (c := cap) (mm := 2) (known := vs.flatten.map .val) (spare := spare) (del := some 28) (news := ([.bool e.1.1, .slice ap e.1.2.1.length ac, .bool e.1.2.2.1, .slice ar e.1.2.2.2.length ad, .bool e.2.1, .slice bp e.2.2.1.length bc, .bool e.2.2.2.1, .slice br e.2.2.2.2.length bd] : List Value).map .val) (dst := 28) rfl rfl rfl rfl rfl rfl rfl rfl (Nat.le_of_ble_eq_true rfl) rfl (.inl (.inr ⟨28, rfl, rfl, rfl⟩)) (.inr rfl) (by rw [List.length_map, hln1, htl]) hlen' hzc hcc ⟨lidsOf_vals _, hsl, rfl⟩ ⟨vals_ok hok1, hsok, rfl⟩ rfl (by omega)
     (fun w1 β k1 b1 ho => ⟨_, _, rfl, .inr ⟨β 27, 0, rfl, own_src (rest := []) (ho.own 27 (.base (List.mem_append_right _ (List.mem_singleton.2 rfl))) _ _ rfl) rfl⟩⟩)
     (fun w13 cap' spare' ρ k13 b13 hρ hc1 hc2 hlen2 hok' hlid' => wV rfl ?_)
    (repeat first|refine wN ?_|refine wP rfl ?_|refine cx_r rfl ?_|refine cx_d rfl ?_|refine wO rfl rfl ?_)
    have hrow' : RowE RrE w13 (xs ++ fl (l.take (z + 1))) (vs ++ [[.bool e.1.1, .slice ap e.1.2.1.length ac, .bool e.1.2.2.1, .slice ar e.1.2.2.2.length ad], [.bool e.2.1, .slice bp e.2.2.1.length bc, .bool e.2.2.2.1, .slice br e.2.2.2.2.length bd]]) := by
     rw [fl_snoc he, ← List.append_assoc]
     exact (hrow.kp rr_ok (by (with_reducible (repeat (first | assumption | exact kU _ | exact kR _ | exact Kp.of (U := UU) (by assumption) | exact KpS.of (by assumption) | refine kT ?_ (by assumption)))))).append (.cons ⟨_, _, _, _, rfl⟩ (.cons ⟨_, _, _, _, rfl⟩ .nil))
    refine VS.back (N - (z + 1)) (by omega) ⟨_, _, ?_, ?_, ?_, ?_, ⟨z + 1, by omega, rfl, .inr ⟨by omega, vs ++ [[.bool e.1.1, .slice ap e.1.2.1.length ac, .bool e.1.2.2.1, .slice ar e.1.2.2.2.length ad], [.bool e.2.1, .slice bp e.2.2.1.length bc, .bool e.2.2.2.1, .slice br e.2.2.2.2.length bd]], spare', cap', rfl, rfl, hrow', by simpa using hlen2, by omega, hc2, hok', hlid'⟩⟩⟩
    ·refine ⟨rfl, rfl, ?_, trivial⟩
     rw [← nat_step (i := z) (by omega)]; rfl
    ·exact ⟨congrArg (fun l => some (_, l ++ spare')) (by simp), trivial⟩
    ·rfl
    ·exact ⟨.append (.vals _) (.none hlid'), trivial⟩
   ·refine VS.condN rfl (decide_eq_false (fun e => hlt (Int.ofNat_lt.1 e))) ?_
    have hzN : z = N := by omega
    have hnx : n = xs.length := by obtain ⟨_, _, e, _⟩ := hx.form; cases e; rfl
    rw [List.take_of_length_le (by omega)] at hrow
    obtain ⟨X, hX⟩ : ∃ X, xs ++ fl l = X := ⟨_, rfl⟩
    obtain ⟨T, hT⟩ : ∃ T, T = n + 2 * z := ⟨_, rfl⟩
    have hTX : T = X.length := by rw [← hX, List.length_append, fl_len]; omega
    rw [hX] at hrow
    rw [← hT]
    (repeat first|refine wN ?_|refine wP rfl ?_|refine cx_r rfl ?_|refine cx_d rfl ?_|refine wO rfl rfl ?_)
    refine VS.loop (J := fun m L M w' => ∃ z : Nat, z ≤ T ∧ m = T - z ∧ L = [(1, .row 28 0 T cap), (6, .val (.int .i64 (z : Int)))] ∧ M = [(28, (27, vs.flatten.map .val ++ spare))] ∧ (X.take z).all rsm = true) T ⟨_, _, ?_, ?_, ?_, ?_, ⟨0, by omega, rfl, rfl, rfl, rfl⟩⟩ ?_
    ·exact ⟨rfl, rfl, trivial⟩
    ·exact ⟨rfl, trivial⟩
    ·rfl
    ·exact ⟨.append (.vals _) (.none hsl), trivial⟩
    rintro m L M w9 ⟨z, hz, rfl, rfl, rfl, hall⟩
    (repeat first|refine wN ?_|refine wP rfl ?_|refine cx_r rfl ?_|refine cx_d rfl ?_|refine wO rfl rfl ?_)
    by_cases hlt2 : z < T
    ·obtain ⟨e, he⟩ : ∃ e, X[z]? = some e := ⟨_, List.getElem?_eq_getElem (by omega)⟩
     obtain ⟨cs', hcs, ⟨ap, ac, ar, ad, rfl⟩⟩ := hrow.at z e he
     refine VS.condY rfl (decide_eq_true (Int.ofNat_lt.2 hlt2)) ?_
     (repeat first|refine wN ?_|refine wP rfl ?_|refine cx_r rfl ?_|refine cx_d rfl ?_|refine wO rfl rfl ?_)
     refine VO.cond rfl ⟨by omega, by omega⟩ ?_
     refine wV rfl ?_
     (repeat first|refine wN ?_|refine wP rfl ?_|refine cx_r rfl ?_|refine cx_d rfl ?_|refine wO rfl rfl ?_)
     refine VO.peek rfl [.val (.slice ap e.2.1.length ac)] rfl (row_peekAt rr_ok hrow spare hcs 1 [_] ⟨_, rfl⟩) (wV rfl ?_)
     (repeat first|refine wN ?_|refine wP rfl ?_|refine cx_r rfl ?_|refine cx_d rfl ?_|refine wO rfl rfl ?_)
     by_cases h1 : e.2.1.length ≤ 4
     ·refine VO.fix 43 rfl (congrArg (fun b => AV.val (.bool b)) (decide_eq_false (show ¬ (e.2.1.length : Int) > 4 by omega))) ?_
      (repeat first|refine wN ?_|refine wP rfl ?_|refine cx_r rfl ?_|refine cx_d rfl ?_|refine wO rfl rfl ?_)
      refine VO.cond rfl ⟨by omega, by omega⟩ ?_
      refine wV rfl ?_
      (repeat first|refine wN ?_|refine wP rfl ?_|refine cx_r rfl ?_|refine cx_d rfl ?_|refine wO rfl rfl ?_)
      refine VO.peek rfl [.val (.slice ar e.2.2.2.length ad)] rfl (row_peekAt rr_ok hrow spare hcs 3 [_] ⟨[], rfl⟩) (wV rfl ?_)
      (repeat first|refine wN ?_|refine wP rfl ?_|refine cx_r rfl ?_|refine cx_d rfl ?_|refine wO rfl rfl ?_)
      by_cases h2 : e.2.2.2.length ≤ 4
      ·have hs : rsm e = true := by unfold rsm; rw [decide_eq_true h1, decide_eq_true h2]; rfl
       refine VS.condN rfl (decide_eq_false (show ¬ (e.2.2.2.length : Int) > 4 by omega)) ?_
       (repeat first|refine wN ?_|refine wP rfl ?_|refine cx_r rfl ?_|refine cx_d rfl ?_|refine wO rfl rfl ?_)
       refine VS.back (T - (z + 1)) (by omega) ⟨_, _, ?_, ?_, ?_, ?_, ⟨z + 1, by omega, rfl, rfl, rfl, rsm_snoc he hall hs⟩⟩
       ·refine ⟨rfl, ?_, trivial⟩
        rw [← nat_step (i := z) (by omega)]; rfl
       ·exact ⟨rfl, trivial⟩
       ·rfl
       ·exact ⟨.append (.vals _) (.none hsl), trivial⟩
      ·have hs : rsm e = false := by unfold rsm; rw [decide_eq_false h2, Bool.and_false]
       refine VS.condY rfl (decide_eq_true (show (e.2.2.2.length : Int) > 4 by omega)) ?_
       (repeat first|refine wN ?_|refine wP rfl ?_|refine cx_r rfl ?_|refine cx_d rfl ?_|refine wO rfl rfl ?_)
       refine VS.ret (cx_ok _ _) rfl rfl (fun wz kz bz => ?_)
       exact ⟨by rw [fewB_not (by rw [hX]; exact he) hs]; rfl, bz⟩
     ·have hs : rsm e = false := by unfold rsm; rw [decide_eq_false h1, Bool.false_and]
      refine VO.fix 43 rfl (congrArg (fun b => AV.val (.bool b)) (decide_eq_true (show (e.2.1.length : Int) > 4 by omega))) ?_
      (repeat first|refine wN ?_|refine wP rfl ?_|refine cx_r rfl ?_|refine cx_d rfl ?_|refine wO rfl rfl ?_)
      refine VS.ret (cx_ok _ _) rfl rfl (fun wz kz bz => ?_)
      exact ⟨by rw [fewB_not (by rw [hX]; exact he) hs]; rfl, bz⟩
    ·refine VS.condN rfl (decide_eq_false (fun e => hlt2 (Int.ofNat_lt.1 e))) ?_
     have hzT : z = T := by omega
     (repeat first|refine wN ?_|refine wP rfl ?_|refine cx_r rfl ?_|refine cx_d rfl ?_|refine wO rfl rfl ?_)
     refine VS.ret (cx_ok _ _) rfl rfl (fun wz kz bz => ?_)
     rw [List.take_of_length_le (by omega)] at hall
     exact ⟨by unfold fewB; rw [hX, hall, decide_eq_true (show l.length ≤ 20 by omega)]; rfl, bz⟩
 ·refine VS.condY rfl (decide_eq_true (show (N : Int) > 20 by omega)) ?_
  (repeat first|refine wN ?_|refine wP rfl ?_|refine cx_r rfl ?_|refine cx_d rfl ?_|refine wO rfl rfl ?_)
  refine VS.ret (cx_ok _ _) rfl rfl (fun wz kz bz => ?_)
  exact ⟨by unfold fewB; rw [decide_eq_false (show ¬ l.length ≤ 20 by omega), Bool.false_and]; rfl, bz⟩
end Go.Proofs.YtofdiijioejljaaGreat
/- The statements of layer 28: ref, whole, the chapter's brackets, works. -/
namespace Go.Proofs.YtofdiijioejljaaGreat
open Go.RowKit
attribute [local irreducible] vcOps VS

theorem fewB_sl {kk : Nat} {w : World} {v : Value} {l : List RBr} {xs : List RR} (h : fewB l xs = true) (hv : SlIn (BrE kk) 8 w v l) : SlIn (BrE 4) 8 w v l := by
 unfold fewB at h
 rw [Bool.and_eq_true, List.all_append, Bool.and_eq_true] at h
 refine hv.mono fun i a cs ha he => ?_
 have hm := List.mem_of_getElem? ha
 have h1 := List.all_eq_true.1 h.2.2 a.1 (List.mem_flatMap.2 ⟨a, hm, by simp⟩)
 have h2 := List.all_eq_true.1 h.2.2 a.2 (List.mem_flatMap.2 ⟨a, hm, by simp⟩)
 unfold rsm at h1 h2
 rw [Bool.and_eq_true, decide_eq_true_iff, decide_eq_true_iff] at h1 h2
 obtain ⟨p, c, r, d, p', c', r', d', e, f1, f2, -⟩ := he
 exact ⟨p, c, r, d, p', c', r', d', e, f1, f2, h1.1, h1.2, h2.1, h2.2⟩
theorem fewB_len {l : List RBr} {xs : List RR} (h : fewB l xs = true) : l.length ≤ 20 := by
 unfold fewB at h
 rw [Bool.and_eq_true, decide_eq_true_iff] at h
 exact h.1
theorem fewB_inc {l : List RBr} {xs : List RR} (h : fewB l xs = true) {x : RR} (hx : x ∈ xs) : x.2.1.length ≤ 4 ∧ x.2.2.2.length ≤ 4 := by
 unfold fewB at h
 rw [Bool.and_eq_true, List.all_append, Bool.and_eq_true] at h
 have := List.all_eq_true.1 h.2.1 x hx
 unfold rsm at this
 rwa [Bool.and_eq_true, decide_eq_true_iff, decide_eq_true_iff] at this
theorem few28_ok (v : Value) (p : Option Addr) (n : Nat) (l : List RBr) (xs : List RR) (kk : Nat) (w : World) (hv : SlIn (BrE kk) 8 w v l) (hx : SlIn RrE 4 w (.slice p n n) xs) (hn0 : 0 < n) (hn : n ≤ 1000) (b : Bool) (hb : fewB l xs = b) :
  Calls Tryz.prog 7 #[v, .slice p n n] w fun o w' => o = .returned (.bool b) ∧ Beh w w' := hb ▸ few28_any v p n l xs kk w hv hx hn0 hn
set_option maxRecDepth 4000 in
set_option maxHeartbeats 4000000 in
theorem ref28_any (v : Value) (l : List RBr) (kk : Nat) (w : World) (hv : SlIn (BrE kk) 8 w v l) (hk : kk ≤ 1000000) (hn : l.length ≤ 1000000) :
  Calls Tryz.prog 9 #[v] w fun o w' => ∃ r, o = .returned r ∧ RowNew (BrE kk) 8 73 w.heap.size w' r l ∧ Beh w w' := by
 obtain ⟨p, c, rfl, hnc, hcm⟩ := hv.form
 obtain ⟨N, hN⟩ : ∃ N, N = l.length := ⟨_, rfl⟩
 rw [← hN] at hv hnc hn
 rw [← hN]
 refine calm_enter (C := cxOf Tryz.prog w _) (args := [_]) Tryz.func9 rfl Tryz.ntmps9 (Nat.le_of_ble_eq_true rfl) ?_
 (repeat first|refine wN ?_|refine wP rfl ?_|refine cx_r rfl ?_|refine cx_d rfl ?_|refine wO rfl rfl ?_)
 refine VS.loop (J := fun m L M w' => ∃ z : Nat, z ≤ N ∧ m = N - z ∧
   ((z = 0 ∧ L = [(0, .val (.slice p N c)), (3, .val (.slice none 0 0)), (4, .val (.int .i64 (z : Int)))] ∧ M = []) ∨
    (0 < z ∧ ∃ vs spare cap, L = [(0, .val (.slice p N c)), (3, .row 26 0 z cap), (4, .val (.int .i64 (z : Int)))] ∧ M = [(26, (73, vs.flatten.map .val ++ spare))] ∧
     RowE (BrE kk) w' (l.take z) vs ∧ (vs.flatten.map AV.val ++ spare).length = cap * 8 ∧ z ≤ cap ∧ cap ≤ 9223372036854775807 ∧ spare.all okLeaf = true ∧ lidsOf spare = []))) N ⟨_, _, ?_, ?_, ?_, ?_, ⟨0, by omega, rfl, .inl ⟨rfl, rfl, rfl⟩⟩⟩ ?_
 ·(repeat first|exact trivial|refine ⟨rfl, ?_⟩)
 ·(repeat first|exact trivial|refine ⟨rfl, ?_⟩)
 ·rfl
 ·(repeat first|exact trivial|refine ⟨ClosedC.lit rfl, ?_⟩|refine ⟨ClosedC.vals _, ?_⟩)
 rintro m L M wJ ⟨z, hz, rfl, ⟨rfl, rfl, rfl⟩ | ⟨hz0, vs, spare, cap, rfl, rfl, hrow, hlen', hzc, hcc, hsok, hsl⟩⟩
 ·(repeat first|refine wN ?_|refine wP rfl ?_|refine cx_r rfl ?_|refine cx_d rfl ?_|refine wO rfl rfl ?_)
  by_cases hlt : (0 : Nat) < N
  ·obtain ⟨e, he⟩ : ∃ e, l[(0 : Nat)]? = some e := ⟨_, List.getElem?_eq_getElem (by omega)⟩
   obtain ⟨b, off, cs', rfl, hc, hE⟩ := hv.at he
   obtain ⟨ap, ac, ar, ad, bp, bc, br, bd, rfl, hf, hr, g1, g2, g3, g4⟩ := hE
   replace g1 : e.1.2.1.length ≤ kk := g1
   replace g2 : e.1.2.2.2.length ≤ kk := g2
   replace g3 : e.2.2.1.length ≤ kk := g3
   replace g4 : e.2.2.2.2.length ≤ kk := g4
   refine VS.condY rfl (decide_eq_true (Int.ofNat_lt.2 hlt)) ?_
   (repeat first|refine wN ?_|refine wP rfl ?_|refine cx_r rfl ?_|refine cx_d rfl ?_|refine wO rfl rfl ?_)
   refine VO.cond rfl ⟨by omega, by omega⟩ ?_
   refine wV rfl ?_
   (repeat first|refine wN ?_|refine wP rfl ?_|refine cx_r rfl ?_|refine cx_d rfl ?_|refine wO rfl rfl ?_)
   refine VO.read rfl [.bool e.1.1, .slice ap e.1.2.1.length ac, .bool e.1.2.2.1, .slice ar e.1.2.2.2.length ad] rfl (cells_at hc 0 _ ⟨_, rfl⟩) (wV rfl ?_)
   (repeat first|refine wN ?_|refine wP rfl ?_|refine cx_r rfl ?_|refine cx_d rfl ?_|refine wO rfl rfl ?_)
   refine VO.call rfl rfl (fk Tryz.func10) (fun wa1 ka1 ba1 => (filRef_any e.1.1 e.1.2.2.1 e.1.2.1 e.1.2.2.2 _ wa1 (hf.kp (Kp.of (U := UU) ba1)) (by omega) (by omega)).mono ?_)
   rintro e w1 ⟨r1, rfl, q1, hb1⟩
   obtain ⟨p1, c1, y1, d1, rfl, -⟩ := q1.raw.form'
   refine ⟨_, rfl, hb1, fun kb1 _ bb1 => wV rfl ?_⟩
   (repeat first|refine wN ?_|refine wP rfl ?_|refine cx_r rfl ?_|refine cx_d rfl ?_|refine wO rfl rfl ?_)
   refine VO.cond rfl ⟨by omega, by omega⟩ ?_
   refine wV rfl ?_
   (repeat first|refine wN ?_|refine wP rfl ?_|refine cx_r rfl ?_|refine cx_d rfl ?_|refine wO rfl rfl ?_)
   refine VO.read rfl [.bool e.2.1, .slice bp e.2.2.1.length bc, .bool e.2.2.2.1, .slice br e.2.2.2.2.length bd] rfl (cells_at hc 4 _ ⟨[], rfl⟩) (wV rfl ?_)
   (repeat first|refine wN ?_|refine wP rfl ?_|refine cx_r rfl ?_|refine cx_d rfl ?_|refine wO rfl rfl ?_)
   refine VO.call rfl rfl (fk Tryz.func10) (fun wa2 ka2 ba2 => (filRef_any e.2.1 e.2.2.2.1 e.2.2.1 e.2.2.2.2 _ wa2 (hr.kp (Kp.of (U := UU) ba2)) (by omega) (by omega)).mono ?_)
   rintro e w2 ⟨r2, rfl, q2, hb2⟩
   obtain ⟨p2, c2, y2, d2, rfl, -⟩ := q2.raw.form'
   refine ⟨_, rfl, hb2, fun kb2 _ bb2 => wV rfl ?_⟩
   (repeat first|refine wN ?_|refine wP rfl ?_|refine cx_r rfl ?_|refine cx_d rfl ?_|refine wO rfl rfl ?_)
   refine VO.app (cx_ok _ _) (t := 31) (e := 73) (sz := 8) (n := 0) (c := 0) (mm := 1) (known := []) (spare := []) (del := none) (news := ([.bool e.1.1, .slice p1 e.1.2.1.length c1, .bool e.1.2.2.1, .slice y1 e.1.2.2.2.length d1, .bool e.2.1, .slice p2 e.2.2.1.length c2, .bool e.2.2.2.1, .slice y2 e.2.2.2.2.length d2] : List Value).map .val) (dst := 26) rfl rfl rfl rfl rfl rfl rfl rfl (Nat.le_of_ble_eq_true rfl) rfl (.inl ⟨rfl, rfl, rfl, rfl, rfl, rfl, by omega⟩) (.inl rfl) rfl rfl (by omega) (by omega) ⟨rfl, rfl, rfl⟩ ⟨rfl, rfl, rfl⟩ rfl (by omega)
    (fun w1 β k1 b1 ho => ⟨_, _, rfl, .inr ⟨β 25, 0, rfl, own_src (rest := []) (ho.own 25 (.base (List.mem_append_right _ (List.mem_singleton.2 rfl))) _ _ rfl) rfl⟩⟩)
    (fun w13 cap' spare' ρ k13 b13 hρ hc1 hc2 hlen2 hok' hlid' => wV rfl ?_)
   (repeat first|refine wN ?_|refine wP rfl ?_|refine cx_r rfl ?_|refine cx_d rfl ?_|refine wO rfl rfl ?_)
   have hI : BrE kk w13 [.bool e.1.1, .slice p1 e.1.2.1.length c1, .bool e.1.2.2.1, .slice y1 e.1.2.2.2.length d1, .bool e.2.1, .slice p2 e.2.2.1.length c2, .bool e.2.2.2.1, .slice y2 e.2.2.2.2.length d2] e := ⟨_, _, _, _, _, _, _, _, rfl, q1.raw.k, q2.raw.k, g1, g2, g3, g4⟩
   have hrow' : RowE (BrE kk) w13 (l.take ((0 : Nat) + 1)) [[.bool e.1.1, .slice p1 e.1.2.1.length c1, .bool e.1.2.2.1, .slice y1 e.1.2.2.2.length d1, .bool e.2.1, .slice p2 e.2.2.1.length c2, .bool e.2.2.2.1, .slice y2 e.2.2.2.2.length d2]] := by
    rw [take_snoc_at he]
    exact .cons hI .nil
   refine VS.back (N - ((0 : Nat) + 1)) (by omega) ⟨_, _, ?_, ?_, ?_, ?_, ⟨(0 : Nat) + 1, by omega, rfl, .inr ⟨by omega, [[.bool e.1.1, .slice p1 e.1.2.1.length c1, .bool e.1.2.2.1, .slice y1 e.1.2.2.2.length d1, .bool e.2.1, .slice p2 e.2.2.1.length c2, .bool e.2.2.2.1, .slice y2 e.2.2.2.2.length d2]], spare', cap', rfl, rfl, hrow', by simpa using hlen2, by omega, hc2, hok', hlid'⟩⟩⟩
   ·refine ⟨rfl, rfl, ?_, trivial⟩
    rfl
   ·exact ⟨rfl, trivial⟩
   ·rfl
   ·exact ⟨.append (.vals _) (.none hlid'), trivial⟩
  ·refine VS.condN rfl (decide_eq_false (fun e => hlt (Int.ofNat_lt.1 e))) ?_
   obtain rfl : N = 0 := by omega
   (repeat first|refine wN ?_|refine wP rfl ?_|refine cx_r rfl ?_|refine cx_d rfl ?_|refine wO rfl rfl ?_)
   refine VS.ret (cx_ok _ _) rfl rfl (fun wz kz bz => ?_)
   exact ⟨_, rfl, .inl ⟨rfl, List.length_eq_zero_iff.1 hN.symm⟩, bz⟩
 ·(repeat first|refine wN ?_|refine wP rfl ?_|refine cx_r rfl ?_|refine cx_d rfl ?_|refine wO rfl rfl ?_)
  by_cases hlt : z < N
  ·obtain ⟨e, he⟩ : ∃ e, l[z]? = some e := ⟨_, List.getElem?_eq_getElem (by omega)⟩
   obtain ⟨b, off, cs', rfl, hc, hE⟩ := hv.at he
   obtain ⟨ap, ac, ar, ad, bp, bc, br, bd, rfl, hf, hr, g1, g2, g3, g4⟩ := hE
   replace g1 : e.1.2.1.length ≤ kk := g1
   replace g2 : e.1.2.2.2.length ≤ kk := g2
   replace g3 : e.2.2.1.length ≤ kk := g3
   replace g4 : e.2.2.2.2.length ≤ kk := g4
   refine VS.condY rfl (decide_eq_true (Int.ofNat_lt.2 hlt)) ?_
   (repeat first|refine wN ?_|refine wP rfl ?_|refine cx_r rfl ?_|refine cx_d rfl ?_|refine wO rfl rfl ?_)
   refine VO.cond rfl ⟨by omega, by omega⟩ ?_
   refine wV rfl ?_
   (repeat first|refine wN ?_|refine wP rfl ?_|refine cx_r rfl ?_|refine cx_d rfl ?_|refine wO rfl rfl ?_)
   refine VO.read rfl [.bool e.1.1, .slice ap e.1.2.1.length ac, .bool e.1.2.2.1, .slice ar e.1.2.2.2.length ad] rfl (cells_at hc 0 _ ⟨_, rfl⟩) (wV rfl ?_)
   (repeat first|refine wN ?_|refine wP rfl ?_|refine cx_r rfl ?_|refine cx_d rfl ?_|refine wO rfl rfl ?_)
   refine VO.call rfl rfl (fk Tryz.func10) (fun wa1 ka1 ba1 => (filRef_any e.1.1 e.1.2.2.1 e.1.2.1 e.1.2.2.2 _ wa1 (hf.kp (Kp.of (U := UU) ba1)) (by omega) (by omega)).mono ?_)
   rintro e w1 ⟨r1, rfl, q1, hb1⟩
   obtain ⟨p1, c1, y1, d1, rfl, -⟩ := q1.raw.form'
   refine ⟨_, rfl, hb1, fun kb1 _ bb1 => wV rfl ?_⟩
   (repeat first|refine wN ?_|refine wP rfl ?_|refine cx_r rfl ?_|refine cx_d rfl ?_|refine wO rfl rfl ?_)
   refine VO.cond rfl ⟨by omega, by omega⟩ ?_
   refine wV rfl ?_
   (repeat first|refine wN ?_|refine wP rfl ?_|refine cx_r rfl ?_|refine cx_d rfl ?_|refine wO rfl rfl ?_)
   refine VO.read rfl [.bool e.2.1, .slice bp e.2.2.1.length bc, .bool e.2.2.2.1, .slice br e.2.2.2.2.length bd] rfl (cells_at hc 4 _ ⟨[], rfl⟩) (wV rfl ?_)
   (repeat first|refine wN ?_|refine wP rfl ?_|refine cx_r rfl ?_|refine cx_d rfl ?_|refine wO rfl rfl ?_)
   refine VO.call rfl rfl (fk Tryz.func10) (fun wa2 ka2 ba2 => (filRef_any e.2.1 e.2.2.2.1 e.2.2.1 e.2.2.2.2 _ wa2 (hr.kp (Kp.of (U := UU) ba2)) (by omega) (by omega)).mono ?_)
   rintro e w2 ⟨r2, rfl, q2, hb2⟩
   obtain ⟨p2, c2, y2, d2, rfl, -⟩ := q2.raw.form'
   refine ⟨_, rfl, hb2, fun kb2 _ bb2 => wV rfl ?_⟩
   (repeat first|refine wN ?_|refine wP rfl ?_|refine cx_r rfl ?_|refine cx_d rfl ?_|refine wO rfl rfl ?_)
   obtain ⟨hok1, hln1⟩ := hrow.ok (br_ok kk)
   have htl : (l.take z).length = z := by rw [List.length_take]; omega
   refine VO.app (cx_ok _ _) (t := 31) (e := 73) (sz := 8) (n := z) (c := cap) (mm := 1) (known := vs.flatten.map .val) (spare := spare) (del := some 26) (news := ([.bool e.1.1, .slice p1 e.1.2.1.length c1, .bool e.1.2.2.1, .slice y1 e.1.2.2.2.length d1, .bool e.2.1, .slice p2 e.2.2.1.length c2, .bool e.2.2.2.1, .slice y2 e.2.2.2.2.length d2] : List Value).map .val) (dst := 26) rfl rfl rfl rfl rfl rfl rfl rfl (Nat.le_of_ble_eq_true rfl) rfl (.inr ⟨26, rfl, rfl, rfl⟩) (.inr rfl) (by rw [List.length_map, hln1, htl]) hlen' hzc hcc ⟨lidsOf_vals _, hsl, rfl⟩ ⟨vals_ok hok1, hsok, rfl⟩ rfl (by omega)
    (fun w1 β k1 b1 ho => ⟨_, _, rfl, .inr ⟨β 25, 0, rfl, own_src (rest := []) (ho.own 25 (.base (List.mem_append_right _ (List.mem_singleton.2 rfl))) _ _ rfl) rfl⟩⟩)
    (fun w13 cap' spare' ρ k13 b13 hρ hc1 hc2 hlen2 hok' hlid' => wV rfl ?_)
   (repeat first|refine wN ?_|refine wP rfl ?_|refine cx_r rfl ?_|refine cx_d rfl ?_|refine wO rfl rfl ?_)
   have hI : BrE kk w13 [.bool e.1.1, .slice p1 e.1.2.1.length c1, .bool e.1.2.2.1, .slice y1 e.1.2.2.2.length d1, .bool e.2.1, .slice p2 e.2.2.1.length c2, .bool e.2.2.2.1, .slice y2 e.2.2.2.2.length d2] e := ⟨_, _, _, _, _, _, _, _, rfl, q1.raw.k, q2.raw.k, g1, g2, g3, g4⟩
   have hrow' : RowE (BrE kk) w13 (l.take (z + 1)) (vs ++ [[.bool e.1.1, .slice p1 e.1.2.1.length c1, .bool e.1.2.2.1, .slice y1 e.1.2.2.2.length d1, .bool e.2.1, .slice p2 e.2.2.1.length c2, .bool e.2.2.2.1, .slice y2 e.2.2.2.2.length d2]]) := by
    rw [take_snoc_at he]
    exact (hrow.kp (br_ok kk) (by (with_reducible (repeat (first | assumption | exact kU _ | exact kR _ | exact Kp.of (U := UU) (by assumption) | exact KpS.of (by assumption) | refine kT ?_ (by assumption)))))).snoc hI
   refine VS.back (N - (z + 1)) (by omega) ⟨_, _, ?_, ?_, ?_, ?_, ⟨z + 1, by omega, rfl, .inr ⟨by omega, vs ++ [[.bool e.1.1, .slice p1 e.1.2.1.length c1, .bool e.1.2.2.1, .slice y1 e.1.2.2.2.length d1, .bool e.2.1, .slice p2 e.2.2.1.length c2, .bool e.2.2.2.1, .slice y2 e.2.2.2.2.length d2]], spare', cap', rfl, rfl, hrow', by simpa using hlen2, by omega, hc2, hok', hlid'⟩⟩⟩
   ·refine ⟨rfl, rfl, ?_, trivial⟩
    rw [← nat_step (i := z) (by omega)]; rfl
   ·exact ⟨congrArg (fun l => some (_, l ++ spare')) (by simp), trivial⟩
   ·rfl
   ·exact ⟨.append (.vals _) (.none hlid'), trivial⟩
  ·refine VS.condN rfl (decide_eq_false (fun e => hlt (Int.ofNat_lt.1 e))) ?_
   obtain rfl : z = N := by omega
   (repeat first|refine wN ?_|refine wP rfl ?_|refine cx_r rfl ?_|refine cx_d rfl ?_|refine wO rfl rfl ?_)
   refine VS.retA (cx_ok _ _) rfl (fun wz β kz bz en => ?_)
   rw [List.take_of_length_le (by omega)] at hrow
   exact ⟨_, rfl, rowNew_own (en.own 26 _ _ rfl) (hrow.kp (br_ok kk) kz) hN hzc hcc hlen', bz⟩
theorem NumAt.nul (w : World) : NumAt w (.agg #[.bool false, .slice none 0 0]) false [] := ⟨none, 0, rfl, ⟨none, 0, rfl, Nat.le_refl _, by decide, rfl, fun h => absurd h (by decide)⟩, fun x hx => (by cases hx)⟩
theorem whole28_any (v u : Value) (X : Int) (w : World) (hv : IntRd w v X) (hu : IntRd w u X) (k : Nat) (hs : Sz X k) (hk : k ≤ 1000000) :
  Calls Tryz.prog 24 #[v, u] w fun o w' => o = .returned (.bool true) ∧ Beh w w' := by
 have hv0 := hv
 have hu0 := hu
 obtain ⟨p, c, rfl, -⟩ := hv.form
 obtain ⟨p', c', rfl, -⟩ := hu.form
 have hl : (limbs X.natAbs).length ≤ 1000000 := Nat.le_trans hs hk
 have hR : RatRaw w (.agg #[.bool (decide (X < 0)), .slice p (limbs X.natAbs).length c, .bool false, .slice none 0 0]) (decide (X < 0)) (limbs X.natAbs) false [] := ⟨_, _, _, _, rfl, hv0, NumAt.nul w⟩
 have hR' : RatRaw w (.agg #[.bool (decide (X < 0)), .slice p' (limbs X.natAbs).length c', .bool false, .slice none 0 0]) (decide (X < 0)) (limbs X.natAbs) false [] := ⟨_, _, _, _, rfl, hu0, NumAt.nul w⟩
 refine calm_enter (C := cxOf Tryz.prog w _) (args := [_, _]) Tryz.func24 rfl Tryz.ntmps24 (Nat.le_of_ble_eq_true rfl) ?_
 (repeat first|refine wN ?_|refine wP rfl ?_|refine cx_r rfl ?_|refine cx_d rfl ?_|refine wO rfl rfl ?_)
 refine VO.call rfl rfl (fk Tryz.func10) (fun wa1 ka1 ba1 => (filRef_any (decide (X < 0)) false (limbs X.natAbs) [] _ wa1 (hR'.kp (Kp.of (U := UU) ba1)) (by omega) (by decide)).mono ?_)
 rintro e w1 ⟨r1, rfl, q1, hb1⟩
 obtain ⟨p1, c1, y1, d1, rfl, -⟩ := q1.raw.form'
 refine ⟨_, rfl, hb1, fun kb1 _ bb1 => wV rfl ?_⟩
 (repeat first|refine wN ?_|refine wP rfl ?_|refine cx_r rfl ?_|refine cx_d rfl ?_|refine wO rfl rfl ?_)
 refine VO.call rfl rfl (fk Tryz.func23) (fun wa2 ka2 ba2 => (filIs_raw (decide (X < 0)) false (limbs X.natAbs) [] _ _ wa2 (hR.kp (Kp.of (U := UU) ba2)) (q1.raw.kp (T := fun _ => false) ka2)).mono ?_)
 rintro e w2 ⟨rfl, hb2⟩
 skip
 refine ⟨_, rfl, hb2, fun kb2 _ bb2 => wV rfl ?_⟩
 (repeat first|refine wN ?_|refine wP rfl ?_|refine cx_r rfl ?_|refine cx_d rfl ?_|refine wO rfl rfl ?_)
 refine VS.ret (cx_ok _ _) rfl rfl (fun wz kz bz => ?_)
 exact ⟨rfl, bz⟩
end Go.Proofs.YtofdiijioejljaaGreat
