/- What the reference's number layer computes: Gcd. -/
import Derived.Test.YtofdiijioejljaaGreatRef03H
set_option linter.all false
set_option maxRecDepth 4000
namespace Go.Proofs.YtofdiijioejljaaGreat
open Go.RowKit
attribute [local irreducible] vcOps VS

theorem gcd_len {a b N : Nat} (hb : b ≠ 0) (ha : (halves a).length ≤ N) (hbl : (halves b).length ≤ N) : (halves (a % b)).length ≤ N := Nat.le_trans (digs_len_mono (by omega) (Nat.le_of_lt (Nat.mod_lt a (Nat.pos_of_ne_zero hb)))) hbl
set_option maxHeartbeats 1000000 in
theorem rgcd_any (v u : Value) (X Y : Int) (j k : Nat) (w : World) (hv : IntIn w v X j) (hu : IntIn w u Y k) (hj : j ≤ 268435456) (hk : k ≤ 268435456) :
  Calls Tryz.prog 93 #[v, u] w fun e w' => ∃ r, e = .returned r ∧ IntOwn w' w.heap.size r (Int.gcd X Y : Int) ∧ Beh w w' := by
 obtain ⟨s, p, n, c, rfl⟩ := hv.form
 obtain ⟨t, q, m, d, rfl⟩ := hu.form
 have hlx := hv.len
 have hly := hu.len
 have l1 := halves_len2 X.natAbs
 have l2 := halves_len2 Y.natAbs
 refine calm_enter (C := cxI Tryz.prog w _) (args := [_, _]) Tryz.func93 rfl Tryz.ntmps93 (Nat.le_of_ble_eq_true rfl) ?_
 (repeat first|refine wN ?_|refine wP rfl ?_|refine cxI_r rfl ?_|refine cxI_d rfl ?_|refine wO rfl rfl ?_)
 refine VO.call rfl rfl (fk Tryz.func109) (fun wa1 ka1 ba1 => (rpl_any _ X j wa1 (hv.kpI ka1)).mono ?_)
 rintro e w1 ⟨r1, rfl, h1, hb1⟩
 obtain ⟨s1, p1, n1, c1, rfl⟩ := h1.form4
 refine ⟨_, rfl, hb1, fun kb1 _ bb1 => wV rfl ?_⟩
 (repeat first|refine wN ?_|refine wP rfl ?_|refine cxI_r rfl ?_|refine cxI_d rfl ?_|refine wO rfl rfl ?_)
 refine VO.call rfl rfl (fk Tryz.func114) (fun wa3 ka3 ba3 => (halvesI_any _ n1 X.natAbs wa3 (h1.row.kpI ka3) (by rw [h1.n]; omega)).mono ?_)
 rintro e w3 ⟨p3, c3, rfl, h3, hb3⟩
 skip
 refine ⟨_, rfl, hb3, fun kb3 _ bb3 => wV rfl ?_⟩
 (repeat first|refine wN ?_|refine wP rfl ?_|refine cxI_r rfl ?_|refine cxI_d rfl ?_|refine wO rfl rfl ?_)
 refine VO.call rfl rfl (fk Tryz.func109) (fun wa2 ka2 ba2 => (rpl_any _ Y k wa2 (hu.kpI (kb1.thn (kb3.thn ka2)))).mono ?_)
 rintro e w2 ⟨r2, rfl, h2, hb2⟩
 obtain ⟨s2, p2, n2, c2, rfl⟩ := h2.form4
 refine ⟨_, rfl, hb2, fun kb2 _ bb2 => wV rfl ?_⟩
 (repeat first|refine wN ?_|refine wP rfl ?_|refine cxI_r rfl ?_|refine cxI_d rfl ?_|refine wO rfl rfl ?_)
 refine VO.call rfl rfl (fk Tryz.func114) (fun wa4 ka4 ba4 => (halvesI_any _ n2 Y.natAbs wa4 (h2.row.kpI ka4) (by rw [h2.n]; omega)).mono ?_)
 rintro e w4 ⟨p4, c4, rfl, h4, hb4⟩
 skip
 refine ⟨_, rfl, hb4, fun kb4 _ bb4 => wV rfl ?_⟩
 (repeat first|refine wN ?_|refine wP rfl ?_|refine cxI_r rfl ?_|refine cxI_d rfl ?_|refine wO rfl rfl ?_)
 refine VS.loop (J := fun ms L M w' => ∃ (a b : Nat) (px : Option Addr) (cx : Nat) (py : Option Addr) (cy : Nat), ms = b ∧ Nat.gcd a b = Int.gcd X Y ∧ L = [(4, .box 4 0), (5, .val (.slice px (halves a).length cx)), (6, .val (.slice py (halves b).length cy))] ∧ M = [(4, (33, ([.bool false, .slice none 0 0] : List Value).map .val))] ∧
  (halves a).length ≤ 536870912 ∧ (halves b).length ≤ 536870912 ∧ w'.ownsRow w.heap.size 3 1 (.slice px (halves a).length cx) (halves a).length (ints .i64 (halves a)) ∧ w'.ownsRow w.heap.size 3 1 (.slice py (halves b).length cy) (halves b).length (ints .i64 (halves b))) Y.natAbs
  ⟨_, _, ?_, ?_, ?_, ?_, ⟨X.natAbs, Y.natAbs, p3, c3, p4, c4, rfl, rfl, rfl, rfl, by omega, by omega, OwnI.kp (Own.mono h3 ba3.size) (kb2.thn kb4), Own.mono h4 ba4.size⟩⟩ ?_
 ·(repeat first|exact trivial|refine ⟨rfl, ?_⟩)
 ·(repeat first|exact trivial|refine ⟨rfl, ?_⟩)
 ·rfl
 ·(repeat first|exact trivial|refine ⟨ClosedC.lit rfl, ?_⟩|refine ⟨ClosedC.vals _, ?_⟩)
 rintro ms L M w' ⟨a, b, px, cx, py, cy, hms, hg, rfl, rfl, la, lb, oa, ob⟩
 (repeat first|refine wN ?_|refine wP rfl ?_|refine cxI_r rfl ?_|refine cxI_d rfl ?_|refine wO rfl rfl ?_)
 by_cases hb0 : b = 0
 ·subst hb0
  have hl0 : (halves 0).length = 0 := by rw [halves_zero]; rfl
  refine VS.condN rfl (decide_eq_false (by rw [hl0]; omega)) ?_
  (repeat first|refine wN ?_|refine wP rfl ?_|refine cxI_r rfl ?_|refine cxI_d rfl ?_|refine wO rfl rfl ?_)
  refine VO.call rfl rfl (fk Tryz.func112) (fun wa6 ka6 ba6 => (limbsI_any _ _ a wa6 (Rd.own (OwnI.kp oa ka6)) (by omega)).mono ?_)
  rintro e w6 ⟨p6, c6, xs6, rfl, h6, hx6, hl6, hb6⟩
  skip
  refine ⟨_, rfl, hb6, fun kb6 _ bb6 => wV rfl ?_⟩
  (repeat first|refine wN ?_|refine wP rfl ?_|refine cxI_r rfl ?_|refine cxI_d rfl ?_|refine wO rfl rfl ?_)
  refine VO.call rfl rfl (fk Tryz.func107) (fun wa7 ka7 ba7 => (made_any false _ _ xs6 wa7 (Rd.own (OwnU.kpI h6 ka7)) hl6 (by omega)).mono ?_)
  rintro e w7 ⟨r7, rfl, h7, hb7⟩
  obtain ⟨s7, p7, n7, c7, rfl⟩ := h7.form
  refine ⟨_, rfl, hb7, fun kb7 _ bb7 => wV rfl ?_⟩
  (repeat first|refine wN ?_|refine wP rfl ?_|refine cxI_r rfl ?_|refine cxI_d rfl ?_|refine wO rfl rfl ?_)
  refine VS.ret (cxI_ok _ _) rfl rfl (fun wz kz bz => ?_)
  refine ⟨_, rfl, IntOwn.cast ((h7.kpI kz).mono ba7.size) ?_, bz⟩
  rw [hx6, ← hg, Nat.gcd_zero_right]; rfl
 ·have hlp : 0 < (halves b).length := digs_length_pos (by omega) hb0
  refine VS.condY rfl (decide_eq_true (by omega)) ?_
  (repeat first|refine wN ?_|refine wP rfl ?_|refine cxI_r rfl ?_|refine cxI_d rfl ?_|refine wO rfl rfl ?_)
  refine VO.call rfl rfl (fk Tryz.func119) (fun wa5 ka5 ba5 => (partsI_any _ _ _ _ a b wa5 (Rd.own (OwnI.kp oa ka5)) (Rd.own (OwnI.kp ob ka5)) (by omega) (by omega) (by omega)).mono ?_)
  rintro e w5 ⟨p5, c5, q5, d5, rfl, h5, h5', hb5⟩
  skip
  refine ⟨_, rfl, hb5, fun kb5 _ bb5 => wV rfl ?_⟩
  (repeat first|refine wN ?_|refine wP rfl ?_|refine cxI_r rfl ?_|refine cxI_d rfl ?_|refine wO rfl rfl ?_)
  refine VS.back (a % b) (by rw [hms]; exact Nat.mod_lt _ (by omega)) ⟨_, _, ?_, ?_, ?_, ?_, ⟨b, a % b, py, cy, q5, d5, rfl, by rw [← hg, Nat.gcd_comm a b, Nat.gcd_comm b (a % b)]; exact (Nat.gcd_rec b a).symm, rfl, rfl, lb, gcd_len hb0 la lb, OwnI.kp ob kb5, Own.mono h5' ba5.size⟩⟩
  ·(repeat first|exact trivial|refine ⟨rfl, ?_⟩)
  ·(repeat first|exact trivial|refine ⟨rfl, ?_⟩)
  ·rfl
  ·(repeat first|exact trivial|refine ⟨ClosedC.lit rfl, ?_⟩|refine ⟨ClosedC.vals _, ?_⟩)
end Go.Proofs.YtofdiijioejljaaGreat
