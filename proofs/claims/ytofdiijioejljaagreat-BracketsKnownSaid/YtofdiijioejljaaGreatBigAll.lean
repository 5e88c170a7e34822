/- What the small functions of the big layer compute: signed, Right, of, turned, Sign. -/
import Derived.Test.YtofdiijioejljaaGreatBigW
import Derived.Deep.RegionHeld3
import Derived.Deep.RegionLaw
import Derived.Deep.RegionWith
import Derived.Deep.DeepCutAuto
import Derived.Deep.LoopGhost
set_option linter.all false
namespace Go.Proofs.YtofdiijioejljaaGreat
open Go.RowKit

theorem signed_any (neg : Bool) (p : Option Addr) (n c : Nat) (w : World) :
  Calls Tryz.prog 74 #[.bool neg, .slice p n c] w fun e w' => e = .returned (.agg #[.bool (neg && decide (0 < n)), .slice p n c]) ∧ Beh w w' := by
 refine walk_q fun R' hR' => ?_
 go_enter Tryz.func74, Tryz.ntmps74
 cases neg
 ·go_wp2
  exact bodyPost_ret (v := .agg #[.bool false, .slice p n c]) (by simp [results, Tryz.results74, go_sem]) rfl (hR'.out _ _ ⟨rfl, (Beh.refl w).alloc _⟩)
 ·go_wp2
  exact bodyPost_ret (v := .agg #[.bool (decide (0 < n)), .slice p n c]) (by simp [results, Tryz.results74, go_sem]) rfl (hR'.out _ _ ⟨rfl, (Beh.refl w).alloc _⟩)

theorem signed_sg (neg : Bool) (p : Option Addr) (n c : Nat) (w : World) :
  Calls Tryz.prog 74 #[.bool neg, .slice p n c] w fun e w' => ∃ sg, e = .returned (.agg #[.bool sg, .slice p n c]) ∧ Hid (sg = (neg && decide (0 < n))) ∧ Beh w w' :=
 (signed_any neg p n c w).mono fun _ _ ⟨h, hb⟩ => ⟨_, h, Lib.hid rfl, hb⟩

theorem bright_any (neg : Bool) (xs : List Nat) (v : Value) (w : World) (h : NumAt w v neg xs) :
  Calls Tryz.prog 58 #[v] w fun e w' => e = .returned (.bool (nright neg xs)) ∧ Beh w w' := by
 obtain ⟨p, c, rfl, hr, hl⟩ := h
 obtain ⟨p', c', hv, hnc, hcm, -⟩ := hr.u32
 simp only [Value.slice.injEq, true_and] at hv
 obtain ⟨rfl, rfl⟩ := hv
 refine walk_q fun R' hR' => ?_
 by_cases hx : xs = []
 ·subst hx
  simp only [List.length_nil, nright_nil] at *
  go_enter Tryz.func58, Tryz.ntmps58
  cases neg
  ·go_wp2
   exact hR'.out _ _ ⟨rfl, (Beh.refl w).alloc _⟩
  ·go_wp2
   exact hR'.out _ _ ⟨rfl, (Beh.refl w).alloc _⟩
 ·obtain ⟨m, hm⟩ : ∃ m, xs.length = m + 1 := ⟨xs.length - 1, by have := List.length_pos_iff.2 hx; omega⟩
  generalize hn : xs.length = n at *
  obtain ⟨b, off, x, rfl, hb, hxm, hc⟩ := hr.cellAt (k := m) (by omega)
  have h1 : nright neg xs = decide (x ≠ 0) := nright_last (by rw [hn, hm]; exact hxm)
  rw [h1] at hR'
  have hz : ((n : Int) == 0) = false := by rw [beq_eq_false_iff_ne]; omega
  have hp : (0 : Int) < (n : Int) := by omega
  have hw : IntKind.i64.wrap ((n : Int) - 1) = (m : Int) := by rw [IntWalk.i64_in _ (by omega)]; omega
  have hlt : (m : Int) < (n : Int) := by omega
  have HN := Lib.hid hn
  have hpn : 0 < n := by omega
  clear hx hm hn h1 hxm hr hl
  go_enter Tryz.func58, Tryz.ntmps58
  by_cases hx0 : x = 0
  ·subst hx0
   cases neg
   ·go_wp2
    exact hR'.out _ _ ⟨rfl, (Beh.refl w).alloc _⟩
   ·go_wp2
    exact hR'.out _ _ ⟨rfl, (Beh.refl w).alloc _⟩
  ·have hx1 : ((x : Int) != 0) = true := by rw [bne_iff_ne]; omega
   rw [decide_eq_true hx0] at hR'
   clear hx0
   cases neg
   ·go_wp2
    exact hR'.out _ _ ⟨rfl, (Beh.refl w).alloc _⟩
   ·go_wp2
    exact hR'.out _ _ ⟨rfl, (Beh.refl w).alloc _⟩
theorem bof_any (v : Value) (X : Int) (k : Nat) (w0 w : World) (h : IntIn w0 v X k) (hb0 : Beh w0 w) :
  Calls Tryz.prog 56 #[v] w fun e w' => ∃ u, e = .returned u ∧ IntRd w0 u X ∧ Beh w w' := by
 obtain ⟨neg, xs, hn, rfl, hk⟩ := h
 refine walk_q fun R' hR' => ?_
 have HN := Lib.hid hn
 obtain ⟨p, c, rfl, hr, hl⟩ := hn
 clear hr
 go_enter Tryz.func56, Tryz.ntmps56
 go_wp2_with fail
 refine (bright_any neg xs _ _ ((HN.out.beh hb0).beh (((Beh.refl w).alloc _).alloc _))).mono ?_
 rintro e w1 ⟨rfl, hb1⟩
 obtain ⟨b1, b2, hbW⟩ := boxes2 w 25 91 #[.bool neg, .slice p xs.length c] #[.bool false, .slice none 0 0]
 obtain ⟨c1, c2, _, _⟩ := (b1.beh hb1).two
 obtain ⟨c3, c4, f3, f4⟩ := (b2.beh hb1).two
 have hbb : Beh w w1 := hbW.thn hb1
 cases hnr : nright neg xs
 ·have B2 := (b2.beh hb1).set2 (.bool false) (.slice none 0 0)
  have HB2 := hbb.set2 (b := w.heap.size + 1) (by omega) (.bool false) (.slice none 0 0)
  go_wp2
  generalize (w1.setCell ⟨w.heap.size + 1, 0, none⟩ (.bool false)).setCell ⟨w.heap.size + 1, 1, none⟩ (.slice none 0 0) = w2 at *
  obtain ⟨d1, d2, _, _⟩ := B2.two
  refine bodyPost_ret (v := .agg #[.bool false, .slice none 0 0]) (by simp [results, Tryz.results56, go_sem, d1, d2]) rfl (hR'.out _ _ ⟨_, rfl, ?_, HB2⟩)
  rw [numOf, if_neg (by simp [hnr])]
  exact IntRd.zero _
 ·have B2 := (b2.beh hb1).set2 (.bool neg) (.slice p xs.length c)
  have HB2 := hbb.set2 (b := w.heap.size + 1) (by omega) (.bool neg) (.slice p xs.length c)
  go_wp2
  generalize (w1.setCell ⟨w.heap.size + 1, 0, none⟩ (.bool neg)).setCell ⟨w.heap.size + 1, 1, none⟩ (.slice p xs.length c) = w2 at *
  obtain ⟨d1, d2, _, _⟩ := B2.two
  refine bodyPost_ret (v := .agg #[.bool neg, .slice p xs.length c]) (by simp [results, Tryz.results56, go_sem, d1, d2]) rfl (hR'.out _ _ ⟨_, rfl, ?_, HB2⟩)
  rw [numOf, if_pos hnr]
  obtain ⟨h1, h2⟩ := canon hl hnr
  have := HN.out
  show NumAt _ _ _ _
  rw [← h1, ← h2]
  exact this
end Go.Proofs.YtofdiijioejljaaGreat
/- What the functions of the big layer compute: turned, plus. -/
namespace Go.Proofs.YtofdiijioejljaaGreat
open Go.RowKit

theorem IntRd.split {w : World} {v : Value} {X : Int} (h : IntRd w v X) : ∃ s p c, v = .agg #[.bool s, .slice p (limbs X.natAbs).length c] ∧ Rd w 1 (.slice p (limbs X.natAbs).length c) (limbs X.natAbs).length (ints .u32 (limbs X.natAbs)) ∧ X = if s = true then -(X.natAbs : Int) else (X.natAbs : Int) := by
 obtain ⟨p, c, hv, hr, _⟩ := h
 refine ⟨_, p, c, hv, hr, ?_⟩
 split
 ·rename_i h; have := of_decide_eq_true h; omega
 ·rename_i h; have : ¬ X < 0 := fun h' => h (decide_eq_true h'); omega

theorem turned_any (v : Value) (X : Int) (w : World) (h : IntRd w v X) :
  Calls Tryz.prog 78 #[v] w fun e w' => ∃ u, e = .returned u ∧ IntRd w' u (-X) ∧ Beh w w' := by
 obtain ⟨s, p, c, rfl, hr, hX⟩ := h.split
 obtain ⟨n, hn⟩ : ∃ n, n = (limbs X.natAbs).length := ⟨_, rfl⟩
 have HR := Lib.hid hr
 have HN := Lib.hid hn
 have HX := Lib.hid hX
 rw [← hn]
 clear hr hn hX h
 refine walk_q fun R' hR' => ?_
 obtain ⟨b1, b2, hbW⟩ := boxes2 w 91 91 #[.bool s, .slice p n c] #[.bool false, .slice none 0 0]
 go_enter Tryz.func78, Tryz.ntmps78
 go_wp2_with fail
 refine (signed_any _ _ _ _ _).mono ?_
 rintro e w1 ⟨rfl, hb1⟩
 obtain ⟨c3, c4, f3, f4⟩ := (b2.beh hb1).two
 have B2 := (b2.beh hb1).set2 (.bool (!s && decide (0 < n))) (.slice p n c)
 have HB2 := (hbW.thn hb1).set2 (b := w.heap.size + 1) (by omega) (.bool (!s && decide (0 < n))) (.slice p n c)
 go_wp2
 generalize (w1.setCell ⟨w.heap.size + 1, 0, none⟩ (.bool (!s && decide (0 < n)))).setCell ⟨w.heap.size + 1, 1, none⟩ (.slice p n c) = w2 at *
 obtain ⟨d1, d2, _, _⟩ := B2.two
 refine bodyPost_ret (v := .agg #[.bool (!s && decide (0 < n)), .slice p n c]) (by simp [results, Tryz.results78, go_sem, d1, d2]) rfl (hR'.out _ _ ⟨_, rfl, ?_, HB2⟩)
 have hr2 := HR.out.below HB2
 rw [← HN.out] at hr2
 refine IntRd.of (m := X.natAbs) (by rw [← HN.out]; exact hr2) HN.out _ ?_
 rw [HX.out]
 cases s <;> simp

set_option maxHeartbeats 1000000 in
theorem plus_any (v u : Value) (X Y : Int) (w : World) (hv : IntRd w v X) (hu : IntRd w u Y) (hx : (limbs X.natAbs).length ≤ 1073741824) (hy : (limbs Y.natAbs).length ≤ 1073741824) :
  Calls Tryz.prog 71 #[v, u] w fun e w' => ∃ r, e = .returned r ∧ IntOwn w' w.heap.size r (X + Y) ∧ Beh w w' := by
 obtain ⟨s, p, c, rfl, hr1, hX⟩ := hv.split
 obtain ⟨t, q, d, rfl, hr2, hY⟩ := hu.split
 obtain ⟨n, hn⟩ : ∃ n, n = (limbs X.natAbs).length := ⟨_, rfl⟩
 obtain ⟨m, hm⟩ : ∃ m, m = (limbs Y.natAbs).length := ⟨_, rfl⟩
 rw [← hn] at hr1 hx ⊢
 rw [← hm] at hr2 hy ⊢
 clear hv hu
 refine walk_q fun R' hR' => ?_
 obtain ⟨b1, b2, b3, hbW⟩ := boxes3 w 91 91 25 #[.bool s, .slice p n c] #[.bool t, .slice q m d] #[.bool false, .slice none 0 0]
 have r10 := Lib.hid hr1
 have r20 := Lib.hid hr2
 have r1 := Lib.hid (hr1.below hbW)
 have r2 := Lib.hid (hr2.below hbW)
 have HX := Lib.hid hX
 have HY := Lib.hid hY
 have HN := Lib.hid hn
 have HM := Lib.hid hm
 clear hr1 hr2 hX hY hn hm
 go_enter Tryz.func71, Tryz.ntmps71
 by_cases hst : s = t
 ·subst hst
  go_wp2_with fail
  generalize ((w.alloc _).alloc _).alloc _ = W at *
  obtain ⟨c1, c2, _, _⟩ := b1.two
  obtain ⟨c3, c4, _, _⟩ := b2.two
  obtain ⟨c5, c6, f5, f6⟩ := b3.two
  have HS := Lib.hid (fun w' (h : KeepBut W (w.heap.size + 1 + 1) w') => And.intro (h.cells b1 (by omega)) (h.cells b2 (by omega)))
  go_region_held3 (fun w' => (w'.cell? ⟨w.heap.size, 0, none⟩ = some (.bool s) ∧ w'.cell? ⟨w.heap.size, 1, none⟩ = some (.slice p n c)) ∧ w'.cell? ⟨w.heap.size + 1, 0, none⟩ = some (.bool s) ∧ w'.cell? ⟨w.heap.size + 1, 1, none⟩ = some (.slice q m d)) ((refine HS.out _ ?_; (with_reducible (repeat (first | exact KeepBut.refl _ _ | refine KeepBut.drew ?_ | refine KeepBut.drewN ?_ _ | refine KeepBut.alloc ?_ _ | refine KeepBut.set ?_ _ | refine KeepBut.thn ?_ (by assumption) | refine KeepBut.setNew ?_ (by first | omega | (simp; done) | (simp; omega)) _))))) (first
   | (go_at_call 99; refine (add_any _ _ n m _ _ _ r1.out.drew r2.out.drew (limbs_lim _) (limbs_lim _) (by omega) (by omega)).mono ?_; rintro e w1 ⟨v1, rfl, ho1, hb1⟩; replace hb1 : Beh _ w1 := hb1; rw [nval_limbs, nval_limbs] at ho1; obtain ⟨p1, k1, rfl, _, _, _⟩ := Own.form ho1)
   | (go_at_call 74; refine (signed_any _ _ _ _ _).mono ?_; rintro e w2 ⟨rfl, hb2⟩; obtain ⟨c5', c6', f5', f6'⟩ := ((b3.drew.beh hb1).beh hb2).two))
  have B3 := ((b3.drew.beh hb1).beh hb2).set2 (.bool (s && decide (0 < (limbs (X.natAbs + Y.natAbs)).length))) (.slice p1 (limbs (X.natAbs + Y.natAbs)).length k1)
  have hbb : Beh w w2 := hbW.thn (Beh.thn (Beh.thn (Beh.refl W).drew hb1) hb2)
  have HB3 := hbb.set2 (b := w.heap.size + 1 + 1) (by omega) (.bool (s && decide (0 < (limbs (X.natAbs + Y.natAbs)).length))) (.slice p1 (limbs (X.natAbs + Y.natAbs)).length k1)
  have ho3 := Own.below ho1 hb2
  generalize hL : (limbs (X.natAbs + Y.natAbs)).length = L at *
  have HO3 := Lib.hid (Own.set2 (b := w.heap.size + 1 + 1) ho3 (b3.drew.beh hb1 |>.beh hb2) (by decide) (.bool (s && decide (0 < L))) (.slice p1 L k1))
  clear ho3 ho1 hbb
  go_wp2
  generalize (w2.setCell ⟨w.heap.size + 1 + 1, 0, none⟩ (.bool (s && decide (0 < L)))).setCell ⟨w.heap.size + 1 + 1, 1, none⟩ (.slice p1 L k1) = w3 at *
  obtain ⟨d1, d2, _, _⟩ := B3.two
  refine bodyPost_ret (v := .agg #[.bool (s && decide (0 < L)), .slice p1 L k1]) (by simp [results, Tryz.results71, go_sem, d1, d2]) rfl (hR'.out _ _ ⟨_, rfl, ?_, HB3⟩)
  refine IntOwn.of (m := X.natAbs + Y.natAbs) (by rw [hL]; exact Own.mono HO3.out hbW.size) hL.symm _ ?_
  rw [HX.out, HY.out]
  cases s <;> simp <;> omega
 ·have hst' : (s == t) = false := by cases s <;> cases t <;> simp_all
  go_wp2_with fail
  generalize ((w.alloc _).alloc _).alloc _ = W at *
  refine (cmp_any _ _ n m _ _ _ r1.out r2.out (limbs_lim _) (limbs_lim _)).mono ?_
  rintro e w1 ⟨rfl, k1, rfl⟩
  rw [nval_limbs, nval_limbs]
  by_cases hlt : X.natAbs < Y.natAbs
  ·have HLT := Lib.hid hlt
   have hc : ncmp X.natAbs Y.natAbs < 0 := ncmp_neg.2 hlt
   generalize ncmp X.natAbs Y.natAbs = cv at hc ⊢
   obtain ⟨c1, c2, f1, f2⟩ := (b1.drewN k1).two
   obtain ⟨c3, c4, f3, f4⟩ := (b2.drewN k1).two
   have B1 := ((b1.drewN k1).set2 (.bool t) (.slice q m d)).other2 (b' := w.heap.size + 1) (by omega) (.bool s) (.slice p n c)
   have B2 := ((b2.drewN k1).other2 (b' := w.heap.size) (by omega) (.bool t) (.slice q m d)).set2 (.bool s) (.slice p n c)
   have B3 := ((b3.drewN k1).other2 (b' := w.heap.size) (by omega) (.bool t) (.slice q m d)).other2 (b' := w.heap.size + 1) (by omega) (.bool s) (.slice p n c)
   have HBW := ((hbW.drewN k1).set2 (b := w.heap.size) (by omega) (.bool t) (.slice q m d)).set2 (b := w.heap.size + 1) (by omega) (.bool s) (.slice p n c)
   clear hbW b1 b2 b3 r1 r2 hlt
   go_wp2_with fail
   generalize ((((W.drewN k1).setCell ⟨w.heap.size, 0, none⟩ (.bool t)).setCell ⟨w.heap.size, 1, none⟩ (.slice q m d)).setCell ⟨w.heap.size + 1, 0, none⟩ (.bool s)).setCell ⟨w.heap.size + 1, 1, none⟩ (.slice p n c) = W2 at *
   clear c1 c2 c3 c4 f1 f2 f3 f4
   refine (sub_any _ _ m n _ _ _ (r20.out.below HBW) (r10.out.below HBW) (limbs_lim _) (limbs_lim _) (by omega)).mono ?_
   rintro e w2 ⟨⟨h, _⟩ | ⟨_, v2, rfl, ho2⟩, hb2⟩
   ·rw [nval_limbs, nval_limbs] at h; exact absurd h (by have := HLT.out; omega)
   replace hb2 : Beh _ w2 := hb2
   rw [nval_limbs, nval_limbs] at ho2
   obtain ⟨p2, k2, rfl, _, _, _⟩ := Own.form ho2
   obtain ⟨e1, e2, _, _⟩ := (B1.beh hb2).two
   have E3 := B3.beh hb2
   have hbw2 := HBW.thn hb2
   generalize hL : (limbs (Y.natAbs - X.natAbs)).length = L at *
   have HO2 := Lib.hid (Own.mono ho2 HBW.size)
   have HL := Lib.hid hL
   clear ho2 hL B1 B2 B3 HBW hb2
   go_wp2_with fail
   refine (signed_any _ _ _ _ _).mono ?_
   rintro e w3 ⟨rfl, hb3⟩
   have F3 := E3.beh hb3
   obtain ⟨e5, e6, g5, g6⟩ := F3.two
   have HO3 := Lib.hid (Own.set2 (b := w.heap.size + 1 + 1) (Own.below HO2.out hb3) F3 (by decide) (.bool (t && decide (0 < L))) (.slice p2 L k2))
   have G3 := F3.set2 (.bool (t && decide (0 < L))) (.slice p2 L k2)
   have HB3 := (hbw2.thn hb3).set2 (b := w.heap.size + 1 + 1) (by omega) (.bool (t && decide (0 < L))) (.slice p2 L k2)
   clear HO2 E3 F3
   go_wp2
   generalize (w3.setCell ⟨w.heap.size + 1 + 1, 0, none⟩ (.bool (t && decide (0 < L)))).setCell ⟨w.heap.size + 1 + 1, 1, none⟩ (.slice p2 L k2) = w4 at *
   obtain ⟨d1, d2, _, _⟩ := G3.two
   refine bodyPost_ret (v := .agg #[.bool (t && decide (0 < L)), .slice p2 L k2]) (by simp [results, Tryz.results71, go_sem, d1, d2]) rfl (hR'.out _ _ ⟨_, rfl, ?_, HB3⟩)
   refine IntOwn.of (m := Y.natAbs - X.natAbs) (by rw [HL.out]; exact HO3.out) HL.out.symm _ ?_
   rw [HX.out, HY.out]
   have := HLT.out
   cases s <;> cases t <;> simp at hst ⊢ <;> omega
  ·have HLT := Lib.hid hlt
   have hc : 0 ≤ ncmp X.natAbs Y.natAbs := by have := mt (@ncmp_neg X.natAbs Y.natAbs).1 hlt; omega
   generalize ncmp X.natAbs Y.natAbs = cv at hc ⊢
   have B1 := b1.drewN k1
   have B2 := b2.drewN k1
   have B3 := b3.drewN k1
   have HBW := hbW.drewN k1
   obtain ⟨c1, c2, f1, f2⟩ := B1.two
   obtain ⟨c3, c4, f3, f4⟩ := B2.two
   clear hbW b1 b2 b3 r1 r2 hlt
   go_wp2_with fail
   generalize W.drewN k1 = W2 at *
   clear c1 c2 c3 c4 f1 f2 f3 f4
   refine (sub_any _ _ n m _ _ _ (r10.out.below HBW) (r20.out.below HBW) (limbs_lim _) (limbs_lim _) (by omega)).mono ?_
   rintro e w2 ⟨⟨h, _⟩ | ⟨_, v2, rfl, ho2⟩, hb2⟩
   ·rw [nval_limbs, nval_limbs] at h; exact absurd h (by have := HLT.out; omega)
   replace hb2 : Beh _ w2 := hb2
   rw [nval_limbs, nval_limbs] at ho2
   obtain ⟨p2, k2, rfl, _, _, _⟩ := Own.form ho2
   obtain ⟨e1, e2, _, _⟩ := (B1.beh hb2).two
   have E3 := B3.beh hb2
   have hbw2 := HBW.thn hb2
   generalize hL : (limbs (X.natAbs - Y.natAbs)).length = L at *
   have HO2 := Lib.hid (Own.mono ho2 HBW.size)
   have HL := Lib.hid hL
   clear ho2 hL B1 B2 B3 HBW hb2
   go_wp2_with fail
   refine (signed_any _ _ _ _ _).mono ?_
   rintro e w3 ⟨rfl, hb3⟩
   have F3 := E3.beh hb3
   obtain ⟨e5, e6, g5, g6⟩ := F3.two
   have HO3 := Lib.hid (Own.set2 (b := w.heap.size + 1 + 1) (Own.below HO2.out hb3) F3 (by decide) (.bool (s && decide (0 < L))) (.slice p2 L k2))
   have G3 := F3.set2 (.bool (s && decide (0 < L))) (.slice p2 L k2)
   have HB3 := (hbw2.thn hb3).set2 (b := w.heap.size + 1 + 1) (by omega) (.bool (s && decide (0 < L))) (.slice p2 L k2)
   clear HO2 E3 F3
   go_wp2
   generalize (w3.setCell ⟨w.heap.size + 1 + 1, 0, none⟩ (.bool (s && decide (0 < L)))).setCell ⟨w.heap.size + 1 + 1, 1, none⟩ (.slice p2 L k2) = w4 at *
   obtain ⟨d1, d2, _, _⟩ := G3.two
   refine bodyPost_ret (v := .agg #[.bool (s && decide (0 < L)), .slice p2 L k2]) (by simp [results, Tryz.results71, go_sem, d1, d2]) rfl (hR'.out _ _ ⟨_, rfl, ?_, HB3⟩)
   refine IntOwn.of (m := X.natAbs - Y.natAbs) (by rw [HL.out]; exact HO3.out) HL.out.symm _ ?_
   rw [HX.out, HY.out]
   have := HLT.out
   cases s <;> cases t <;> simp at hst ⊢ <;> omega
end Go.Proofs.YtofdiijioejljaaGreat
/- What the functions of the big layer compute: Add, Sub, Mul. -/
namespace Go.Proofs.YtofdiijioejljaaGreat
open Go.RowKit

set_option maxHeartbeats 1000000 in
theorem badd_any (v u : Value) (X Y : Int) (j k : Nat) (w : World) (hv : IntIn w v X j) (hu : IntIn w u Y k) (hj : j ≤ 1073741824) (hk : k ≤ 1073741824) :
  Calls Tryz.prog 35 #[v, u] w fun e w' => ∃ r, e = .returned r ∧ IntOwn w' w.heap.size r (X + Y) ∧ Beh w w' := by
 obtain ⟨s, p, n, c, rfl⟩ := hv.form
 obtain ⟨t, q, m, d, rfl⟩ := hu.form
 refine walk_q fun R' hR' => ?_
 obtain ⟨b1, b2, b3, hbW⟩ := boxes3 w 25 25 25 #[.bool s, .slice p n c] #[.bool t, .slice q m d] #[.bool false, .slice none 0 0]
 have hlx := hv.len
 have hly := hu.len
 have HV := Lib.hid hv
 have HU := Lib.hid hu
 have hsz : w.heap.size + 3 ≤ (((w.alloc (.cells #[.bool s, .slice p n c] 25)).alloc (.cells #[.bool t, .slice q m d] 25)).alloc (.cells #[.bool false, .slice none 0 0] 25)).heap.size := by simp
 clear hv hu
 go_enter Tryz.func35, Tryz.ntmps35
 go_wp2_with fail
 generalize ((w.alloc _).alloc _).alloc _ = W at *
 have HS := Lib.hid (fun w' (h : KeepBut W (w.heap.size + 1 + 1) w') => And.intro (h.cells b1 (by omega)) (h.cells b2 (by omega)))
 obtain ⟨c1, c2, _, _⟩ := b1.two
 obtain ⟨c3, c4, _, _⟩ := b2.two
 obtain ⟨c5, c6, f5, f6⟩ := b3.two
 go_region_held3 (fun w' => (w'.cell? ⟨w.heap.size, 0, none⟩ = some (.bool s) ∧ w'.cell? ⟨w.heap.size, 1, none⟩ = some (.slice p n c)) ∧ w'.cell? ⟨w.heap.size + 1, 0, none⟩ = some (.bool t) ∧ w'.cell? ⟨w.heap.size + 1, 1, none⟩ = some (.slice q m d)) ((refine HS.out _ ?_; (with_reducible (repeat (first | exact KeepBut.refl _ _ | refine KeepBut.drew ?_ | refine KeepBut.drewN ?_ _ | refine KeepBut.alloc ?_ _ | refine KeepBut.set ?_ _ | refine KeepBut.thn ?_ (by assumption) | refine KeepBut.setNew ?_ (by first | omega | (simp; done) | (simp; omega)) _))))) (first
  | (go_at_call_of 56 (Value.slice p n c); refine (bof_any _ X j w _ HV.out (by (with_reducible (repeat (first | assumption | exact Beh.refl _ | refine Beh.drew ?_ | refine Beh.drewN ?_ _ | refine Beh.alloc ?_ _ | refine Beh.thn ?_ (by assumption) | refine Beh.setCell ?_ (by first | omega | (simp; done) | (simp; omega)) _))))).mono ?_; rintro e w1 ⟨u1, rfl, hu1, hb1⟩)
  | (go_at_call_of 56 (Value.slice q m d); refine (bof_any _ Y k w _ HU.out (by (with_reducible (repeat (first | assumption | exact Beh.refl _ | refine Beh.drew ?_ | refine Beh.drewN ?_ _ | refine Beh.alloc ?_ _ | refine Beh.thn ?_ (by assumption) | refine Beh.setCell ?_ (by first | omega | (simp; done) | (simp; omega)) _))))).mono ?_; rintro e w2 ⟨u2, rfl, hu2, hb2⟩)
  | (go_at_call 71; refine (plus_any _ _ X Y _ (hu1.beh (by (with_reducible (repeat (first | assumption | exact Beh.refl _ | refine Beh.drew ?_ | refine Beh.drewN ?_ _ | refine Beh.alloc ?_ _ | refine Beh.thn ?_ (by assumption) | refine Beh.setCell ?_ (by first | omega | (simp; done) | (simp; omega)) _))))) (hu2.beh (by (with_reducible (repeat (first | assumption | exact Beh.refl _ | refine Beh.drew ?_ | refine Beh.drewN ?_ _ | refine Beh.alloc ?_ _ | refine Beh.thn ?_ (by assumption) | refine Beh.setCell ?_ (by first | omega | (simp; done) | (simp; omega)) _))))) (Nat.le_trans hlx hj) (Nat.le_trans hly hk)).mono ?_; rintro e w3 ⟨r, rfl, hown, hb3⟩; obtain ⟨sg, pp, nn, cc, rfl⟩ := hown.form; obtain ⟨e5, e6, g5, g6⟩ := (Cls.beh (w' := w3) b3 (by (with_reducible (repeat (first | assumption | exact Beh.refl _ | refine Beh.drew ?_ | refine Beh.drewN ?_ _ | refine Beh.alloc ?_ _ | refine Beh.thn ?_ (by assumption) | refine Beh.setCell ?_ (by first | omega | (simp; done) | (simp; omega)) _))))).two)
  | fail)
 have FC := (Cls.beh (w' := w3) b3 (by (with_reducible (repeat (first | assumption | exact Beh.refl _ | refine Beh.drew ?_ | refine Beh.drewN ?_ _ | refine Beh.alloc ?_ _ | refine Beh.thn ?_ (by assumption) | refine Beh.setCell ?_ (by first | omega | (simp; done) | (simp; omega)) _)))))
 have FB : Beh w w3 := (by (with_reducible (repeat (first | assumption | exact Beh.refl _ | refine Beh.drew ?_ | refine Beh.drewN ?_ _ | refine Beh.alloc ?_ _ | refine Beh.thn ?_ (by assumption) | refine Beh.setCell ?_ (by first | omega | (simp; done) | (simp; omega)) _))))
 have FZ : Beh w w2 := (by (with_reducible (repeat (first | assumption | exact Beh.refl _ | refine Beh.drew ?_ | refine Beh.drewN ?_ _ | refine Beh.alloc ?_ _ | refine Beh.thn ?_ (by assumption) | refine Beh.setCell ?_ (by first | omega | (simp; done) | (simp; omega)) _))))
 have HO := Lib.hid (hown.set2 FC (by decide) (.bool sg) (.slice pp nn cc))
 clear hown
 have FC2 := FC.set2 (.bool (sg)) (.slice pp (nn) cc)
 have FB2 := Beh.set2 FB (b := w.heap.size + 1 + 1) (by omega) (.bool (sg)) (.slice pp (nn) cc)
 go_wp2
 generalize (w3.setCell ⟨w.heap.size + 1 + 1, 0, none⟩ (.bool (sg))).setCell ⟨w.heap.size + 1 + 1, 1, none⟩ (.slice pp (nn) cc) = wz at *
 obtain ⟨fd1, fd2, _, _⟩ := FC2.two
 refine bodyPost_ret (v := .agg #[.bool (sg), .slice pp (nn) cc]) (by simp [results, Tryz.results35, go_sem, fd1, fd2]) rfl (hR'.out _ _ ?_)
 exact ⟨_, rfl, HO.out.mono FZ.size, FB2⟩

set_option maxHeartbeats 1000000 in
theorem bsub_any (v u : Value) (X Y : Int) (j k : Nat) (w : World) (hv : IntIn w v X j) (hu : IntIn w u Y k) (hj : j ≤ 1073741824) (hk : k ≤ 1073741824) :
  Calls Tryz.prog 44 #[v, u] w fun e w' => ∃ r, e = .returned r ∧ IntOwn w' w.heap.size r (X - Y) ∧ Beh w w' := by
 obtain ⟨s, p, n, c, rfl⟩ := hv.form
 obtain ⟨t, q, m, d, rfl⟩ := hu.form
 refine walk_q fun R' hR' => ?_
 obtain ⟨b1, b2, b3, hbW⟩ := boxes3 w 25 25 25 #[.bool s, .slice p n c] #[.bool t, .slice q m d] #[.bool false, .slice none 0 0]
 have hlx := hv.len
 have hly := hu.len
 have HV := Lib.hid hv
 have HU := Lib.hid hu
 have hsz : w.heap.size + 3 ≤ (((w.alloc (.cells #[.bool s, .slice p n c] 25)).alloc (.cells #[.bool t, .slice q m d] 25)).alloc (.cells #[.bool false, .slice none 0 0] 25)).heap.size := by simp
 clear hv hu
 go_enter Tryz.func44, Tryz.ntmps44
 go_wp2_with fail
 generalize ((w.alloc _).alloc _).alloc _ = W at *
 have HS := Lib.hid (fun w' (h : KeepBut W (w.heap.size + 1 + 1) w') => And.intro (h.cells b1 (by omega)) (h.cells b2 (by omega)))
 obtain ⟨c1, c2, _, _⟩ := b1.two
 obtain ⟨c3, c4, _, _⟩ := b2.two
 obtain ⟨c5, c6, f5, f6⟩ := b3.two
 go_region_held3 (fun w' => (w'.cell? ⟨w.heap.size, 0, none⟩ = some (.bool s) ∧ w'.cell? ⟨w.heap.size, 1, none⟩ = some (.slice p n c)) ∧ w'.cell? ⟨w.heap.size + 1, 0, none⟩ = some (.bool t) ∧ w'.cell? ⟨w.heap.size + 1, 1, none⟩ = some (.slice q m d)) ((refine HS.out _ ?_; (with_reducible (repeat (first | exact KeepBut.refl _ _ | refine KeepBut.drew ?_ | refine KeepBut.drewN ?_ _ | refine KeepBut.alloc ?_ _ | refine KeepBut.set ?_ _ | refine KeepBut.thn ?_ (by assumption) | refine KeepBut.setNew ?_ (by first | omega | (simp; done) | (simp; omega)) _))))) (first
  | (go_at_call_of 56 (Value.slice p n c); refine (bof_any _ X j w _ HV.out (by (with_reducible (repeat (first | assumption | exact Beh.refl _ | refine Beh.drew ?_ | refine Beh.drewN ?_ _ | refine Beh.alloc ?_ _ | refine Beh.thn ?_ (by assumption) | refine Beh.setCell ?_ (by first | omega | (simp; done) | (simp; omega)) _))))).mono ?_; rintro e w1 ⟨u1, rfl, hu1, hb1⟩)
  | (go_at_call_of 56 (Value.slice q m d); refine (bof_any _ Y k w _ HU.out (by (with_reducible (repeat (first | assumption | exact Beh.refl _ | refine Beh.drew ?_ | refine Beh.drewN ?_ _ | refine Beh.alloc ?_ _ | refine Beh.thn ?_ (by assumption) | refine Beh.setCell ?_ (by first | omega | (simp; done) | (simp; omega)) _))))).mono ?_; rintro e w2 ⟨u2, rfl, hu2, hb2⟩)
  | (go_at_call 78; refine (turned_any _ Y _ (hu2.beh (by (with_reducible (repeat (first | assumption | exact Beh.refl _ | refine Beh.drew ?_ | refine Beh.drewN ?_ _ | refine Beh.alloc ?_ _ | refine Beh.thn ?_ (by assumption) | refine Beh.setCell ?_ (by first | omega | (simp; done) | (simp; omega)) _)))))).mono ?_; rintro e w4 ⟨u4, rfl, hu4, hb4⟩)
  | (go_at_call 71; refine (plus_any _ _ X (-Y) _ (hu1.beh (by (with_reducible (repeat (first | assumption | exact Beh.refl _ | refine Beh.drew ?_ | refine Beh.drewN ?_ _ | refine Beh.alloc ?_ _ | refine Beh.thn ?_ (by assumption) | refine Beh.setCell ?_ (by first | omega | (simp; done) | (simp; omega)) _))))) (hu4.beh (by (with_reducible (repeat (first | assumption | exact Beh.refl _ | refine Beh.drew ?_ | refine Beh.drewN ?_ _ | refine Beh.alloc ?_ _ | refine Beh.thn ?_ (by assumption) | refine Beh.setCell ?_ (by first | omega | (simp; done) | (simp; omega)) _))))) (Nat.le_trans hlx hj) (by rw [Int.natAbs_neg]; exact Nat.le_trans hly hk)).mono ?_; rintro e w3 ⟨r, rfl, hown, hb3⟩; obtain ⟨sg, pp, nn, cc, rfl⟩ := hown.form; obtain ⟨e5, e6, g5, g6⟩ := (Cls.beh (w' := w3) b3 (by (with_reducible (repeat (first | assumption | exact Beh.refl _ | refine Beh.drew ?_ | refine Beh.drewN ?_ _ | refine Beh.alloc ?_ _ | refine Beh.thn ?_ (by assumption) | refine Beh.setCell ?_ (by first | omega | (simp; done) | (simp; omega)) _))))).two)
  | fail)
 rw [← Int.sub_eq_add_neg] at hown
 have FC := (Cls.beh (w' := w3) b3 (by (with_reducible (repeat (first | assumption | exact Beh.refl _ | refine Beh.drew ?_ | refine Beh.drewN ?_ _ | refine Beh.alloc ?_ _ | refine Beh.thn ?_ (by assumption) | refine Beh.setCell ?_ (by first | omega | (simp; done) | (simp; omega)) _)))))
 have FB : Beh w w3 := (by (with_reducible (repeat (first | assumption | exact Beh.refl _ | refine Beh.drew ?_ | refine Beh.drewN ?_ _ | refine Beh.alloc ?_ _ | refine Beh.thn ?_ (by assumption) | refine Beh.setCell ?_ (by first | omega | (simp; done) | (simp; omega)) _))))
 have FZ : Beh w w4 := (by (with_reducible (repeat (first | assumption | exact Beh.refl _ | refine Beh.drew ?_ | refine Beh.drewN ?_ _ | refine Beh.alloc ?_ _ | refine Beh.thn ?_ (by assumption) | refine Beh.setCell ?_ (by first | omega | (simp; done) | (simp; omega)) _))))
 have HO := Lib.hid (hown.set2 FC (by decide) (.bool sg) (.slice pp nn cc))
 clear hown
 have FC2 := FC.set2 (.bool (sg)) (.slice pp (nn) cc)
 have FB2 := Beh.set2 FB (b := w.heap.size + 1 + 1) (by omega) (.bool (sg)) (.slice pp (nn) cc)
 go_wp2
 generalize (w3.setCell ⟨w.heap.size + 1 + 1, 0, none⟩ (.bool (sg))).setCell ⟨w.heap.size + 1 + 1, 1, none⟩ (.slice pp (nn) cc) = wz at *
 obtain ⟨fd1, fd2, _, _⟩ := FC2.two
 refine bodyPost_ret (v := .agg #[.bool (sg), .slice pp (nn) cc]) (by simp [results, Tryz.results44, go_sem, fd1, fd2]) rfl (hR'.out _ _ ?_)
 exact ⟨_, rfl, HO.out.mono FZ.size, FB2⟩

def TwoNums (w W wc : World) (T : TypeId) (X Y : Int) (x y : Value) : Prop := ∃ g h s1 p1 n1 k1 s2 p2 n2 k2, x = .pointer (some ⟨g, 0, none⟩) ∧ y = .pointer (some ⟨h, 0, none⟩) ∧ Cls wc g T #[.bool s1, .slice p1 n1 k1] ∧ Cls wc h T #[.bool s2, .slice p2 n2 k2] ∧
 IntRd w (.agg #[.bool s1, .slice p1 n1 k1]) X ∧ IntRd w (.agg #[.bool s2, .slice p2 n2 k2]) Y ∧ Beh W wc

set_option maxHeartbeats 1000000 in
theorem bmul_any (v u : Value) (X Y : Int) (j k : Nat) (w : World) (hv : IntIn w v X j) (hu : IntIn w u Y k) (hj : j ≤ 536870912) (hk : k ≤ 536870912) :
  Calls Tryz.prog 61 #[v, u] w fun e w' => ∃ r, e = .returned r ∧ IntOwn w' w.heap.size r (X * Y) ∧ Beh w w' := by
 obtain ⟨s, p, n, c, rfl⟩ := hv.form
 obtain ⟨t, q, m, d, rfl⟩ := hu.form
 refine walk_q fun R' hR' => ?_
 obtain ⟨b1, b2, b3, hbW⟩ := boxes3 w 25 25 25 #[.bool s, .slice p n c] #[.bool t, .slice q m d] #[.bool false, .slice none 0 0]
 have hlx := hv.len
 have hly := hu.len
 have HV := Lib.hid hv
 have HU := Lib.hid hu
 have hsz : w.heap.size + 3 ≤ (((w.alloc (.cells #[.bool s, .slice p n c] 25)).alloc (.cells #[.bool t, .slice q m d] 25)).alloc (.cells #[.bool false, .slice none 0 0] 25)).heap.size := by simp
 clear hv hu
 go_enter Tryz.func61, Tryz.ntmps61
 go_wp2_with fail
 generalize ((w.alloc _).alloc _).alloc _ = W at *
 have HS := Lib.hid (fun w' (h : KeepBut W (w.heap.size + 1 + 1) w') => And.intro (h.cells b1 (by omega)) (h.cells b2 (by omega)))
 obtain ⟨c1, c2, _, _⟩ := b1.two
 obtain ⟨c3, c4, _, _⟩ := b2.two
 obtain ⟨c5, c6, f5, f6⟩ := b3.two
 go_cut [5, 6] (fun x5 x6 wc => TwoNums w W wc 91 X Y x5 x6)
 case first =>
  go_region_held3 (fun w' => (w'.cell? ⟨w.heap.size, 0, none⟩ = some (.bool s) ∧ w'.cell? ⟨w.heap.size, 1, none⟩ = some (.slice p n c)) ∧ w'.cell? ⟨w.heap.size + 1, 0, none⟩ = some (.bool t) ∧ w'.cell? ⟨w.heap.size + 1, 1, none⟩ = some (.slice q m d)) ((refine HS.out _ ?_; (with_reducible (repeat (first | exact KeepBut.refl _ _ | refine KeepBut.drew ?_ | refine KeepBut.drewN ?_ _ | refine KeepBut.alloc ?_ _ | refine KeepBut.set ?_ _ | refine KeepBut.thn ?_ (by assumption) | refine KeepBut.setNew ?_ (by first | omega | (simp; done) | (simp; omega)) _))))) (first
   | (go_at_call_of 56 (Value.slice p n c); refine (bof_any _ X j w _ HV.out (by (with_reducible (repeat (first | assumption | exact Beh.refl _ | refine Beh.drew ?_ | refine Beh.drewN ?_ _ | refine Beh.alloc ?_ _ | refine Beh.thn ?_ (by assumption) | refine Beh.setCell ?_ (by first | omega | (simp; done) | (simp; omega)) _))))).mono ?_; rintro e w1 ⟨u1, rfl, hu1, hb1⟩; obtain ⟨s1, p1, n1, k1, rfl⟩ := hu1.form4; have hs1 := hb1.size; (try simp at hs1); (try (have q1 := Cls.beh (Cls.drew (Cls.new _ _ #[_, _])) hb1; (try simp at q1); obtain ⟨q1a, q1b, q1c, q1d⟩ := q1.two; have q1l := q1.lt; have q1n := Nat.ne_of_lt q1l; have q1m := Nat.ne_of_gt q1l)); (try (have q2 := Cls.beh (Cls.drew (Cls.alloc (Cls.new _ _ #[_, _]) _)) hb1; (try simp at q2); obtain ⟨q2a, q2b, q2c, q2d⟩ := q2.two; have q2l := q2.lt; have q2n := Nat.ne_of_lt q2l; have q2m := Nat.ne_of_gt q2l)))
   | (go_at_call_of 56 (Value.slice q m d); refine (bof_any _ Y k w _ HU.out (by (with_reducible (repeat (first | assumption | exact Beh.refl _ | refine Beh.drew ?_ | refine Beh.drewN ?_ _ | refine Beh.alloc ?_ _ | refine Beh.thn ?_ (by assumption) | refine Beh.setCell ?_ (by first | omega | (simp; done) | (simp; omega)) _))))).mono ?_; rintro e w2 ⟨u2, rfl, hu2, hb2⟩; obtain ⟨s2, p2, n2, k2, rfl⟩ := hu2.form4; have hs2 := hb2.size; (try simp at hs2); (try (have q3 := Cls.beh (Cls.new _ _ #[_, _]) hb2; (try simp at q3); obtain ⟨q3a, q3b, q3c, q3d⟩ := q3.two; have q3l := q3.lt; have q3n := Nat.ne_of_lt q3l; have q3m := Nat.ne_of_gt q3l)); (try (have q4 := Cls.beh (Cls.alloc (Cls.new _ _ #[_, _]) _) hb2; (try simp at q4); obtain ⟨q4a, q4b, q4c, q4d⟩ := q4.two; have q4l := q4.lt; have q4n := Nat.ne_of_lt q4l; have q4m := Nat.ne_of_gt q4l)); (try (have q5 := Cls.beh q1 hb2; (try simp at q5); obtain ⟨q5a, q5b, q5c, q5d⟩ := q5.two; have q5l := q5.lt; have q5n := Nat.ne_of_lt q5l; have q5m := Nat.ne_of_gt q5l)); (try (have q6 := Cls.beh q2 hb2; (try simp at q6); obtain ⟨q6a, q6b, q6c, q6d⟩ := q6.two; have q6l := q6.lt; have q6n := Nat.ne_of_lt q6l; have q6m := Nat.ne_of_gt q6l)); (try (have q7 := Cls.beh (Cls.alloc q1 _) hb2; (try simp at q7); obtain ⟨q7a, q7b, q7c, q7d⟩ := q7.two; have q7l := q7.lt; have q7n := Nat.ne_of_lt q7l; have q7m := Nat.ne_of_gt q7l)))
   | fail)
  all_goals
   go_wp2
   go_meet
   refine ⟨_, _, s1, p1, n1, k1, s2, p2, n2, k2, rfl, rfl, ?_, ?_, hu1, hu2, ?_⟩
   ·(with_reducible (repeat (first | assumption | exact Cls.newAt (by first | rfl | (simp; done)) _ _ | refine Cls.alloc ?_ _ | refine Cls.drew ?_ | refine Cls.set2 (u := .bool false) (v := .slice none 0 0) ?_ _ _ | refine Cls.other2 ?_ (by first | omega | (simp; omega)) _ _ | refine Cls.beh ?_ (by assumption))))
   ·(with_reducible (repeat (first | assumption | exact Cls.newAt (by first | rfl | (simp; done)) _ _ | refine Cls.alloc ?_ _ | refine Cls.drew ?_ | refine Cls.set2 (u := .bool false) (v := .slice none 0 0) ?_ _ _ | refine Cls.other2 ?_ (by first | omega | (simp; omega)) _ _ | refine Cls.beh ?_ (by assumption))))
   ·(with_reducible (repeat (first | assumption | exact Beh.refl _ | refine Beh.drew ?_ | refine Beh.drewN ?_ _ | refine Beh.alloc ?_ _ | refine Beh.thn ?_ (by assumption) | refine Beh.setCell ?_ (by first | omega | (simp; done) | (simp; omega)) _)))
 case rest =>
  obtain ⟨g, h, s1, p1, n1, k1, s2, p2, n2, k2, rfl, rfl, B5, B6, hu1, hu2, hbc⟩ := hcut
  obtain ⟨hn1, hr1, hX⟩ := hu1.parts
  obtain ⟨hn2, hr2, hY⟩ := hu2.parts
  have B3 := b3.beh hbc
  have hbw : Beh w wc := hbW.thn hbc
  have HR1 := Lib.hid (hr1.below hbw)
  have HR2 := Lib.hid (hr2.below hbw)
  have HN1 := Lib.hid hn1
  have HN2 := Lib.hid hn2
  have HX := Lib.hid hX
  have HY := Lib.hid hY
  have hm1 : n1 ≤ 536870912 := by omega
  have hm2 : n2 ≤ 536870912 := by omega
  clear c1 c2 c3 c4 c5 c6 f5 f6 b1 b2 b3 hbc hbW hu1 hu2 hr1 hr2 hX hY hn1 hn2 HS
  obtain ⟨c1, c2, _, _⟩ := B5.two
  obtain ⟨c3, c4, _, _⟩ := B6.two
  obtain ⟨c5, c6, f5, f6⟩ := B3.two
  have hg : g ≠ w.heap.size + 1 + 1 := fun e => by subst e; have := (show wc.heap[_]? = _ from B5).symm.trans B3; simp at this
  have hh : h ≠ w.heap.size + 1 + 1 := fun e => by subst e; have := (show wc.heap[_]? = _ from B6).symm.trans B3; simp at this
  have HS := Lib.hid (fun w' (hk : KeepBut wc (w.heap.size + 1 + 1) w') => And.intro (hk.cells B5 hg) (hk.cells B6 hh))
  go_wp2_with fail
  go_region_held3 (fun w' => (w'.cell? ⟨g, 0, none⟩ = some (.bool s1) ∧ w'.cell? ⟨g, 1, none⟩ = some (.slice p1 n1 k1)) ∧ w'.cell? ⟨h, 0, none⟩ = some (.bool s2) ∧ w'.cell? ⟨h, 1, none⟩ = some (.slice p2 n2 k2)) ((refine HS.out _ ?_; (with_reducible (repeat (first | exact KeepBut.refl _ _ | refine KeepBut.drew ?_ | refine KeepBut.drewN ?_ _ | refine KeepBut.alloc ?_ _ | refine KeepBut.set ?_ _ | refine KeepBut.thn ?_ (by assumption) | refine KeepBut.setNew ?_ (by first | omega | (simp; done) | (simp; omega)) _))))) (first
   | (go_at_call 95; refine (nmul_any _ _ n1 n2 _ _ _ (HR1.out.below (Beh.refl wc).drew) (HR2.out.below (Beh.refl wc).drew) (limbs_lim _) (limbs_lim _) hm1 hm2).mono ?_; rintro e w1 ⟨v1, rfl, ho1, hb1⟩; replace hb1 : Beh _ w1 := hb1; rw [nval_limbs, nval_limbs] at ho1; obtain ⟨q1, l1, rfl, _, _, _⟩ := Own.form ho1)
   | (go_at_call 74; refine (signed_sg _ _ _ _ _).mono ?_; rintro e w3 ⟨sg, rfl, hsg, hb3⟩; obtain ⟨e5, e6, g5, g6⟩ := (Cls.beh (w' := w3) B3 (by (with_reducible (repeat (first | assumption | exact Beh.refl _ | refine Beh.drew ?_ | refine Beh.drewN ?_ _ | refine Beh.alloc ?_ _ | refine Beh.thn ?_ (by assumption) | refine Beh.setCell ?_ (by first | omega | (simp; done) | (simp; omega)) _))))).two)
   | fail)
  have FC := (Cls.beh (w' := w3) B3 (by (with_reducible (repeat (first | assumption | exact Beh.refl _ | refine Beh.drew ?_ | refine Beh.drewN ?_ _ | refine Beh.alloc ?_ _ | refine Beh.thn ?_ (by assumption) | refine Beh.setCell ?_ (by first | omega | (simp; done) | (simp; omega)) _)))))
  have FB : Beh w w3 := (by (with_reducible (repeat (first | assumption | exact Beh.refl _ | refine Beh.drew ?_ | refine Beh.drewN ?_ _ | refine Beh.alloc ?_ _ | refine Beh.thn ?_ (by assumption) | refine Beh.setCell ?_ (by first | omega | (simp; done) | (simp; omega)) _))))
  generalize hL : (limbs (X.natAbs * Y.natAbs)).length = L at *
  have HL := Lib.hid hL
  have HO := Lib.hid (Own.set2 (Own.below ho1 hb3) FC (by decide) (.bool sg) (.slice q1 L l1))
  clear ho1 hL
  have FC2 := FC.set2 (.bool (sg)) (.slice q1 (L) l1)
  have FB2 := Beh.set2 FB (b := w.heap.size + 1 + 1) (by omega) (.bool (sg)) (.slice q1 (L) l1)
  go_wp2
  generalize (w3.setCell ⟨w.heap.size + 1 + 1, 0, none⟩ (.bool (sg))).setCell ⟨w.heap.size + 1 + 1, 1, none⟩ (.slice q1 (L) l1) = wz at *
  obtain ⟨fd1, fd2, _, _⟩ := FC2.two
  refine bodyPost_ret (v := .agg #[.bool (sg), .slice q1 (L) l1]) (by simp [results, Tryz.results61, go_sem, fd1, fd2]) rfl (hR'.out _ _ ?_)
  rw [hsg.out]
  refine ⟨_, rfl, IntOwn.of (m := X.natAbs * Y.natAbs) (by rw [HL.out]; exact Own.mono HO.out hbw.size) HL.out.symm _ ?_, FB2⟩
  rw [HX.out, HY.out]
  cases s1 <;> cases s2 <;> simp [Int.neg_mul, Int.mul_neg]
end Go.Proofs.YtofdiijioejljaaGreat
/- What the functions of the big layer compute: Neg, Abs, Sign, Cmp, Of. -/
namespace Go.Proofs.YtofdiijioejljaaGreat
open Go.RowKit

theorem field_num (s : Bool) (p : Option Addr) (n c : Nat) (w : World) : (Instr.field 91 (.agg #[.bool s, .slice p n c]) 0).run Tryz.prog w = .ok (.agg #[.bool s, .slice p n c]) w := by kernel_rfl
theorem field_mag (s : Bool) (p : Option Addr) (n c : Nat) (w : World) : (Instr.field 25 (.agg #[.bool s, .slice p n c]) 1).run Tryz.prog w = .ok (.slice p n c) w := by kernel_rfl
set_option maxHeartbeats 1000000 in
theorem bneg_any (v : Value) (X : Int) (j : Nat) (w : World) (hv : IntIn w v X j) (hj : j ≤ 1073741824) :
  Calls Tryz.prog 96 #[v] w fun e w' => ∃ r, e = .returned r ∧ IntOwn w' w.heap.size r (-X) ∧ Beh w w' := by
 obtain ⟨s, p, n, c, rfl⟩ := hv.form
 refine walk_q fun R' hR' => ?_
 obtain ⟨b1, b2, hbW⟩ := boxes2 w 25 25 #[.bool s, .slice p n c] #[.bool false, .slice none 0 0]
 have hlx := hv.len
 have HV := Lib.hid hv
 have hsz : w.heap.size + 2 ≤ ((w.alloc (.cells #[.bool s, .slice p n c] 25)).alloc (.cells #[.bool false, .slice none 0 0] 25)).heap.size := by simp
 clear hv
 go_enter Tryz.func96, Tryz.ntmps96
 go_wp2_with fail
 generalize (w.alloc _).alloc _ = W at *
 refine (bof_any _ X j w _ HV.out (by (with_reducible (repeat (first | assumption | exact Beh.refl _ | refine Beh.drew ?_ | refine Beh.drewN ?_ _ | refine Beh.alloc ?_ _ | refine Beh.thn ?_ (by assumption) | refine Beh.setCell ?_ (by first | omega | (simp; done) | (simp; omega)) _))))).mono ?_
 rintro e w1 ⟨v1, rfl, hi1, hb1⟩
 go_wp2_with fail
 refine (turned_any _ X _ (hi1.beh (by (with_reducible (repeat (first | assumption | exact Beh.refl _ | refine Beh.drew ?_ | refine Beh.drewN ?_ _ | refine Beh.alloc ?_ _ | refine Beh.thn ?_ (by assumption) | refine Beh.setCell ?_ (by first | omega | (simp; done) | (simp; omega)) _)))))).mono ?_
 rintro e w2 ⟨v2, rfl, hi2, hb2⟩
 obtain ⟨s2, p2, n2, k2, rfl⟩ := hi2.form4
 obtain ⟨hn2, hr2, _⟩ := hi2.parts
 have hm2 : n2 ≤ 1073741824 := by rw [hn2, Int.natAbs_neg]; omega
 have HN2 := Lib.hid hn2
 have HI2 := Lib.hid hi2
 have HR2 := Lib.hid hr2
 clear hi2 hn2 hr2 hi1
 go_wp2_with fail
 have B5 := Cls.new w2 91 #[.bool s2, .slice p2 n2 k2]
 have hbT : Beh w2 (w2.alloc (.cells #[.bool s2, .slice p2 n2 k2] 91)) := (Beh.refl w2).alloc _
 have B2 := ((b2.beh hb1).beh hb2).beh hbT
 have hlt := b2.lt
 have hbs := hb1.size
 have hbs2 := hb2.size
 have hne : w2.heap.size ≠ w.heap.size + 1 := by omega
 generalize w2.alloc _ = T at *
 have HS := Lib.hid (fun w' (hk : KeepBut T (w.heap.size + 1) w') => hk.cells B5 hne)
 obtain ⟨c1, c2, _, _⟩ := B5.two
 obtain ⟨c5, c6, f5, f6⟩ := B2.two
 go_region_held3 (fun w' => w'.cell? ⟨w2.heap.size, 0, none⟩ = some (.bool s2) ∧ w'.cell? ⟨w2.heap.size, 1, none⟩ = some (.slice p2 n2 k2)) ((refine HS.out _ ?_; (with_reducible (repeat (first | exact KeepBut.refl _ _ | refine KeepBut.drew ?_ | refine KeepBut.drewN ?_ _ | refine KeepBut.alloc ?_ _ | refine KeepBut.set ?_ _ | refine KeepBut.thn ?_ (by assumption) | refine KeepBut.setNew ?_ (by first | omega | (simp; done) | (simp; omega)) _))))) (first
  | (go_at_call 102; refine (clone_any _ n2 _ _ (Rd.below (HR2.out.below hbT) (Beh.refl T).drew) hm2).mono ?_; rintro e w3 ⟨v3, rfl, ho3, hb3⟩; replace hb3 : Beh _ w3 := hb3; obtain ⟨q3, l3, rfl, _, _, _⟩ := Own.form ho3; obtain ⟨e5, e6, g5, g6⟩ := (Cls.beh (w' := w3) B2 (by (with_reducible (repeat (first | assumption | exact Beh.refl _ | refine Beh.drew ?_ | refine Beh.drewN ?_ _ | refine Beh.alloc ?_ _ | refine Beh.thn ?_ (by assumption) | refine Beh.setCell ?_ (by first | omega | (simp; done) | (simp; omega)) _))))).two)
  | fail)
 have FC := (Cls.beh (w' := w3) B2 (by (with_reducible (repeat (first | assumption | exact Beh.refl _ | refine Beh.drew ?_ | refine Beh.drewN ?_ _ | refine Beh.alloc ?_ _ | refine Beh.thn ?_ (by assumption) | refine Beh.setCell ?_ (by first | omega | (simp; done) | (simp; omega)) _)))))
 have FB : Beh w w3 := (by (with_reducible (repeat (first | assumption | exact Beh.refl _ | refine Beh.drew ?_ | refine Beh.drewN ?_ _ | refine Beh.alloc ?_ _ | refine Beh.thn ?_ (by assumption) | refine Beh.setCell ?_ (by first | omega | (simp; done) | (simp; omega)) _))))
 have FT : Beh w T := (by (with_reducible (repeat (first | assumption | exact Beh.refl _ | refine Beh.drew ?_ | refine Beh.drewN ?_ _ | refine Beh.alloc ?_ _ | refine Beh.thn ?_ (by assumption) | refine Beh.setCell ?_ (by first | omega | (simp; done) | (simp; omega)) _))))
 have HO := Lib.hid (Own.set2 ho3 FC (by decide) (.bool s2) (.slice q3 n2 l3))
 clear ho3
 have FC2 := FC.set2 (.bool (s2)) (.slice q3 (n2) l3)
 have FB2 := Beh.set2 FB (b := w.heap.size + 1) (by omega) (.bool (s2)) (.slice q3 (n2) l3)
 go_wp2
 generalize (w3.setCell ⟨w.heap.size + 1, 0, none⟩ (.bool (s2))).setCell ⟨w.heap.size + 1, 1, none⟩ (.slice q3 (n2) l3) = wz at *
 obtain ⟨fd1, fd2, _, _⟩ := FC2.two
 refine bodyPost_ret (v := .agg #[.bool (s2), .slice q3 (n2) l3]) (by simp [results, Tryz.results96, go_sem, fd1, fd2]) rfl (hR'.out _ _ ?_)
 exact ⟨_, rfl, HI2.out.own (Own.mono HO.out FT.size), FB2⟩

set_option maxRecDepth 100000 in
set_option maxHeartbeats 1000000 in
theorem babs_any (v : Value) (X : Int) (j : Nat) (w : World) (hv : IntIn w v X j) (hj : j ≤ 1073741824) :
  Calls Tryz.prog 97 #[v] w fun e w' => ∃ r, e = .returned r ∧ IntOwn w' w.heap.size r (X.natAbs : Int) ∧ Beh w w' := by
 obtain ⟨s, p, n, c, rfl⟩ := hv.form
 refine walk_q fun R' hR' => ?_
 obtain ⟨b1, b2, hbW⟩ := boxes2 w 25 25 #[.bool s, .slice p n c] #[.bool false, .slice none 0 0]
 have hlx := hv.len
 have HV := Lib.hid hv
 clear hv
 go_enter Tryz.func97, Tryz.ntmps97
 go_wp2_with fail
 generalize (w.alloc _).alloc _ = W at *
 refine (bof_any _ X j w _ HV.out (by (with_reducible (repeat (first | assumption | exact Beh.refl _ | refine Beh.drew ?_ | refine Beh.drewN ?_ _ | refine Beh.alloc ?_ _ | refine Beh.thn ?_ (by assumption) | refine Beh.setCell ?_ (by first | omega | (simp; done) | (simp; omega)) _))))).mono ?_
 rintro e w1 ⟨v1, rfl, hi1, hb1⟩
 obtain ⟨s2, p2, n2, k2, rfl⟩ := hi1.form4
 obtain ⟨hn2, hr2, _⟩ := hi1.parts
 have hm2 : n2 ≤ 1073741824 := by rw [hn2]; omega
 have HN2 := Lib.hid hn2
 have HR2 := Lib.hid hr2
 have hbw : Beh w w1 := hbW.thn hb1
 have hf1 := field_num s2 p2 n2 k2 w1
 have hf2 := field_mag s2 p2 n2 k2 w1
 clear hn2 hr2 hi1
 go_wp2_with fail
 refine (clone_any _ n2 _ _ (HR2.out.below hbw) hm2).mono ?_
 rintro e w3 ⟨v3, rfl, ho3, hb3⟩
 replace hb3 : Beh _ w3 := hb3
 obtain ⟨q3, l3, rfl, _, _, _⟩ := Own.form ho3
 have FC := (Cls.beh (w' := w3) b2 (by (with_reducible (repeat (first | assumption | exact Beh.refl _ | refine Beh.drew ?_ | refine Beh.drewN ?_ _ | refine Beh.alloc ?_ _ | refine Beh.thn ?_ (by assumption) | refine Beh.setCell ?_ (by first | omega | (simp; done) | (simp; omega)) _)))))
 have FB : Beh w w3 := (by (with_reducible (repeat (first | assumption | exact Beh.refl _ | refine Beh.drew ?_ | refine Beh.drewN ?_ _ | refine Beh.alloc ?_ _ | refine Beh.thn ?_ (by assumption) | refine Beh.setCell ?_ (by first | omega | (simp; done) | (simp; omega)) _))))
 have HO := Lib.hid (Own.set2 ho3 FC (by decide) (.bool false) (.slice q3 n2 l3))
 obtain ⟨e5, e6, g5, g6⟩ := FC.two
 clear ho3
 have FC2 := FC.set2 (.bool (false)) (.slice q3 (n2) l3)
 have FB2 := Beh.set2 FB (b := w.heap.size + 1) (by omega) (.bool (false)) (.slice q3 (n2) l3)
 go_wp2
 generalize (w3.setCell ⟨w.heap.size + 1, 0, none⟩ (.bool (false))).setCell ⟨w.heap.size + 1, 1, none⟩ (.slice q3 (n2) l3) = wz at *
 obtain ⟨fd1, fd2, _, _⟩ := FC2.two
 refine bodyPost_ret (v := .agg #[.bool (false), .slice q3 (n2) l3]) (by simp [results, Tryz.results97, go_sem, fd1, fd2]) rfl (hR'.out _ _ ?_)
 exact ⟨_, rfl, IntOwn.ofNat (Own.mono HO.out hbw.size) HN2.out, FB2⟩

set_option maxHeartbeats 1000000 in
theorem bsign_any (v : Value) (X : Int) (j : Nat) (w : World) (hv : IntIn w v X j) :
  Calls Tryz.prog 22 #[v] w fun e w' => e = .returned (.int .i64 X.sign) ∧ Beh w w' := by
 obtain ⟨s, p, n, c, rfl⟩ := hv.form
 refine walk_q fun R' hR' => ?_
 have HV := Lib.hid hv
 have hbW := (Beh.refl w).alloc (.cells #[.bool s, .slice p n c] 25)
 clear hv
 go_enter Tryz.func22, Tryz.ntmps22
 go_wp2_with fail
 generalize w.alloc _ = W at *
 refine (bof_any _ X j w _ HV.out (by (with_reducible (repeat (first | assumption | exact Beh.refl _ | refine Beh.drew ?_ | refine Beh.drewN ?_ _ | refine Beh.alloc ?_ _ | refine Beh.thn ?_ (by assumption) | refine Beh.setCell ?_ (by first | omega | (simp; done) | (simp; omega)) _))))).mono ?_
 rintro e w1 ⟨v1, rfl, hi1, hb1⟩
 obtain ⟨s2, p2, n2, k2, rfl⟩ := hi1.form4
 obtain ⟨hn2, _, hX⟩ := hi1.parts
 have hbw : Beh w w1 := hbW.thn hb1
 have hsg := hi1.sgn
 clear hi1
 cases s2
 ·by_cases h0 : X = 0
  ·subst h0
   have : n2 = 0 := by rw [hn2]; simp [limbs_zero]
   subst this
   clear hn2 hX hsg
   go_wp2
   exact hR'.out _ _ ⟨rfl, hbw.alloc _⟩
  ·have hp : 0 < n2 := by rw [hn2]; exact limbs_len_pos (by omega)
   have hs : X.sign = 1 := sign_pos (by simp at hX; omega)
   rw [hs] at hR'
   clear hn2 hX hsg
   have hpi : (0 : Int) < (n2 : Int) := by omega
   go_wp2
   exact hR'.out _ _ ⟨rfl, hbw.alloc _⟩
 ·have hs : X.sign = -1 := sign_neg (of_decide_eq_true hsg.symm)
  rw [hs] at hR'
  clear hn2 hX hsg
  go_wp2
  exact hR'.out _ _ ⟨rfl, hbw.alloc _⟩

theorem bcmp_any (v u : Value) (X Y : Int) (j k : Nat) (w : World) (hv : IntIn w v X j) (hu : IntIn w u Y k) (hj : j ≤ 1073741824) (hk : k ≤ 1073741824) :
  Calls Tryz.prog 34 #[v, u] w fun e w' => e = .returned (.int .i64 (X - Y).sign) ∧ Beh w w' := by
 obtain ⟨s, p, n, c, rfl⟩ := hv.form
 obtain ⟨t, q, m, d, rfl⟩ := hu.form
 refine walk_q fun R' hR' => ?_
 obtain ⟨b1, b2, hbW⟩ := boxes2 w 25 25 #[.bool s, .slice p n c] #[.bool t, .slice q m d]
 have HV := Lib.hid (hv.beh hbW)
 have HU := Lib.hid (hu.beh hbW)
 clear hv hu
 go_enter Tryz.func34, Tryz.ntmps34
 go_wp2_with fail
 generalize (w.alloc _).alloc _ = W at *
 refine (bsub_any _ _ X Y j k _ HV.out HU.out hj hk).mono ?_
 rintro e w1 ⟨r, rfl, ho, hb1⟩
 go_wp2_with fail
 refine (bsign_any _ (X - Y) _ _ (ho.rd.to (Nat.le_refl _))).mono ?_
 rintro e w2 ⟨rfl, hb2⟩
 go_wp2
 exact hR'.out _ _ ⟨rfl, (hbW.thn hb1).thn hb2⟩

theorem u64neg {n : Int} (h0 : n < 0) (h1 : -9223372036854775808 ≤ n) : IntKind.u64.wrap (-(IntKind.u64.wrap n)) = (n.natAbs : Int) := by
 rw [wrapU64, wrapU64]; omega
theorem u64pos {n : Int} (h0 : 0 ≤ n) (h1 : n ≤ 9223372036854775807) : IntKind.u64.wrap n = (n.natAbs : Int) := by
 rw [wrapU64]; omega
theorem nval_halves {a : Nat} : nval [a % 4294967296, a / 4294967296] = a := by
 rw [nval_cons, nval_cons, nval_nil]; omega
set_option maxRecDepth 100000 in
set_option maxHeartbeats 1000000 in
theorem bOf_any (n : Int) (w : World) (h0 : -9223372036854775808 ≤ n) (h1 : n ≤ 9223372036854775807) :
  Calls Tryz.prog 38 #[.int .i64 n] w fun e w' => ∃ r, e = .returned r ∧ IntOwn w' w.heap.size r n ∧ Beh w w' := by
 refine walk_q fun R' hR' => ?_
 obtain ⟨a, ha⟩ : ∃ a, a = n.natAbs := ⟨_, rfl⟩
 have HA := Lib.hid ha
 have ha2 : a < 18446744073709551616 := by omega
 have hc1 := Cls.new w 25 #[.bool false, .slice none 0 0]
 have hbW := (Beh.refl w).alloc (.cells #[.bool false, .slice none 0 0] 25)
 have hRl := Rd.lit2 (w := w.alloc (.cells #[.bool false, .slice none 0 0] 25)) (k := .u32) (e := 107) (x := (a : Int) % 4294967296) (y := (a : Int) / 4294967296) (a := a % 4294967296) (b := a / 4294967296) (by omega) (by omega)
 rw [World.size_alloc] at hRl
 go_enter Tryz.func38, Tryz.ntmps38
 by_cases hn : n < 0
 ·have e1 := u64neg hn h0
  rw [← ha] at e1
  have HN := Lib.hid hn
  clear ha
  go_wp2_with fail
  refine (trim_any _ 2 [a % 4294967296, a / 4294967296] _ hRl (Lim.cons (by omega) (Lim.cons (by omega) Lim.nil)) (by omega)).mono ?_
  rintro e w1 ⟨v1, rfl, ho1, hb1⟩
  replace hb1 : Beh _ w1 := hb1
  rw [nval_halves] at ho1
  obtain ⟨p1, k1, rfl, _, _, _⟩ := Own.form ho1
  generalize hL : (limbs a).length = L at *
  have HL := Lib.hid hL
  have FC1 := (hc1.alloc (.cells #[.int .u32 ((a : Int) % 4294967296), .int .u32 ((a : Int) / 4294967296)] 107)).beh hb1
  have FB1 : Beh w w1 := (((Beh.refl w).alloc _).alloc _).thn hb1
  have HO1 := Lib.hid ho1
  clear ho1 hL hb1
  go_wp2_with fail
  refine (signed_sg _ _ _ _ _).mono ?_
  rintro e w3 ⟨sg, rfl, hsg, hb3⟩
  have FC := FC1.beh hb3
  have FB := FB1.thn hb3
  obtain ⟨e5, e6, g5, g6⟩ := FC.two
  have HO := Lib.hid (Own.set2 (Own.below HO1.out hb3) FC (by decide) (.bool sg) (.slice p1 L k1))
  clear HO1 FC1
  have FC2 := FC.set2 (.bool (sg)) (.slice p1 (L) k1)
  have FB2 := Beh.set2 FB (b := w.heap.size) (by omega) (.bool (sg)) (.slice p1 (L) k1)
  go_wp2
  generalize (w3.setCell ⟨w.heap.size, 0, none⟩ (.bool (sg))).setCell ⟨w.heap.size, 1, none⟩ (.slice p1 (L) k1) = wz at *
  obtain ⟨fd1, fd2, _, _⟩ := FC2.two
  refine bodyPost_ret (v := .agg #[.bool (sg), .slice p1 (L) k1]) (by simp [results, Tryz.results38, go_sem, fd1, fd2]) rfl (hR'.out _ _ ?_)
  rw [hsg.out]
  refine ⟨_, rfl, IntOwn.of (m := a) (by rw [HL.out]; exact Own.mono HO.out (by simp; omega)) HL.out.symm _ ?_, FB2⟩
  have := HN.out
  have := HA.out
  simp; omega
 ·have e1 := u64pos (by omega : 0 ≤ n) h1
  rw [← ha] at e1
  have HN := Lib.hid hn
  clear ha
  go_wp2_with fail
  refine (trim_any _ 2 [a % 4294967296, a / 4294967296] _ hRl (Lim.cons (by omega) (Lim.cons (by omega) Lim.nil)) (by omega)).mono ?_
  rintro e w1 ⟨v1, rfl, ho1, hb1⟩
  replace hb1 : Beh _ w1 := hb1
  rw [nval_halves] at ho1
  obtain ⟨p1, k1, rfl, _, _, _⟩ := Own.form ho1
  generalize hL : (limbs a).length = L at *
  have HL := Lib.hid hL
  have FC1 := (hc1.alloc (.cells #[.int .u32 ((a : Int) % 4294967296), .int .u32 ((a : Int) / 4294967296)] 107)).beh hb1
  have FB1 : Beh w w1 := (((Beh.refl w).alloc _).alloc _).thn hb1
  have HO1 := Lib.hid ho1
  clear ho1 hL hb1
  go_wp2_with fail
  refine (signed_sg _ _ _ _ _).mono ?_
  rintro e w3 ⟨sg, rfl, hsg, hb3⟩
  have FC := FC1.beh hb3
  have FB := FB1.thn hb3
  obtain ⟨e5, e6, g5, g6⟩ := FC.two
  have HO := Lib.hid (Own.set2 (Own.below HO1.out hb3) FC (by decide) (.bool sg) (.slice p1 L k1))
  clear HO1 FC1
  have FC2 := FC.set2 (.bool (sg)) (.slice p1 (L) k1)
  have FB2 := Beh.set2 FB (b := w.heap.size) (by omega) (.bool (sg)) (.slice p1 (L) k1)
  go_wp2
  generalize (w3.setCell ⟨w.heap.size, 0, none⟩ (.bool (sg))).setCell ⟨w.heap.size, 1, none⟩ (.slice p1 (L) k1) = wz at *
  obtain ⟨fd1, fd2, _, _⟩ := FC2.two
  refine bodyPost_ret (v := .agg #[.bool (sg), .slice p1 (L) k1]) (by simp [results, Tryz.results38, go_sem, fd1, fd2]) rfl (hR'.out _ _ ?_)
  rw [hsg.out]
  refine ⟨_, rfl, IntOwn.of (m := a) (by rw [HL.out]; exact Own.mono HO.out (by simp; omega)) HL.out.symm _ ?_, FB2⟩
  have := HN.out
  have := HA.out
  simp; omega
end Go.Proofs.YtofdiijioejljaaGreat
/- What the natural layer's Gcd computes. -/
namespace Go.Proofs.YtofdiijioejljaaGreat
open Go.RowKit

def ngcd (rows : List (List Nat)) : Nat := rows.foldl (fun a r => Nat.gcd a (nval r)) 0
theorem ngcd_snoc (rows : List (List Nat)) (r : List Nat) : ngcd (rows ++ [r]) = Nat.gcd (ngcd rows) (nval r) := by simp [ngcd, List.foldl_append]
theorem gcd_step {x y : Nat} : Nat.gcd y (x % y) = Nat.gcd x y := by rw [Nat.gcd_comm, ← Nat.gcd_rec, Nat.gcd_comm]
def GcdOut (w : World) (B : Nat) (rows : List (List Nat)) (g : Nat) (av iv : Value) (wr : World) : Prop :=
 ∃ k, k ≤ rows.length ∧ g = rows.length - k ∧ iv = .int .i64 (k : Int) ∧ wr.ownsRow B 107 1 av (limbs (ngcd (rows.take k))).length (ints .u32 (limbs (ngcd (rows.take k)))) ∧ (limbs (ngcd (rows.take k))).length ≤ 536870912 ∧ Below B w wr
def GcdIn (w : World) (B G : Nat) (g : Nat) (av bv : Value) (wr : World) : Prop :=
 ∃ x, Nat.gcd x g = G ∧ wr.ownsRow B 107 1 av (limbs x).length (ints .u32 (limbs x)) ∧ wr.ownsRow B 107 1 bv (limbs g).length (ints .u32 (limbs g)) ∧ (limbs x).length ≤ 536870912 ∧ (limbs g).length ≤ 536870912 ∧ Below B w wr

set_option maxRecDepth 100000 in
set_option maxHeartbeats 2000000 in
theorem ngcd_any (va : Value) (rows : List (List Nat)) (w : World) (hr : RdRows w va rows) (hx : ∀ xs ∈ rows, Lim xs ∧ xs.length ≤ 536870912) (hn : rows.length ≤ 1048576) :
  Calls Tryz.prog 94 #[va] w fun e w' => ∃ v', e = .returned v' ∧ w'.ownsRow w.heap.size 107 1 v' (limbs (ngcd rows)).length (ints .u32 (limbs (ngcd rows))) ∧ Below w.heap.size w w' := by
 obtain ⟨p, c, rfl, hnc, hcm⟩ := hr.form
 have Hr := Lib.hid hr
 have HL := Lib.hid hx
 obtain ⟨B, hB⟩ : ∃ B, B = w.heap.size := ⟨_, rfl⟩
 have HB := Lib.hid hB
 obtain ⟨N, hN⟩ : ∃ N, N = rows.length := ⟨_, rfl⟩
 rw [← hN] at hnc hn ⊢
 have HN := Lib.hid hN
 rw [← hB]
 clear hx hr hB hN
 refine walk_q fun R' hR' => ?_
 go_enter Tryz.func94, Tryz.ntmps94
 go_wp2
 go_loopg [3, 11] N (fun g av iv wr => GcdOut w B rows g av iv wr)
 case atStart => exact ⟨0, Nat.zero_le _, by rw [HN.out]; rfl, rfl, by simp [ngcd, limbs_zero]; exact World.ownsRow_nil _ _ _ _, by simp [ngcd, limbs_zero], Below.refl _ _⟩
 case round =>
  obtain ⟨k, hk, hgk, rfl, hown, hlen, hb⟩ := hrel
  have HO := Lib.hid hown
  have HBW := Lib.hid hb
  have HGK := Lib.hid hgk
  have HLEN := Lib.hid hlen
  rw [← HN.out] at hk
  clear hown hb hgk hlen
  by_cases hkn : k < N
  ·obtain ⟨b1, o1, u, xs, rfl, hxk, hcx, hru⟩ := ((Hr.out.below (by have := HBW.out; rwa [HB.out] at this)).at (k := k) (by rw [← HN.out]; exact hkn))
   have HXK := Lib.hid hxk
   have HRU := Lib.hid hru
   clear hxk hru
   have hbs : B ≤ wr.heap.size := by have := HBW.out.size; have := HB.out; omega
   obtain ⟨hl1, hl2⟩ := HL.out xs (List.mem_of_getElem? HXK.out)
   obtain ⟨a, ha⟩ : ∃ a, a = ngcd (rows.take k) := ⟨_, rfl⟩
   obtain ⟨y, hy⟩ : ∃ y, y = nval xs := ⟨_, rfl⟩
   have hyl : (limbs y).length ≤ 536870912 := by rw [hy]; exact Nat.le_trans (limbs_len_le hl1) hl2
   have HL1 := Lib.hid hl1
   have HL2 := Lib.hid hl2
   have HYL := Lib.hid hyl
   have HG : Hid (Nat.gcd a y = ngcd (rows.take (k + 1))) := by show _ = _; rw [take_succ_snoc HXK.out, ngcd_snoc, ha, hy]
   have HA := Lib.hid ha
   have HY := Lib.hid hy
   clear ha hy hl1 hl2 hyl
   go_wp2_with fail
   refine (trim_any _ _ xs _ HRU.out HL1.out (by have := HL2.out; omega)).mono ?_
   rintro e w2 ⟨v', rfl, hown2, hb2⟩
   rw [← HY.out] at hown2
   have ho1 := Own.below HO.out hb2
   rw [← HA.out] at ho1
   have HO1 := Lib.hid ho1
   clear ho1
   have HO2 := Lib.hid (Own.mono hown2 hbs)
   have HB2 := Lib.hid (HBW.out.trans (hb2.mono hbs))
   clear hown2 hb2 hcx
   go_wp2_with fail
   go_loopg [3, 5] y (fun g av bv wr => GcdIn w B (Nat.gcd a y) g av bv wr)
   case atStart => exact ⟨a, rfl, HO1.out, HO2.out, by rw [HA.out]; exact HLEN.out, HYL.out, HB2.out⟩
   case round =>
    obtain ⟨x, hxy, hox, hoy, hlx, hly, hbw⟩ := hrel
    have HXY := Lib.hid hxy
    have HOX := Lib.hid hox
    have HOY := Lib.hid hoy
    have HLX := Lib.hid hlx
    have HLY := Lib.hid hly
    have HBX := Lib.hid hbw
    obtain ⟨py, cy, rfl, _, _, _⟩ := Own.form hoy
    clear hxy hox hoy hlx hly hbw
    by_cases hg0 : gk = 0
    ·subst hg0
     have hl0 : (limbs 0).length = 0 := by rw [limbs_zero]; rfl
     rw [hl0]
     have hxg : x = ngcd (rows.take (k + 1)) := by rw [← HG.out, ← HXY.out, Nat.gcd_zero_right]
     have HXG := Lib.hid hxg
     clear hxg hl0
     go_wp2_with fail
     go_roundg (N - (k + 1))
     case measure => have := HGK.out; have := HN.out; omega
     case rel => exact ⟨k + 1, by rw [← HN.out]; omega, by rw [HN.out], by go_num, by rw [← HXG.out]; exact HOX.out, by rw [← HXG.out]; exact HLX.out, HBX.out⟩
    ·have hp : (0 : Int) < ((limbs gk).length : Int) := by have := limbs_len_pos hg0; omega
     have HG0 := Lib.hid hg0
     obtain ⟨L, hL⟩ : ∃ L, L = (limbs gk).length := ⟨_, rfl⟩
     rw [← hL] at hp ⊢
     have HL := Lib.hid hL
     have hbx : B ≤ wr.heap.size := by have := HBX.out.size; have := HB.out; omega
     clear hg0 hL
     go_wp2_with fail
     refine (ndivmod_any _ _ _ _ _ _ _ (Rd.own HOX.out) (by rw [HL.out]; exact Rd.own HOY.out) (limbs_lim _) (limbs_lim _) HLX.out HLY.out).mono ?_
     rintro e w3 ⟨⟨h, rfl⟩ | ⟨h, vq, vr, rfl, hoq, hor⟩, hb3⟩
     ·exact absurd (by rw [nval_limbs] at h; exact h) HG0.out
     rw [nval_limbs, nval_limbs] at hor
     have hlt : x % gk < gk := Nat.mod_lt _ (Nat.pos_iff_ne_zero.2 HG0.out)
     have HLT := Lib.hid hlt
     have HOR := Lib.hid (Own.mono hor hbx)
     have HOG := Lib.hid (Own.below HOY.out hb3)
     have HB3 := Lib.hid (HBX.out.trans (hb3.mono hbx))
     clear hoq hor hb3 h hlt
     go_wp2_with fail
     go_roundg (x % gk)
     case measure => exact HLT.out
     case rel => exact ⟨gk, by rw [gcd_step]; exact HXY.out, by rw [HL.out]; exact HOG.out, HOR.out, HLY.out, Nat.le_trans (limbs_len_mono (Nat.le_of_lt HLT.out)) HLY.out, HB3.out⟩
  ·obtain rfl : k = N := by omega
   go_wp2_with fail
   refine (clone_any _ _ _ _ (Rd.own HO.out) (by have := HLEN.out; omega)).mono ?_
   rintro e w2 ⟨v', rfl, hown2, hb2⟩
   have hbs : B ≤ wr.heap.size := by have := HBW.out.size; have := HB.out; omega
   go_wp2_with fail
   refine hR'.out _ _ ⟨_, rfl, ?_, HBW.out.trans (hb2.mono hbs)⟩
   have := Own.mono hown2 hbs
   rwa [List.take_of_length_le (by rw [HN.out]; exact Nat.le_refl _)] at this
end Go.Proofs.YtofdiijioejljaaGreat
/- What the big layer's Gcd computes. -/
namespace Go.Proofs.YtofdiijioejljaaGreat
open Go.RowKit

theorem ngcd_two (x y : Nat) : ngcd [limbs x, limbs y] = Nat.gcd x y := by simp [ngcd, nval_limbs]
set_option maxRecDepth 100000 in
set_option maxHeartbeats 2000000 in
theorem bgcd_any (v u : Value) (X Y : Int) (j k : Nat) (w : World) (hv : IntIn w v X j) (hu : IntIn w u Y k) (hj : j ≤ 536870912) (hk : k ≤ 536870912) :
  Calls Tryz.prog 59 #[v, u] w fun e w' => ∃ r, e = .returned r ∧ IntOwn w' w.heap.size r (Int.gcd X Y : Int) ∧ Beh w w' := by
 obtain ⟨s, p, n, c, rfl⟩ := hv.form
 obtain ⟨t, q, m, d, rfl⟩ := hu.form
 refine walk_q fun R' hR' => ?_
 obtain ⟨b1, b2, b3, hbW⟩ := boxes3 w 25 25 25 #[.bool s, .slice p n c] #[.bool t, .slice q m d] #[.bool false, .slice none 0 0]
 have hlx := hv.len
 have hly := hu.len
 have HJ := Lib.hid (Nat.le_trans hlx hj)
 have HK := Lib.hid (Nat.le_trans hly hk)
 have HV := Lib.hid hv
 have HU := Lib.hid hu
 have hsz : w.heap.size + 3 ≤ (((w.alloc (.cells #[.bool s, .slice p n c] 25)).alloc (.cells #[.bool t, .slice q m d] 25)).alloc (.cells #[.bool false, .slice none 0 0] 25)).heap.size := by simp
 clear hv hu hj hk hlx hly
 go_enter Tryz.func59, Tryz.ntmps59
 go_wp2_with fail
 generalize ((w.alloc _).alloc _).alloc _ = W at *
 have HS := Lib.hid (fun w' (h : KeepBut W (w.heap.size + 1 + 1) w') => And.intro (h.cells b1 (by omega)) (h.cells b2 (by omega)))
 obtain ⟨c1, c2, _, _⟩ := b1.two
 obtain ⟨c3, c4, _, _⟩ := b2.two
 obtain ⟨c5, c6, f5, f6⟩ := b3.two
 go_region_held3 (fun w' => (w'.cell? ⟨w.heap.size, 0, none⟩ = some (.bool s) ∧ w'.cell? ⟨w.heap.size, 1, none⟩ = some (.slice p n c)) ∧ w'.cell? ⟨w.heap.size + 1, 0, none⟩ = some (.bool t) ∧ w'.cell? ⟨w.heap.size + 1, 1, none⟩ = some (.slice q m d)) ((refine HS.out _ ?_; (with_reducible (repeat (first | exact KeepBut.refl _ _ | refine KeepBut.drew ?_ | refine KeepBut.drewN ?_ _ | refine KeepBut.alloc ?_ _ | refine KeepBut.set ?_ _ | refine KeepBut.thn ?_ (by assumption) | refine KeepBut.setNew ?_ (by first | omega | (simp; done) | (simp; omega)) _))))) (first
  | (go_at_call_of 56 (Value.slice p n c); refine (bof_any _ X j w _ HV.out (by (with_reducible (repeat (first | assumption | exact Beh.refl _ | refine Beh.drew ?_ | refine Beh.drewN ?_ _ | refine Beh.alloc ?_ _ | refine Beh.thn ?_ (by assumption) | refine Beh.setCell ?_ (by first | omega | (simp; done) | (simp; omega)) _))))).mono ?_; rintro e w1 ⟨u1, rfl, hu1, hb1⟩; obtain ⟨s1, p1, n1, k1, rfl⟩ := hu1.form4; have hf1 := field_num s1 p1 n1 k1; have hf2 := field_mag s1 p1 n1 k1)
  | (go_at_call_of 56 (Value.slice q m d); refine (bof_any _ Y k w _ HU.out (by (with_reducible (repeat (first | assumption | exact Beh.refl _ | refine Beh.drew ?_ | refine Beh.drewN ?_ _ | refine Beh.alloc ?_ _ | refine Beh.thn ?_ (by assumption) | refine Beh.setCell ?_ (by first | omega | (simp; done) | (simp; omega)) _))))).mono ?_; rintro e w2 ⟨u2, rfl, hu2, hb2⟩; obtain ⟨s2, p2, n2, k2, rfl⟩ := hu2.form4; have hf3 := field_num s2 p2 n2 k2; have hf4 := field_mag s2 p2 n2 k2; have HP1 := Lib.hid hu1.parts; have HP2 := Lib.hid hu2.parts)
  | (go_at_call 94; refine (ngcd_any _ [limbs X.natAbs, limbs Y.natAbs] _ (RdRows.two (heap_at rfl) (by rw [← HP1.out.1]; exact HP1.out.2.1.below (by show Beh _ _; (with_reducible (repeat (first | assumption | exact Beh.refl _ | refine Beh.drew ?_ | refine Beh.drewN ?_ _ | refine Beh.alloc ?_ _ | refine Beh.thn ?_ (by assumption) | refine Beh.setCell ?_ (by first | omega | (simp; done) | (simp; omega)) _))))) (by rw [← HP2.out.1]; exact HP2.out.2.1.below (by show Beh _ _; (with_reducible (repeat (first | assumption | exact Beh.refl _ | refine Beh.drew ?_ | refine Beh.drewN ?_ _ | refine Beh.alloc ?_ _ | refine Beh.thn ?_ (by assumption) | refine Beh.setCell ?_ (by first | omega | (simp; done) | (simp; omega)) _)))))) (fun xs hx => by rcases List.mem_cons.1 hx with rfl | hx; exact ⟨limbs_lim _, HJ.out⟩; obtain rfl := List.mem_singleton.1 hx; exact ⟨limbs_lim _, HK.out⟩) (by show 2 ≤ 1048576; omega)).mono ?_; rintro e w3 ⟨v3, rfl, ho3, hb3⟩; replace hb3 : Beh _ w3 := hb3; rw [ngcd_two] at ho3; obtain ⟨p3, k3, rfl, _, _, _⟩ := Own.form ho3)
  | (go_at_call 74; refine (signed_sg _ _ _ _ _).mono ?_; rintro e w4 ⟨sg, rfl, hsg, hb4⟩; obtain ⟨e5, e6, g5, g6⟩ := (Cls.beh (w' := w4) b3 (by (with_reducible (repeat (first | assumption | exact Beh.refl _ | refine Beh.drew ?_ | refine Beh.drewN ?_ _ | refine Beh.alloc ?_ _ | refine Beh.thn ?_ (by assumption) | refine Beh.setCell ?_ (by first | omega | (simp; done) | (simp; omega)) _))))).two)
  | fail)
 have FC := (Cls.beh (w' := w4) b3 (by (with_reducible (repeat (first | assumption | exact Beh.refl _ | refine Beh.drew ?_ | refine Beh.drewN ?_ _ | refine Beh.alloc ?_ _ | refine Beh.thn ?_ (by assumption) | refine Beh.setCell ?_ (by first | omega | (simp; done) | (simp; omega)) _)))))
 have FB : Beh w w4 := (by (with_reducible (repeat (first | assumption | exact Beh.refl _ | refine Beh.drew ?_ | refine Beh.drewN ?_ _ | refine Beh.alloc ?_ _ | refine Beh.thn ?_ (by assumption) | refine Beh.setCell ?_ (by first | omega | (simp; done) | (simp; omega)) _))))
 have FZ : Beh w (w2.alloc (.cells #[.slice p1 n1 k1, .slice p2 n2 k2] 23)) := (by (with_reducible (repeat (first | assumption | exact Beh.refl _ | refine Beh.drew ?_ | refine Beh.drewN ?_ _ | refine Beh.alloc ?_ _ | refine Beh.thn ?_ (by assumption) | refine Beh.setCell ?_ (by first | omega | (simp; done) | (simp; omega)) _))))
 generalize hL : (limbs (X.natAbs.gcd Y.natAbs)).length = L at *
 have HL := Lib.hid hL
 have HO := Lib.hid (Own.set2 (Own.below ho3 hb4) FC (by decide) (.bool sg) (.slice p3 L k3))
 clear ho3 hL
 have FC2 := FC.set2 (.bool (sg)) (.slice p3 (L) k3)
 have FB2 := Beh.set2 FB (b := w.heap.size + 1 + 1) (by omega) (.bool (sg)) (.slice p3 (L) k3)
 go_wp2
 generalize (w4.setCell ⟨w.heap.size + 1 + 1, 0, none⟩ (.bool (sg))).setCell ⟨w.heap.size + 1 + 1, 1, none⟩ (.slice p3 (L) k3) = wz at *
 obtain ⟨fd1, fd2, _, _⟩ := FC2.two
 refine bodyPost_ret (v := .agg #[.bool (sg), .slice p3 (L) k3]) (by simp [results, Tryz.results59, go_sem, fd1, fd2]) rfl (hR'.out _ _ ?_)
 rw [hsg.out]
 refine ⟨_, rfl, IntOwn.of (m := X.natAbs.gcd Y.natAbs) (by rw [HL.out]; exact Own.mono HO.out FZ.size) HL.out.symm _ ?_, FB2⟩
 simp [Int.gcd]
end Go.Proofs.YtofdiijioejljaaGreat
/- What the big layer's DivMod computes: floor division. -/
namespace Go.Proofs.YtofdiijioejljaaGreat
open Go.RowKit

theorem boxes4 (w : World) (t t' t'' t3 : TypeId) (cs cs' cs'' cs3 : Array Value) : Cls ((((w.alloc (.cells cs t)).alloc (.cells cs' t')).alloc (.cells cs'' t'')).alloc (.cells cs3 t3)) w.heap.size t cs ∧ Cls ((((w.alloc (.cells cs t)).alloc (.cells cs' t')).alloc (.cells cs'' t'')).alloc (.cells cs3 t3)) (w.heap.size + 1) t' cs' ∧
  Cls ((((w.alloc (.cells cs t)).alloc (.cells cs' t')).alloc (.cells cs'' t'')).alloc (.cells cs3 t3)) (w.heap.size + 2) t'' cs'' ∧ Cls ((((w.alloc (.cells cs t)).alloc (.cells cs' t')).alloc (.cells cs'' t'')).alloc (.cells cs3 t3)) (w.heap.size + 3) t3 cs3 ∧
  Beh w ((((w.alloc (.cells cs t)).alloc (.cells cs' t')).alloc (.cells cs'' t'')).alloc (.cells cs3 t3)) :=
 ⟨(boxes3 w t t' t'' cs cs' cs'').1.alloc _, (boxes3 w t t' t'' cs cs' cs'').2.1.alloc _, (boxes3 w t t' t'' cs cs' cs'').2.2.1.alloc _, Cls.newAt (by simp) _ _, (boxes3 w t t' t'' cs cs' cs'').2.2.2.alloc _⟩
def FloorDiv (w w' : World) (X Y : Int) (e : Ending) : Prop :=
 (Y = 0 ∧ ∃ v u, e = .returned (.tuple #[v, u, .int .i64 20]) ∧ IntOwn w' w.heap.size v 0 ∧ IntOwn w' w.heap.size u 0) ∨
 (Y ≠ 0 ∧ ∃ v u, e = .returned (.tuple #[v, u, .int .i64 0]) ∧ IntOwn w' w.heap.size v (X.fdiv Y) ∧ IntOwn w' w.heap.size u (X.fmod Y))

def DivAdj (a b : Nat) (s t : Bool) (M R : Nat) : Prop := ((s = t ∨ a % b = 0) ∧ M = a / b ∧ R = a % b) ∨ (s ≠ t ∧ a % b ≠ 0 ∧ M = a / b + 1 ∧ R = b - a % b)
theorem floor_law {X Y : Int} {a b M R : Nat} {s t : Bool} (hX : X = if s = true then -(a : Int) else a) (hY : Y = if t = true then -(b : Int) else b) (hb : b ≠ 0) (h : DivAdj a b s t M R) :
  X.fdiv Y = (if (!(s == t)) = true then -(M : Int) else M) ∧ X.fmod Y = (if t = true then -(R : Int) else R) := by
 unfold DivAdj at h
 have e := Nat.div_add_mod a b
 have hlt := Nat.mod_lt a (Nat.pos_of_ne_zero hb)
 generalize a / b = q at *
 generalize a % b = r at *
 have e' : (a : Int) = (b : Int) * (q : Int) + (r : Int) := by rw [← e]; simp
 rw [e'] at hX
 have hR : R ≤ b := by rcases h with ⟨_, _, rfl⟩ | ⟨_, _, _, rfl⟩ <;> omega
 cases t
 ·have hp : 0 < Y := by simp at hY; omega
  refine (Int.fdiv_fmod_unique hp).2 ?_
  rcases h with ⟨h1, rfl, rfl⟩ | ⟨h1, h2, rfl, rfl⟩
  ·cases s
   ·simp at hX hY ⊢
    subst hX; subst hY
    omega
   ·simp at h1 hX hY ⊢
    subst hX; subst hY; subst h1
    simp only [Int.mul_neg]
    omega
  ·cases s
   ·exact absurd rfl h1
   ·simp at hX hY ⊢
    subst hX; subst hY
    rw [Int.natCast_sub (by omega)]
    simp only [Int.mul_add, Int.mul_neg, Int.mul_one, Int.neg_add]
    omega
 ·have hp : Y < 0 := by simp at hY; omega
  refine (Int.fdiv_fmod_unique' hp).2 ?_
  rcases h with ⟨h1, rfl, rfl⟩ | ⟨h1, h2, rfl, rfl⟩
  ·cases s
   ·simp at h1 hX hY ⊢
    subst hX; subst hY; subst h1
    simp only [Int.neg_mul_neg]
    omega
   ·simp at hX hY ⊢
    subst hX; subst hY
    simp only [Int.neg_mul]
    omega
  ·cases s
   ·simp at hX hY ⊢
    subst hX; subst hY
    rw [Int.natCast_sub (by omega)]
    simp only [Int.mul_add, Int.neg_mul, Int.mul_neg, Int.mul_one, Int.neg_add, Int.neg_neg]
    omega
   ·exact absurd rfl h1

set_option maxRecDepth 100000 in
set_option maxHeartbeats 4000000 in
theorem bdivmod_any (v u : Value) (X Y : Int) (j k : Nat) (w : World) (hv : IntIn w v X j) (hu : IntIn w u Y k) (hj : j ≤ 536870912) (hk : k ≤ 536870912) :
  Calls Tryz.prog 98 #[v, u] w fun e w' => FloorDiv w w' X Y e ∧ Beh w w' := by
 obtain ⟨s, p, n, c, rfl⟩ := hv.form
 obtain ⟨t, q, m, d, rfl⟩ := hu.form
 refine walk_q fun R' hR' => ?_
 obtain ⟨b1, b2, b3, b4, hbW⟩ := boxes4 w 25 25 25 25 #[.bool s, .slice p n c] #[.bool t, .slice q m d] #[.bool false, .slice none 0 0] #[.bool false, .slice none 0 0]
 have hlx := hv.len
 have hly := hu.len
 have HJ := Lib.hid (Nat.le_trans hlx hj)
 have HK := Lib.hid (Nat.le_trans hly hk)
 have HV := Lib.hid hv
 have HU := Lib.hid hu
 have hsz : w.heap.size + 4 ≤ ((((w.alloc (.cells #[.bool s, .slice p n c] 25)).alloc (.cells #[.bool t, .slice q m d] 25)).alloc (.cells #[.bool false, .slice none 0 0] 25)).alloc (.cells #[.bool false, .slice none 0 0] 25)).heap.size := by simp
 clear hv hu hj hk hlx hly
 go_enter Tryz.func98, Tryz.ntmps98
 go_wp2_with fail
 generalize (((w.alloc _).alloc _).alloc _).alloc _ = W at *
 go_cut [7, 8] (fun x5 x6 wc => TwoNums w W wc 91 X Y x5 x6)
 case first =>
  have HS := Lib.hid (fun w' (h : KeepBut W (w.heap.size + 1 + 1) w') => And.intro (h.cells b1 (by omega)) (h.cells b2 (by omega)))
  obtain ⟨c1, c2, _, _⟩ := b1.two
  obtain ⟨c3, c4, _, _⟩ := b2.two
  go_region_held3 (fun w' => (w'.cell? ⟨w.heap.size, 0, none⟩ = some (.bool s) ∧ w'.cell? ⟨w.heap.size, 1, none⟩ = some (.slice p n c)) ∧ w'.cell? ⟨w.heap.size + 1, 0, none⟩ = some (.bool t) ∧ w'.cell? ⟨w.heap.size + 1, 1, none⟩ = some (.slice q m d)) ((refine HS.out _ ?_; (with_reducible (repeat (first | exact KeepBut.refl _ _ | refine KeepBut.drew ?_ | refine KeepBut.drewN ?_ _ | refine KeepBut.alloc ?_ _ | refine KeepBut.set ?_ _ | refine KeepBut.thn ?_ (by assumption) | refine KeepBut.setNew ?_ (by first | omega | (simp; done) | (simp; omega)) _))))) (first
   | (go_at_call_of 56 (Value.slice p n c); refine (bof_any _ X j w _ HV.out (by (with_reducible (repeat (first | assumption | exact Beh.refl _ | refine Beh.drew ?_ | refine Beh.drewN ?_ _ | refine Beh.alloc ?_ _ | refine Beh.thn ?_ (by assumption) | refine Beh.setCell ?_ (by first | omega | (simp; done) | (simp; omega)) _))))).mono ?_; rintro e w1 ⟨u1, rfl, hu1, hb1⟩; obtain ⟨s1, p1, n1, k1, rfl⟩ := hu1.form4; have hs1 := hb1.size; (try simp at hs1); (try (have q1 := Cls.beh (Cls.drew (Cls.new _ _ #[_, _])) hb1; (try simp at q1); obtain ⟨q1a, q1b, q1c, q1d⟩ := q1.two; have q1l := q1.lt; have q1n := Nat.ne_of_lt q1l; have q1m := Nat.ne_of_gt q1l)); (try (have q2 := Cls.beh (Cls.drew (Cls.alloc (Cls.new _ _ #[_, _]) _)) hb1; (try simp at q2); obtain ⟨q2a, q2b, q2c, q2d⟩ := q2.two; have q2l := q2.lt; have q2n := Nat.ne_of_lt q2l; have q2m := Nat.ne_of_gt q2l)))
   | (go_at_call_of 56 (Value.slice q m d); refine (bof_any _ Y k w _ HU.out (by (with_reducible (repeat (first | assumption | exact Beh.refl _ | refine Beh.drew ?_ | refine Beh.drewN ?_ _ | refine Beh.alloc ?_ _ | refine Beh.thn ?_ (by assumption) | refine Beh.setCell ?_ (by first | omega | (simp; done) | (simp; omega)) _))))).mono ?_; rintro e w2 ⟨u2, rfl, hu2, hb2⟩; obtain ⟨s2, p2, n2, k2, rfl⟩ := hu2.form4; have hs2 := hb2.size; (try simp at hs2); (try (have q3 := Cls.beh (Cls.new _ _ #[_, _]) hb2; (try simp at q3); obtain ⟨q3a, q3b, q3c, q3d⟩ := q3.two; have q3l := q3.lt; have q3n := Nat.ne_of_lt q3l; have q3m := Nat.ne_of_gt q3l)); (try (have q4 := Cls.beh (Cls.alloc (Cls.new _ _ #[_, _]) _) hb2; (try simp at q4); obtain ⟨q4a, q4b, q4c, q4d⟩ := q4.two; have q4l := q4.lt; have q4n := Nat.ne_of_lt q4l; have q4m := Nat.ne_of_gt q4l)); (try (have q5 := Cls.beh q1 hb2; (try simp at q5); obtain ⟨q5a, q5b, q5c, q5d⟩ := q5.two; have q5l := q5.lt; have q5n := Nat.ne_of_lt q5l; have q5m := Nat.ne_of_gt q5l)); (try (have q6 := Cls.beh q2 hb2; (try simp at q6); obtain ⟨q6a, q6b, q6c, q6d⟩ := q6.two; have q6l := q6.lt; have q6n := Nat.ne_of_lt q6l; have q6m := Nat.ne_of_gt q6l)); (try (have q7 := Cls.beh (Cls.alloc q1 _) hb2; (try simp at q7); obtain ⟨q7a, q7b, q7c, q7d⟩ := q7.two; have q7l := q7.lt; have q7n := Nat.ne_of_lt q7l; have q7m := Nat.ne_of_gt q7l)))
   | fail)
  all_goals
   go_wp2
   go_meet
   refine ⟨_, _, s1, p1, n1, k1, s2, p2, n2, k2, rfl, rfl, ?_, ?_, hu1, hu2, ?_⟩
   ·(with_reducible (repeat (first | assumption | exact Cls.newAt (by first | rfl | (simp; done)) _ _ | refine Cls.alloc ?_ _ | refine Cls.drew ?_ | refine Cls.set2 (u := .bool false) (v := .slice none 0 0) ?_ _ _ | refine Cls.other2 ?_ (by first | omega | (simp; omega)) _ _ | refine Cls.beh ?_ (by assumption))))
   ·(with_reducible (repeat (first | assumption | exact Cls.newAt (by first | rfl | (simp; done)) _ _ | refine Cls.alloc ?_ _ | refine Cls.drew ?_ | refine Cls.set2 (u := .bool false) (v := .slice none 0 0) ?_ _ _ | refine Cls.other2 ?_ (by first | omega | (simp; omega)) _ _ | refine Cls.beh ?_ (by assumption))))
   ·(with_reducible (repeat (first | assumption | exact Beh.refl _ | refine Beh.drew ?_ | refine Beh.drewN ?_ _ | refine Beh.alloc ?_ _ | refine Beh.thn ?_ (by assumption) | refine Beh.setCell ?_ (by first | omega | (simp; done) | (simp; omega)) _)))
 case rest =>
  obtain ⟨g, h, s1, p1, n1, k1, s2, p2, n2, k2, rfl, rfl, B5, B6, hu1, hu2, hbc⟩ := hcut
  obtain ⟨hn1, hr1, hX⟩ := hu1.parts
  obtain ⟨hn2, hr2, hY⟩ := hu2.parts
  have B3 := b3.beh hbc
  have B4 := b4.beh hbc
  have hbw : Beh w wc := hbW.thn hbc
  have HR1 := Lib.hid (hr1.below hbw)
  have HR2 := Lib.hid (hr2.below hbw)
  have HN1 := Lib.hid hn1
  have HN2 := Lib.hid hn2
  have HX := Lib.hid hX
  have HY := Lib.hid hY
  have HM1 : Hid (n1 ≤ 536870912) := by show _ ≤ _; rw [hn1]; exact HJ.out
  have HM2 : Hid (n2 ≤ 536870912) := by show _ ≤ _; rw [hn2]; exact HK.out
  have hzs : w.heap.size + 4 ≤ wc.heap.size := Nat.le_trans hsz hbc.size
  clear b1 b2 b3 b4 hbc hbW hu1 hu2 hr1 hr2 hX hY hn1 hn2 hsz
  obtain ⟨c1, c2, _, _⟩ := B5.two
  obtain ⟨c3, c4, _, _⟩ := B6.two
  go_wp2_with fail
  refine (ndivmod_any _ _ n1 n2 _ _ _ HR1.out HR2.out (limbs_lim _) (limbs_lim _) HM1.out HM2.out).mono ?_
  rw [nval_limbs, nval_limbs]
  rintro e w3 ⟨hd, hb3⟩
  replace hb3 : Beh _ w3 := hb3
  have F5 := B5.beh hb3
  have F6 := B6.beh hb3
  have F3 := B3.beh hb3
  have F4 := B4.beh hb3
  have hbw3 := hbw.thn hb3
  obtain ⟨e1, e2, _, _⟩ := F5.two
  obtain ⟨e3, e4, _, _⟩ := F6.two
  obtain ⟨e5, e6, f5, f6⟩ := F3.two
  obtain ⟨e7, e8, f7, f8⟩ := F4.two
  rcases hd with ⟨h0, rfl⟩ | ⟨h0, vq, vr, rfl, hoq, hor⟩
  ·have hY0 : Y = 0 := by have := HY.out; split at this <;> omega
   have G3 := (F3.set2 (.bool false) (.slice none 0 0)).other2 (b' := w.heap.size + 3) (by omega) (.bool false) (.slice none 0 0)
   have G4 := (F4.other2 (b' := w.heap.size + 2) (by omega) (.bool false) (.slice none 0 0)).set2 (.bool false) (.slice none 0 0)
   have hbz := (hbw3.set2 (b := w.heap.size + 2) (by omega) (.bool false) (.slice none 0 0)).set2 (b := w.heap.size + 3) (by omega) (.bool false) (.slice none 0 0)
   clear HX HY HN1 HN2 h0
   go_wp2
   generalize (((w3.setCell ⟨w.heap.size + 1 + 1, 0, none⟩ (.bool false)).setCell ⟨w.heap.size + 1 + 1, 1, none⟩ (.slice none 0 0)).setCell ⟨w.heap.size + 1 + 1 + 1, 0, none⟩ (.bool false)).setCell ⟨w.heap.size + 1 + 1 + 1, 1, none⟩ (.slice none 0 0) = wz at *
   obtain ⟨d1, d2, _, _⟩ := G3.two
   obtain ⟨d3, d4, _, _⟩ := G4.two
   exact bodyPost_ret (v := .tuple #[.agg #[.bool false, .slice none 0 0], .agg #[.bool false, .slice none 0 0], .int .i64 20]) (by simp [results, Tryz.results98, go_sem, d1, d2, d3, d4]) rfl (hR'.out _ _ ⟨.inl ⟨hY0, _, _, rfl, IntOwn.zero _ _, IntOwn.zero _ _⟩, hbz⟩)
  ·obtain ⟨pq, kq, rfl, _, _, _⟩ := Own.form hoq
   obtain ⟨pr, kr, rfl, _, _, _⟩ := Own.form hor
   generalize hlq : (limbs (X.natAbs / Y.natAbs)).length = lq at *
   generalize hlr : (limbs (X.natAbs % Y.natAbs)).length = lr at *
   have HLQ := Lib.hid hlq.symm
   have HLR := Lib.hid hlr.symm
   have HOQ := Lib.hid hoq
   have HOR := Lib.hid hor
   have H0 := Lib.hid h0
   clear hoq hor hlq hlr h0 e2 e6 e8 e5 e7 f5 f6 f7 f8 c1 c2 c3 c4
   by_cases hst : s1 = s2
   ·subst hst
    clear e4
    go_wp2_with fail
    have hg3 : g ≠ w.heap.size + 1 + 1 := Cls.apart F5 F3 (by decide)
    have hg4 : g ≠ w.heap.size + 1 + 1 + 1 := Cls.apart F5 F4 (by decide)
    have hh3 : h ≠ w.heap.size + 1 + 1 := Cls.apart F6 F3 (by decide)
    have hh4 : h ≠ w.heap.size + 1 + 1 + 1 := Cls.apart F6 F4 (by decide)
    have HS := Lib.hid (fun w' (hk : KeepBut2 w3 (w.heap.size + 1 + 1) (w.heap.size + 1 + 1 + 1) w') => And.intro ((hk.cls F5 hg3 hg4).cell (j := 0) rfl) ((hk.cls F6 hh3 hh4).cell (j := 0) rfl))
    go_region_held3 (fun w' => w'.cell? ⟨g, 0, none⟩ = some (.bool s1) ∧ w'.cell? ⟨h, 0, none⟩ = some (.bool s1)) ((refine HS.out _ ?_; (with_reducible (repeat (first | exact KeepBut2.refl _ _ _ | refine KeepBut2.drew ?_ | refine KeepBut2.setA ?_ _ | refine KeepBut2.setB ?_ _ | refine KeepBut2.thn ?_ (by assumption)))))) (first
     | (go_at_call_of 74 (Value.slice pq lq kq); refine (signed_sg _ _ _ _ _).mono ?_; rintro e w6 ⟨sg, rfl, hsg, hb6⟩)
     | (go_at_call_of 74 (Value.slice pr lr kr); refine (signed_sg _ _ _ _ _).mono ?_; rintro e w7 ⟨sg2, rfl, hsg2, hb7⟩; obtain ⟨i1, i2, i3, i4⟩ := (Cls.beh (w' := w7) F3 (by (with_reducible (repeat (first | assumption | exact Beh.refl _ | refine Beh.drew ?_ | refine Beh.drewN ?_ _ | refine Beh.alloc ?_ _ | refine Beh.thn ?_ (by assumption) | refine Beh.setCell ?_ (by first | omega | (simp; done) | (simp; omega)) _))))).two; obtain ⟨j1, j2, j3, j4⟩ := (Cls.beh (w' := w7) F4 (by (with_reducible (repeat (first | assumption | exact Beh.refl _ | refine Beh.drew ?_ | refine Beh.drewN ?_ _ | refine Beh.alloc ?_ _ | refine Beh.thn ?_ (by assumption) | refine Beh.setCell ?_ (by first | omega | (simp; done) | (simp; omega)) _))))).two)
     | fail)
    have E3 := (Cls.beh (w' := w7) F3 (by (with_reducible (repeat (first | assumption | exact Beh.refl _ | refine Beh.drew ?_ | refine Beh.drewN ?_ _ | refine Beh.alloc ?_ _ | refine Beh.thn ?_ (by assumption) | refine Beh.setCell ?_ (by first | omega | (simp; done) | (simp; omega)) _)))))
    have E4 := (Cls.beh (w' := w7) F4 (by (with_reducible (repeat (first | assumption | exact Beh.refl _ | refine Beh.drew ?_ | refine Beh.drewN ?_ _ | refine Beh.alloc ?_ _ | refine Beh.thn ?_ (by assumption) | refine Beh.setCell ?_ (by first | omega | (simp; done) | (simp; omega)) _)))))
    have FW : Beh w3 w7 := (by (with_reducible (repeat (first | assumption | exact Beh.refl _ | refine Beh.drew ?_ | refine Beh.drewN ?_ _ | refine Beh.alloc ?_ _ | refine Beh.thn ?_ (by assumption) | refine Beh.setCell ?_ (by first | omega | (simp; done) | (simp; omega)) _))))
    have FB : Beh w w7 := (by (with_reducible (repeat (first | assumption | exact Beh.refl _ | refine Beh.drew ?_ | refine Beh.drewN ?_ _ | refine Beh.alloc ?_ _ | refine Beh.thn ?_ (by assumption) | refine Beh.setCell ?_ (by first | omega | (simp; done) | (simp; omega)) _))))
    have hoq := Own.below (HOQ).out FW
    have hor := Own.below (HOR).out FW
    have hoq2 := (Own.set2 (Own.set2 hoq E3 (by decide) (.bool sg) (.slice pq lq kq)) (E4.other2 (b' := w.heap.size + 1 + 1) (by omega) (.bool sg) (.slice pq lq kq)) (by decide) (.bool sg2) (.slice pr lr kr))
    have hor2 := (Own.set2 (Own.set2 hor E3 (by decide) (.bool sg) (.slice pq lq kq)) (E4.other2 (b' := w.heap.size + 1 + 1) (by omega) (.bool sg) (.slice pq lq kq)) (by decide) (.bool sg2) (.slice pr lr kr))
    have G3 := (E3.set2 (.bool sg) (.slice pq lq kq)).other2 (b' := w.heap.size + 1 + 1 + 1) (by omega) (.bool sg2) (.slice pr lr kr)
    have G4 := (E4.other2 (b' := w.heap.size + 1 + 1) (by omega) (.bool sg) (.slice pq lq kq)).set2 (.bool sg2) (.slice pr lr kr)
    have hbz := (FB.set2 (b := w.heap.size + 1 + 1) (by omega) (.bool sg) (.slice pq lq kq)).set2 (b := w.heap.size + 1 + 1 + 1) (by omega) (.bool sg2) (.slice pr lr kr)
    have HOQ2 := Lib.hid hoq2
    have HOR2 := Lib.hid hor2
    clear hoq hor hoq2 hor2
    go_wp2
    generalize (((w7.setCell ⟨w.heap.size + 1 + 1, 0, none⟩ (.bool sg)).setCell ⟨w.heap.size + 1 + 1, 1, none⟩ (.slice pq lq kq)).setCell ⟨w.heap.size + 1 + 1 + 1, 0, none⟩ (.bool sg2)).setCell ⟨w.heap.size + 1 + 1 + 1, 1, none⟩ (.slice pr lr kr) = wz at *
    obtain ⟨d1, d2, _, _⟩ := G3.two
    obtain ⟨d3, d4, _, _⟩ := G4.two
    have hfl := floor_law HX.out HY.out H0.out (.inl ⟨.inl rfl, rfl, rfl⟩)
    refine bodyPost_ret (v := .tuple #[.agg #[.bool sg, .slice pq lq kq], .agg #[.bool sg2, .slice pr lr kr], .int .i64 0]) (by simp [results, Tryz.results98, go_sem, d1, d2, d3, d4]) rfl (hR'.out _ _ ⟨.inr ⟨by have := H0.out; omega, _, _, rfl, ?_, ?_⟩, hbz⟩)
    ·rw [hsg.out]
     exact IntOwn.of (by rw [← (HLQ).out]; exact Own.mono HOQ2.out hbw.size) (HLQ).out _ (by simpa using hfl.1)
    ·rw [hsg2.out]
     exact IntOwn.of (by rw [← (HLR).out]; exact Own.mono HOR2.out hbw.size) (HLR).out _ (by simpa using hfl.2)
   ·obtain rfl : s2 = !s1 := by cases s1 <;> cases s2 <;> simp_all
    by_cases hr0 : X.natAbs % Y.natAbs = 0
    ·have hl0 : lr = 0 := by have := HLR.out; rw [hr0, limbs_zero] at this; exact this
     have HR0 := Lib.hid hr0
     subst hl0
     clear hr0 hst e4
     go_wp2_with fail
     have hg3 : g ≠ w.heap.size + 1 + 1 := Cls.apart F5 F3 (by decide)
     have hg4 : g ≠ w.heap.size + 1 + 1 + 1 := Cls.apart F5 F4 (by decide)
     have hh3 : h ≠ w.heap.size + 1 + 1 := Cls.apart F6 F3 (by decide)
     have hh4 : h ≠ w.heap.size + 1 + 1 + 1 := Cls.apart F6 F4 (by decide)
     have HS := Lib.hid (fun w' (hk : KeepBut2 w3 (w.heap.size + 1 + 1) (w.heap.size + 1 + 1 + 1) w') => And.intro ((hk.cls F5 hg3 hg4).cell (j := 0) rfl) ((hk.cls F6 hh3 hh4).cell (j := 0) rfl))
     go_region_held3 (fun w' => w'.cell? ⟨g, 0, none⟩ = some (.bool s1) ∧ w'.cell? ⟨h, 0, none⟩ = some (.bool (!s1))) ((refine HS.out _ ?_; (with_reducible (repeat (first | exact KeepBut2.refl _ _ _ | refine KeepBut2.drew ?_ | refine KeepBut2.setA ?_ _ | refine KeepBut2.setB ?_ _ | refine KeepBut2.thn ?_ (by assumption)))))) (first
      | (go_at_call_of 74 (Value.slice pq lq kq); refine (signed_sg _ _ _ _ _).mono ?_; rintro e w6 ⟨sg, rfl, hsg, hb6⟩)
      | (go_at_call_of 74 (Value.slice pr 0 kr); refine (signed_sg _ _ _ _ _).mono ?_; rintro e w7 ⟨sg2, rfl, hsg2, hb7⟩; obtain ⟨i1, i2, i3, i4⟩ := (Cls.beh (w' := w7) F3 (by (with_reducible (repeat (first | assumption | exact Beh.refl _ | refine Beh.drew ?_ | refine Beh.drewN ?_ _ | refine Beh.alloc ?_ _ | refine Beh.thn ?_ (by assumption) | refine Beh.setCell ?_ (by first | omega | (simp; done) | (simp; omega)) _))))).two; obtain ⟨j1, j2, j3, j4⟩ := (Cls.beh (w' := w7) F4 (by (with_reducible (repeat (first | assumption | exact Beh.refl _ | refine Beh.drew ?_ | refine Beh.drewN ?_ _ | refine Beh.alloc ?_ _ | refine Beh.thn ?_ (by assumption) | refine Beh.setCell ?_ (by first | omega | (simp; done) | (simp; omega)) _))))).two)
      | fail)
     have E3 := (Cls.beh (w' := w7) F3 (by (with_reducible (repeat (first | assumption | exact Beh.refl _ | refine Beh.drew ?_ | refine Beh.drewN ?_ _ | refine Beh.alloc ?_ _ | refine Beh.thn ?_ (by assumption) | refine Beh.setCell ?_ (by first | omega | (simp; done) | (simp; omega)) _)))))
     have E4 := (Cls.beh (w' := w7) F4 (by (with_reducible (repeat (first | assumption | exact Beh.refl _ | refine Beh.drew ?_ | refine Beh.drewN ?_ _ | refine Beh.alloc ?_ _ | refine Beh.thn ?_ (by assumption) | refine Beh.setCell ?_ (by first | omega | (simp; done) | (simp; omega)) _)))))
     have FW : Beh w3 w7 := (by (with_reducible (repeat (first | assumption | exact Beh.refl _ | refine Beh.drew ?_ | refine Beh.drewN ?_ _ | refine Beh.alloc ?_ _ | refine Beh.thn ?_ (by assumption) | refine Beh.setCell ?_ (by first | omega | (simp; done) | (simp; omega)) _))))
     have FB : Beh w w7 := (by (with_reducible (repeat (first | assumption | exact Beh.refl _ | refine Beh.drew ?_ | refine Beh.drewN ?_ _ | refine Beh.alloc ?_ _ | refine Beh.thn ?_ (by assumption) | refine Beh.setCell ?_ (by first | omega | (simp; done) | (simp; omega)) _))))
     have hoq := Own.below (HOQ).out FW
     have hor := Own.below (HOR).out FW
     have hoq2 := (Own.set2 (Own.set2 hoq E3 (by decide) (.bool sg) (.slice pq lq kq)) (E4.other2 (b' := w.heap.size + 1 + 1) (by omega) (.bool sg) (.slice pq lq kq)) (by decide) (.bool sg2) (.slice pr 0 kr))
     have hor2 := (Own.set2 (Own.set2 hor E3 (by decide) (.bool sg) (.slice pq lq kq)) (E4.other2 (b' := w.heap.size + 1 + 1) (by omega) (.bool sg) (.slice pq lq kq)) (by decide) (.bool sg2) (.slice pr 0 kr))
     have G3 := (E3.set2 (.bool sg) (.slice pq lq kq)).other2 (b' := w.heap.size + 1 + 1 + 1) (by omega) (.bool sg2) (.slice pr 0 kr)
     have G4 := (E4.other2 (b' := w.heap.size + 1 + 1) (by omega) (.bool sg) (.slice pq lq kq)).set2 (.bool sg2) (.slice pr 0 kr)
     have hbz := (FB.set2 (b := w.heap.size + 1 + 1) (by omega) (.bool sg) (.slice pq lq kq)).set2 (b := w.heap.size + 1 + 1 + 1) (by omega) (.bool sg2) (.slice pr 0 kr)
     have HOQ2 := Lib.hid hoq2
     have HOR2 := Lib.hid hor2
     clear hoq hor hoq2 hor2
     go_wp2
     generalize (((w7.setCell ⟨w.heap.size + 1 + 1, 0, none⟩ (.bool sg)).setCell ⟨w.heap.size + 1 + 1, 1, none⟩ (.slice pq lq kq)).setCell ⟨w.heap.size + 1 + 1 + 1, 0, none⟩ (.bool sg2)).setCell ⟨w.heap.size + 1 + 1 + 1, 1, none⟩ (.slice pr 0 kr) = wz at *
     obtain ⟨d1, d2, _, _⟩ := G3.two
     obtain ⟨d3, d4, _, _⟩ := G4.two
     have hfl := floor_law HX.out HY.out H0.out (.inl ⟨.inr HR0.out, rfl, rfl⟩)
     refine bodyPost_ret (v := .tuple #[.agg #[.bool sg, .slice pq lq kq], .agg #[.bool sg2, .slice pr 0 kr], .int .i64 0]) (by simp [results, Tryz.results98, go_sem, d1, d2, d3, d4]) rfl (hR'.out _ _ ⟨.inr ⟨by have := H0.out; omega, _, _, rfl, ?_, ?_⟩, hbz⟩)
     ·rw [hsg.out]
      exact IntOwn.of (by rw [← (HLQ).out]; exact Own.mono HOQ2.out hbw.size) (HLQ).out _ (by simpa using hfl.1)
     ·rw [hsg2.out]
      exact IntOwn.of (by rw [← (HLR).out]; exact Own.mono HOR2.out hbw.size) (HLR).out _ (by simpa using hfl.2)
    ·have hlp : 0 < lr := by have := HLR.out; have := limbs_len_pos hr0; omega
     have hpi : (0 : Int) < (lr : Int) := by omega
     have HR0 := Lib.hid hr0
     have HML : Hid (lq ≤ 536870912) := by show _ ≤ _; rw [HLQ.out]; exact Nat.le_trans (limbs_len_mono (Nat.div_le_self _ _)) HJ.out
     clear hr0 hst
     go_wp2_with fail
     refine (add_any _ _ lq 1 _ [1] _ ((Rd.own HOQ.out).alloc _) (Rd.lit1 rfl) (limbs_lim _) (Lim.cons (by omega) Lim.nil) (by have := HML.out; omega) (by omega)).mono ?_
     rintro e w4 ⟨v4, rfl, ho4, hb4⟩
     replace hb4 : Beh _ w4 := hb4
     rw [nval_limbs, show nval [1] = 1 by rfl] at ho4
     obtain ⟨pm, cm, rfl, _, _, _⟩ := Own.form ho4
     generalize hnm : (limbs (X.natAbs / Y.natAbs + 1)).length = nm at *
     have HLM := Lib.hid hnm.symm
     have hb34 : Beh w3 w4 := ((Beh.refl w3).alloc _).thn hb4
     have HO4 := Lib.hid (Own.mono ho4 (show w3.heap.size ≤ _ by simp))
     have HOR4 := Lib.hid (Own.below HOR.out hb34)
     have HY4 := Lib.hid (HR2.out.below (hb3.thn hb34))
     obtain ⟨i1, i2, _, _⟩ := (F6.beh hb34).two
     clear ho4 hnm hb4
     go_wp2_with fail
     refine (sub_any _ _ n2 lr _ _ _ HY4.out (Rd.own HOR4.out) (limbs_lim _) (limbs_lim _) (by have := HM2.out; omega)).mono ?_
     rintro e w5 ⟨⟨h, _⟩ | ⟨_, v5, rfl, ho5⟩, hb5⟩
     ·rw [nval_limbs, nval_limbs] at h; exact absurd h (by have := Nat.mod_lt X.natAbs (Nat.pos_of_ne_zero H0.out); omega)
     replace hb5 : Beh _ w5 := hb5
     rw [nval_limbs, nval_limbs] at ho5
     obtain ⟨pn, cn, rfl, _, _, _⟩ := Own.form ho5
     generalize hnn : (limbs (Y.natAbs - X.natAbs % Y.natAbs)).length = nn at *
     have HLN := Lib.hid hnn.symm
     have hb35 : Beh w3 w5 := hb34.thn hb5
     have HOM := Lib.hid (Own.mono (Own.below HO4.out hb5) hb3.size)
     have HON := Lib.hid (Own.mono ho5 (Nat.le_trans hb3.size hb34.size))
     have T3 := F3.beh hb35
     have T4 := F4.beh hb35
     have T5 := F5.beh hb35
     have T6 := F6.beh hb35
     have hbw5 := hbw3.thn hb35
     clear ho5 hnn hb5 F3 F4 F5 F6 hb34 hb35 hb3 hbw3 HOQ HOR HO4 HOR4 HY4 i1 i2
     obtain ⟨e1, _, _, _⟩ := T5.two
     obtain ⟨e3, _, _, _⟩ := T6.two
     go_wp2_with fail
     have hg3 : g ≠ w.heap.size + 1 + 1 := Cls.apart T5 T3 (by decide)
     have hg4 : g ≠ w.heap.size + 1 + 1 + 1 := Cls.apart T5 T4 (by decide)
     have hh3 : h ≠ w.heap.size + 1 + 1 := Cls.apart T6 T3 (by decide)
     have hh4 : h ≠ w.heap.size + 1 + 1 + 1 := Cls.apart T6 T4 (by decide)
     have HS := Lib.hid (fun w' (hk : KeepBut2 w5 (w.heap.size + 1 + 1) (w.heap.size + 1 + 1 + 1) w') => And.intro ((hk.cls T5 hg3 hg4).cell (j := 0) rfl) ((hk.cls T6 hh3 hh4).cell (j := 0) rfl))
     go_region_held3 (fun w' => w'.cell? ⟨g, 0, none⟩ = some (.bool s1) ∧ w'.cell? ⟨h, 0, none⟩ = some (.bool (!s1))) ((refine HS.out _ ?_; (with_reducible (repeat (first | exact KeepBut2.refl _ _ _ | refine KeepBut2.drew ?_ | refine KeepBut2.setA ?_ _ | refine KeepBut2.setB ?_ _ | refine KeepBut2.thn ?_ (by assumption)))))) (first
      | (go_at_call_of 74 (Value.slice pm nm cm); refine (signed_sg _ _ _ _ _).mono ?_; rintro e w6 ⟨sg, rfl, hsg, hb6⟩)
      | (go_at_call_of 74 (Value.slice pn nn cn); refine (signed_sg _ _ _ _ _).mono ?_; rintro e w7 ⟨sg2, rfl, hsg2, hb7⟩; obtain ⟨i1, i2, i3, i4⟩ := (Cls.beh (w' := w7) T3 (by (with_reducible (repeat (first | assumption | exact Beh.refl _ | refine Beh.drew ?_ | refine Beh.drewN ?_ _ | refine Beh.alloc ?_ _ | refine Beh.thn ?_ (by assumption) | refine Beh.setCell ?_ (by first | omega | (simp; done) | (simp; omega)) _))))).two; obtain ⟨j1, j2, j3, j4⟩ := (Cls.beh (w' := w7) T4 (by (with_reducible (repeat (first | assumption | exact Beh.refl _ | refine Beh.drew ?_ | refine Beh.drewN ?_ _ | refine Beh.alloc ?_ _ | refine Beh.thn ?_ (by assumption) | refine Beh.setCell ?_ (by first | omega | (simp; done) | (simp; omega)) _))))).two)
      | fail)
     have E3 := (Cls.beh (w' := w7) T3 (by (with_reducible (repeat (first | assumption | exact Beh.refl _ | refine Beh.drew ?_ | refine Beh.drewN ?_ _ | refine Beh.alloc ?_ _ | refine Beh.thn ?_ (by assumption) | refine Beh.setCell ?_ (by first | omega | (simp; done) | (simp; omega)) _)))))
     have E4 := (Cls.beh (w' := w7) T4 (by (with_reducible (repeat (first | assumption | exact Beh.refl _ | refine Beh.drew ?_ | refine Beh.drewN ?_ _ | refine Beh.alloc ?_ _ | refine Beh.thn ?_ (by assumption) | refine Beh.setCell ?_ (by first | omega | (simp; done) | (simp; omega)) _)))))
     have FW : Beh w5 w7 := (by (with_reducible (repeat (first | assumption | exact Beh.refl _ | refine Beh.drew ?_ | refine Beh.drewN ?_ _ | refine Beh.alloc ?_ _ | refine Beh.thn ?_ (by assumption) | refine Beh.setCell ?_ (by first | omega | (simp; done) | (simp; omega)) _))))
     have FB : Beh w w7 := (by (with_reducible (repeat (first | assumption | exact Beh.refl _ | refine Beh.drew ?_ | refine Beh.drewN ?_ _ | refine Beh.alloc ?_ _ | refine Beh.thn ?_ (by assumption) | refine Beh.setCell ?_ (by first | omega | (simp; done) | (simp; omega)) _))))
     have hoq := Own.below (HOM).out FW
     have hor := Own.below (HON).out FW
     have hoq2 := (Own.set2 (Own.set2 hoq E3 (by decide) (.bool sg) (.slice pm nm cm)) (E4.other2 (b' := w.heap.size + 1 + 1) (by omega) (.bool sg) (.slice pm nm cm)) (by decide) (.bool sg2) (.slice pn nn cn))
     have hor2 := (Own.set2 (Own.set2 hor E3 (by decide) (.bool sg) (.slice pm nm cm)) (E4.other2 (b' := w.heap.size + 1 + 1) (by omega) (.bool sg) (.slice pm nm cm)) (by decide) (.bool sg2) (.slice pn nn cn))
     have G3 := (E3.set2 (.bool sg) (.slice pm nm cm)).other2 (b' := w.heap.size + 1 + 1 + 1) (by omega) (.bool sg2) (.slice pn nn cn)
     have G4 := (E4.other2 (b' := w.heap.size + 1 + 1) (by omega) (.bool sg) (.slice pm nm cm)).set2 (.bool sg2) (.slice pn nn cn)
     have hbz := (FB.set2 (b := w.heap.size + 1 + 1) (by omega) (.bool sg) (.slice pm nm cm)).set2 (b := w.heap.size + 1 + 1 + 1) (by omega) (.bool sg2) (.slice pn nn cn)
     have HOQ2 := Lib.hid hoq2
     have HOR2 := Lib.hid hor2
     clear hoq hor hoq2 hor2
     go_wp2
     generalize (((w7.setCell ⟨w.heap.size + 1 + 1, 0, none⟩ (.bool sg)).setCell ⟨w.heap.size + 1 + 1, 1, none⟩ (.slice pm nm cm)).setCell ⟨w.heap.size + 1 + 1 + 1, 0, none⟩ (.bool sg2)).setCell ⟨w.heap.size + 1 + 1 + 1, 1, none⟩ (.slice pn nn cn) = wz at *
     obtain ⟨d1, d2, _, _⟩ := G3.two
     obtain ⟨d3, d4, _, _⟩ := G4.two
     have hfl := floor_law HX.out HY.out H0.out (.inr ⟨by cases s1 <;> simp, HR0.out, rfl, rfl⟩)
     refine bodyPost_ret (v := .tuple #[.agg #[.bool sg, .slice pm nm cm], .agg #[.bool sg2, .slice pn nn cn], .int .i64 0]) (by simp [results, Tryz.results98, go_sem, d1, d2, d3, d4]) rfl (hR'.out _ _ ⟨.inr ⟨by have := H0.out; omega, _, _, rfl, ?_, ?_⟩, hbz⟩)
     ·rw [hsg.out]
      exact IntOwn.of (by rw [← (HLM).out]; exact Own.mono HOQ2.out hbw.size) (HLM).out _ (by simpa using hfl.1)
     ·rw [hsg2.out]
      exact IntOwn.of (by rw [← (HLN).out]; exact Own.mono HOR2.out hbw.size) (HLN).out _ (by simpa using hfl.2)
end Go.Proofs.YtofdiijioejljaaGreat
