/- What the reference's number layer computes: Right, plain, made, Cmp, Sign. -/
import Derived.Test.YtofdiijioejljaaGreatBigAll
import Derived.Test.YtofdiijioejljaaGreatRef01D
set_option linter.all false
namespace Go.Proofs.YtofdiijioejljaaGreat
open Go.RowKit

theorem rright_any (neg : Bool) (xs : List Nat) (v : Value) (w : World) (h : NumAt w v neg xs) :
  Calls Tryz.prog 90 #[v] w fun e w' => e = .returned (.bool (nright neg xs)) ∧ Beh w w' := by
 obtain ⟨p, c, rfl, hr, hl⟩ := h
 obtain ⟨p', c', hv, hnc, hcm, -⟩ := hr.u32
 simp only [Value.slice.injEq, true_and] at hv
 obtain ⟨rfl, rfl⟩ := hv
 refine walk_q fun R' hR' => ?_
 by_cases hx : xs = []
 ·subst hx
  simp only [List.length_nil, nright_nil] at *
  go_enter Tryz.func90, Tryz.ntmps90
  cases neg
  ·go_wp2
   exact hR'.out _ _ ⟨rfl, (Beh.refl w).alloc _⟩
  ·go_wp2
   exact hR'.out _ _ ⟨rfl, (Beh.refl w).alloc _⟩
 ·obtain ⟨m, hm⟩ : ∃ m, xs.length = m + 1 := ⟨xs.length - 1, by have := List.length_pos_iff.2 hx; omega⟩
  generalize hn : xs.length = n at *
  obtain ⟨b, off, x, rfl, hb, hxm, hc⟩ := hr.cellAt (k := m) (by omega)
  have h1 : nright neg xs = decide (x ≠ 0) := nright_last (by rw [hn, hm]; exact hxm)
  rw [h1] at hR'
  have hz : ((n : Int) == 0) = false := by rw [beq_eq_false_iff_ne]; omega
  have hp : (0 : Int) < (n : Int) := by omega
  have hw : IntKind.i64.wrap ((n : Int) - 1) = (m : Int) := by rw [IntWalk.i64_in _ (by omega)]; omega
  have hlt : (m : Int) < (n : Int) := by omega
  have HN := Lib.hid hn
  have hpn : 0 < n := by omega
  clear hx hm hn h1 hxm hr hl
  go_enter Tryz.func90, Tryz.ntmps90
  by_cases hx0 : x = 0
  ·subst hx0
   cases neg
   ·go_wp2
    exact hR'.out _ _ ⟨rfl, (Beh.refl w).alloc _⟩
   ·go_wp2
    exact hR'.out _ _ ⟨rfl, (Beh.refl w).alloc _⟩
  ·have hx1 : ((x : Int) != 0) = true := by rw [bne_iff_ne]; omega
   rw [decide_eq_true hx0] at hR'
   clear hx0
   cases neg
   ·go_wp2
    exact hR'.out _ _ ⟨rfl, (Beh.refl w).alloc _⟩
   ·go_wp2
    exact hR'.out _ _ ⟨rfl, (Beh.refl w).alloc _⟩
theorem rplain_any (v : Value) (X : Int) (k : Nat) (w0 w : World) (h : IntIn w0 v X k) (hb0 : Beh w0 w) :
  Calls Tryz.prog 109 #[v] w fun e w' => ∃ u, e = .returned u ∧ IntRd w0 u X ∧ Beh w w' := by
 obtain ⟨neg, xs, hn, rfl, hk⟩ := h
 refine walk_q fun R' hR' => ?_
 have HN := Lib.hid hn
 obtain ⟨p, c, rfl, hr, hl⟩ := hn
 clear hr
 go_enter Tryz.func109, Tryz.ntmps109
 go_wp2_with fail
 refine (rright_any neg xs _ _ ((HN.out.beh hb0).beh (((Beh.refl w).alloc _).alloc _))).mono ?_
 rintro e w1 ⟨rfl, hb1⟩
 obtain ⟨b1, b2, hbW⟩ := boxes2 w 33 33 #[.bool neg, .slice p xs.length c] #[.bool false, .slice none 0 0]
 obtain ⟨c1, c2, _, _⟩ := (b1.beh hb1).two
 obtain ⟨c3, c4, f3, f4⟩ := (b2.beh hb1).two
 have hbb : Beh w w1 := hbW.thn hb1
 cases hnr : nright neg xs
 ·have B2 := (b2.beh hb1).set2 (.bool false) (.slice none 0 0)
  have HB2 := hbb.set2 (b := w.heap.size + 1) (by omega) (.bool false) (.slice none 0 0)
  go_wp2
  generalize (w1.setCell ⟨w.heap.size + 1, 0, none⟩ (.bool false)).setCell ⟨w.heap.size + 1, 1, none⟩ (.slice none 0 0) = w2 at *
  obtain ⟨d1, d2, _, _⟩ := B2.two
  refine bodyPost_ret (v := .agg #[.bool false, .slice none 0 0]) (by simp [results, Tryz.results109, go_sem, d1, d2]) rfl (hR'.out _ _ ⟨_, rfl, ?_, HB2⟩)
  rw [numOf, if_neg (by simp [hnr])]
  exact IntRd.zero _
 ·have B2 := (b2.beh hb1).set2 (.bool neg) (.slice p xs.length c)
  have HB2 := hbb.set2 (b := w.heap.size + 1) (by omega) (.bool neg) (.slice p xs.length c)
  go_wp2
  generalize (w1.setCell ⟨w.heap.size + 1, 0, none⟩ (.bool neg)).setCell ⟨w.heap.size + 1, 1, none⟩ (.slice p xs.length c) = w2 at *
  obtain ⟨d1, d2, _, _⟩ := B2.two
  refine bodyPost_ret (v := .agg #[.bool neg, .slice p xs.length c]) (by simp [results, Tryz.results109, go_sem, d1, d2]) rfl (hR'.out _ _ ⟨_, rfl, ?_, HB2⟩)
  rw [numOf, if_pos hnr]
  obtain ⟨h1, h2⟩ := canon hl hnr
  have := HN.out
  show NumAt _ _ _ _
  rw [← h1, ← h2]
  exact this

set_option maxHeartbeats 1000000 in
theorem made_any (neg : Bool) (v : Value) (n : Nat) (xs : List Nat) (w : World) (hr : Rd w 1 v n (ints .u32 xs)) (hl : Lim xs) (hn : n ≤ 1073741824) :
  Calls Tryz.prog 107 #[.bool neg, v] w fun e w' => ∃ r, e = .returned r ∧ IntOwn w' w.heap.size r (if neg = true then -(nval xs : Int) else nval xs) ∧ Beh w w' := by
 obtain ⟨p, c, rfl, _, _, _⟩ := hr.u32
 have HR := Lib.hid hr
 have hc1 := Cls.new w 33 #[.bool false, .slice none 0 0]
 have hbW := (Beh.refl w).alloc (.cells #[.bool false, .slice none 0 0] 33)
 clear hr
 refine walk_q fun R' hR' => ?_
 go_enter Tryz.func107, Tryz.ntmps107
 go_wp2_with fail
 refine (trim01_any _ n xs _ (HR.out.below hbW) hl hn).mono ?_
 rintro e w1 ⟨v1, rfl, ho1, hb1⟩
 replace hb1 : Beh _ w1 := hb1
 obtain ⟨p1, k1, rfl, _, _, _⟩ := Own.form ho1
 generalize hL : (limbs (nval xs)).length = L at *
 have HL := Lib.hid hL
 have FC := hc1.beh hb1
 have FB := hbW.thn hb1
 obtain ⟨c1, c2, f1, f2⟩ := FC.two
 have ho2 := Own.mono ho1 hbW.size
 clear hL ho1
 cases neg
 ·have HO := Lib.hid (Own.set2 ho2 FC (by decide) (.bool false) (.slice p1 L k1))
  clear ho2
  have FC2 := FC.set2 (.bool (false)) (.slice p1 (L) k1)
  have FB2 := Beh.set2 FB (b := w.heap.size) (by omega) (.bool (false)) (.slice p1 (L) k1)
  go_wp2
  generalize (w1.setCell ⟨w.heap.size, 0, none⟩ (.bool (false))).setCell ⟨w.heap.size, 1, none⟩ (.slice p1 (L) k1) = wz at *
  obtain ⟨fd1, fd2, _, _⟩ := FC2.two
  refine bodyPost_ret (v := .agg #[.bool (false), .slice p1 (L) k1]) (by simp [results, Tryz.results107, go_sem, fd1, fd2]) rfl (hR'.out _ _ ?_)
  exact ⟨_, rfl, IntOwn.of (neg := false) (by rw [HL.out]; exact HO.out) HL.out.symm _ (by simp), FB2⟩
 ·have HO := Lib.hid (Own.set2 ho2 FC (by decide) (.bool (decide (0 < L))) (.slice p1 L k1))
  clear ho2
  have FC2 := FC.set2 (.bool (decide (0 < L))) (.slice p1 (L) k1)
  have FB2 := Beh.set2 FB (b := w.heap.size) (by omega) (.bool (decide (0 < L))) (.slice p1 (L) k1)
  go_wp2
  generalize (w1.setCell ⟨w.heap.size, 0, none⟩ (.bool (decide (0 < L)))).setCell ⟨w.heap.size, 1, none⟩ (.slice p1 (L) k1) = wz at *
  obtain ⟨fd1, fd2, _, _⟩ := FC2.two
  refine bodyPost_ret (v := .agg #[.bool (decide (0 < L)), .slice p1 (L) k1]) (by simp [results, Tryz.results107, go_sem, fd1, fd2]) rfl (hR'.out _ _ ?_)
  exact ⟨_, rfl, IntOwn.of (neg := true) (by rw [HL.out]; exact HO.out) HL.out.symm _ (by simp), FB2⟩

def icmp (X Y : Int) : Int := (X - Y).sign
theorem icmp_lt {X Y : Int} (h : X < Y) : icmp X Y = -1 := sign_neg (by omega)
theorem icmp_gt {X Y : Int} (h : Y < X) : icmp X Y = 1 := sign_pos (by omega)
theorem icmp_ncmp (a b : Nat) : icmp (a : Int) b = ncmp a b := by
 rcases Nat.lt_trichotomy a b with h | rfl | h
 ·rw [icmp_lt (by omega), ncmp_lt h]
 ·rw [ncmp_eq]; simp [icmp]
 ·rw [icmp_gt (by omega), ncmp_gt h]
theorem icmp_ncmp' (a b : Nat) : icmp (-(a : Int)) (-(b : Int)) = ncmp b a := by
 rw [← icmp_ncmp]; unfold icmp; congr 1; omega
set_option maxHeartbeats 2000000 in
theorem rcmp_any (v u : Value) (X Y : Int) (j k : Nat) (w : World) (hv : IntIn w v X j) (hu : IntIn w u Y k) (hj : j ≤ 1073741824) (hk : k ≤ 1073741824) :
  Calls Tryz.prog 118 #[v, u] w fun e w' => e = .returned (.int .i64 (icmp X Y)) ∧ Beh w w' := by
 obtain ⟨s, p, n, c, rfl⟩ := hv.form
 obtain ⟨t, q, m, d, rfl⟩ := hu.form
 refine walk_q fun R' hR' => ?_
 obtain ⟨b1, b2, hbW⟩ := boxes2 w 33 33 #[.bool s, .slice p n c] #[.bool t, .slice q m d]
 have HJ := Lib.hid (Nat.le_trans hv.len hj)
 have HK := Lib.hid (Nat.le_trans hu.len hk)
 have HV := Lib.hid hv
 have HU := Lib.hid hu
 clear hv hu hj hk
 go_enter Tryz.func118, Tryz.ntmps118
 go_wp2_with fail
 generalize (w.alloc _).alloc _ = W at *
 refine (rplain_any _ X j w _ HV.out (by (with_reducible (repeat (first | assumption | exact Beh.refl _ | refine Beh.drew ?_ | refine Beh.drewN ?_ _ | refine Beh.alloc ?_ _ | refine Beh.thn ?_ (by assumption) | refine Beh.setCell ?_ (by first | omega | (simp; done) | (simp; omega)) _))))).mono ?_
 rintro e wa ⟨ua, rfl, hua, hba⟩
 obtain ⟨s1, p1, n1, k1, rfl⟩ := hua.form4
 obtain ⟨a1, a2, a3, a4⟩ := (b1.beh hba).two
 obtain ⟨a5, a6, a7, a8⟩ := (b2.beh hba).two
 have B1 := (b1.beh hba).set2 (.bool s1) (.slice p1 n1 k1)
 have B2 := (b2.beh hba).other2 (b' := w.heap.size) (by omega) (.bool s1) (.slice p1 n1 k1)
 have hZ := KeepBut2.setA (KeepBut2.setA (KeepBut2.thn (KeepBut2.refl W w.heap.size (w.heap.size + 1)) hba) (j := 0) (.bool s1)) (j := 1) (.slice p1 n1 k1)
 have HB := Beh.set2 (hbW.thn hba) (b := w.heap.size) (by omega) (.bool s1) (.slice p1 n1 k1)
 have HPA := Lib.hid hua.parts
 have HSA := Lib.hid hua.sgn
 have HUA := Lib.hid hua
 clear hua
 go_wp2_with fail
 generalize (wa.setCell ⟨w.heap.size, 0, none⟩ (.bool s1)).setCell ⟨w.heap.size, 1, none⟩ (.slice p1 n1 k1) = wb at *
 clear a1 a2 a3 a4 a5 a6 a7 a8 hba
 refine (rplain_any _ Y k w _ HU.out HB).mono ?_
 rintro e wc ⟨ub, rfl, hub, hbb⟩
 obtain ⟨s2, p2, n2, k2, rfl⟩ := hub.form4
 obtain ⟨a1, a2, a3, a4⟩ := (B1.beh hbb).two
 obtain ⟨a5, a6, a7, a8⟩ := (B2.beh hbb).two
 have D1 := (B1.beh hbb).other2 (b' := w.heap.size + 1) (by omega) (.bool s2) (.slice p2 n2 k2)
 have D2 := (B2.beh hbb).set2 (.bool s2) (.slice p2 n2 k2)
 have hY := KeepBut2.setB (KeepBut2.setB (KeepBut2.thn hZ hbb) (j := 0) (.bool s2)) (j := 1) (.slice p2 n2 k2)
 have HD := Beh.set2 (HB.thn hbb) (b := w.heap.size + 1) (by omega) (.bool s2) (.slice p2 n2 k2)
 have HPB := Lib.hid hub.parts
 have HSB := Lib.hid hub.sgn
 have HUB := Lib.hid hub
 clear hub B1 B2 HB hbb hZ
 have hx1 : n1 ≤ 1073741824 := by rw [HPA.out.1]; exact HJ.out
 have hx2 : n2 ≤ 1073741824 := by rw [HPB.out.1]; exact HK.out
 have HX1 := Lib.hid hx1
 have HX2 := Lib.hid hx2
 clear hx1 hx2
 cases s1 <;> cases s2
 ·go_wp2_with fail
  generalize (wc.setCell ⟨w.heap.size + 1, 0, none⟩ (.bool false)).setCell ⟨w.heap.size + 1, 1, none⟩ (.slice p2 n2 k2) = wd at *
  refine (cmp01_any _ _ n1 n2 _ _ _ (HPA.out.2.1.below HD) (HPB.out.2.1.below HD) (limbs_lim _) (limbs_lim _) HX1.out HX2.out).mono ?_
  rintro e we ⟨rfl, hbe⟩
  rw [nval_limbs, nval_limbs, ← icmp_ncmp]
  have e1 : (X.natAbs : Int) = X := by have := HPA.out.2.2; simpa using this.symm
  have e2 : (Y.natAbs : Int) = Y := by have := HPB.out.2.2; simpa using this.symm
  rw [e1, e2]
  go_wp2_with fail
  exact hR'.out _ _ ⟨rfl, HD.thn hbe⟩
 ·have h1 : ¬ X < 0 := of_decide_eq_false HSA.out.symm
  have h2 : Y < 0 := of_decide_eq_true HSB.out.symm
  rw [icmp_gt (by omega)] at hR'
  go_wp2
  exact hR'.out _ _ ⟨rfl, HD⟩
 ·have h1 : X < 0 := of_decide_eq_true HSA.out.symm
  have h2 : ¬ Y < 0 := of_decide_eq_false HSB.out.symm
  rw [icmp_lt (by omega)] at hR'
  go_wp2
  exact hR'.out _ _ ⟨rfl, HD⟩
 ·go_wp2_with fail
  generalize (wc.setCell ⟨w.heap.size + 1, 0, none⟩ (.bool true)).setCell ⟨w.heap.size + 1, 1, none⟩ (.slice p2 n2 k2) = wd at *
  refine (cmp01_any _ _ n2 n1 _ _ _ (HPB.out.2.1.below HD) (HPA.out.2.1.below HD) (limbs_lim _) (limbs_lim _) HX2.out HX1.out).mono ?_
  rintro e we ⟨rfl, hbe⟩
  rw [nval_limbs, nval_limbs, ← icmp_ncmp']
  have e1 : -(X.natAbs : Int) = X := by have := HPA.out.2.2; simpa using this.symm
  have e2 : -(Y.natAbs : Int) = Y := by have := HPB.out.2.2; simpa using this.symm
  rw [e1, e2]
  go_wp2_with fail
  exact hR'.out _ _ ⟨rfl, HD.thn hbe⟩

theorem rsign_any (v : Value) (X : Int) (j : Nat) (w : World) (hv : IntIn w v X j) (hj : j ≤ 1073741824) :
  Calls Tryz.prog 91 #[v] w fun e w' => e = .returned (.int .i64 X.sign) ∧ Beh w w' := by
 obtain ⟨s, p, n, c, rfl⟩ := hv.form
 refine walk_q fun R' hR' => ?_
 have hbW := (Beh.refl w).alloc (.cells #[.bool s, .slice p n c] 33)
 have HV := Lib.hid (hv.beh hbW)
 have e1 := Lib.hid (show icmp X 0 = X.sign by simp [icmp])
 clear hv
 go_enter Tryz.func91, Tryz.ntmps91
 go_wp2_with fail
 generalize w.alloc _ = W at *
 refine (rcmp_any _ _ X 0 j 0 _ HV.out ((IntRd.zero _).to (by simp [limbs_zero])) hj (by omega)).mono ?_
 rintro e w1 ⟨rfl, hb1⟩
 rw [e1.out]
 go_wp2
 exact hR'.out _ _ ⟨rfl, hbW.thn hb1⟩
end Go.Proofs.YtofdiijioejljaaGreat
