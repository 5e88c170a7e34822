/- What the reference's number layer computes: Neg, Add, Sub, Of. -/
import Derived.Test.YtofdiijioejljaaGreatCalmH
import Derived.Test.YtofdiijioejljaaGreatRatW
import Derived.BigRegion
set_option linter.all false
set_option maxRecDepth 4000
namespace Go.Proofs.YtofdiijioejljaaGreat
open Go.RowKit
attribute [local irreducible] vcOps VS

theorem rpl_any (v : Value) (X : Int) (k : Nat) (w : World) (h : IntIn w v X k) :
  Calls Tryz.prog 109 #[v] w fun e w' => ∃ u, e = .returned u ∧ IntRd w' u X ∧ Beh w w' :=
 (rplain_any v X k w w h (Beh.refl w)).mono fun e w' ⟨u, he, h1, h2⟩ => ⟨u, he, h1.beh h2, h2⟩
theorem IntRd.row {w : World} {s : Bool} {p : Option Addr} {n c : Nat} {X : Int} (h : IntRd w (.agg #[.bool s, .slice p n c]) X) : Rd w 1 (.slice p n c) n (ints .u32 (limbs X.natAbs)) := h.parts.2.1
theorem IntRd.n {w : World} {s : Bool} {p : Option Addr} {n c : Nat} {X : Int} (h : IntRd w (.agg #[.bool s, .slice p n c]) X) : n = (limbs X.natAbs).length := h.parts.1
theorem sgn_val {s : Bool} {X : Int} (h : s = decide (X < 0)) : X = if s = true then -(X.natAbs : Int) else X.natAbs := by
 subst h
 by_cases hx : X < 0
 ·simp [hx]; omega
 ·simp [hx]; omega
theorem rneg_any (v : Value) (X : Int) (j : Nat) (w : World) (hv : IntIn w v X j) (hj : j ≤ 1073741824) :
  Calls Tryz.prog 89 #[v] w fun e w' => ∃ r, e = .returned r ∧ IntOwn w' w.heap.size r (-X) ∧ Beh w w' := by
 obtain ⟨s, p, n, c, rfl⟩ := hv.form
 have hl := hv.len
 refine calm_enter (C := cxOf Tryz.prog w _) (args := [_]) Tryz.func89 rfl Tryz.ntmps89 (Nat.le_of_ble_eq_true rfl) ?_
 (repeat first|refine wN ?_|refine wP rfl ?_|refine cx_r rfl ?_|refine cx_d rfl ?_|refine wO rfl rfl ?_)
 refine VO.call rfl rfl (fk Tryz.func109) (fun wa1 ka1 ba1 => (rpl_any _ X j wa1 (hv.kp ka1)).mono ?_)
 rintro e w1 ⟨r1, rfl, h1, hb1⟩
 obtain ⟨s1, p1, n1, c1, rfl⟩ := h1.form4
 refine ⟨_, rfl, hb1, fun kb1 _ bb1 => wV rfl ?_⟩
 (repeat first|refine wN ?_|refine wP rfl ?_|refine cx_r rfl ?_|refine cx_d rfl ?_|refine wO rfl rfl ?_)
 refine VO.call rfl rfl (fk Tryz.func109) (fun wa2 ka2 ba2 => (rpl_any _ X j wa2 (hv.kp ((kb1).thn ka2))).mono ?_)
 rintro e w2 ⟨r2, rfl, h2, hb2⟩
 obtain ⟨s2, p2, n2, c2, rfl⟩ := h2.form4
 refine ⟨_, rfl, hb2, fun kb2 _ bb2 => wV rfl ?_⟩
 (repeat first|refine wN ?_|refine wP rfl ?_|refine cx_r rfl ?_|refine cx_d rfl ?_|refine wO rfl rfl ?_)
 refine VO.call rfl rfl (fk Tryz.func107) (fun wa3 ka3 ba3 => (made_any (!s1) _ n2 _ wa3 (h2.row.kp ka3) (limbs_lim _) (by rw [h2.n]; omega)).mono ?_)
 rintro e w3 ⟨r3, rfl, h3, hb3⟩
 obtain ⟨s3, p3, n3, c3, rfl⟩ := h3.form
 refine ⟨_, rfl, hb3, fun kb3 _ bb3 => wV rfl ?_⟩
 (repeat first|refine wN ?_|refine wP rfl ?_|refine cx_r rfl ?_|refine cx_d rfl ?_|refine wO rfl rfl ?_)
 refine VS.ret (cx_ok _ _) rfl rfl (fun wz kz bz => ?_)
 refine ⟨_, rfl, IntOwn.cast ((h3.kp kz).mono ba3.size) ?_, bz⟩
 rw [nval_limbs]
 have := sgn_val h1.sgn
 cases s1 <;> simp at this ⊢ <;> omega
theorem radd_any (v u : Value) (X Y : Int) (j k : Nat) (w : World) (hv : IntIn w v X j) (hu : IntIn w u Y k) (hj : j ≤ 536870912) (hk : k ≤ 536870911) :
  Calls Tryz.prog 82 #[v, u] w fun e w' => ∃ r, e = .returned r ∧ IntOwn w' w.heap.size r (X + Y) ∧ Beh w w' := by
 obtain ⟨s, p, n, c, rfl⟩ := hv.form
 obtain ⟨t, q, m, d, rfl⟩ := hu.form
 have hlx := hv.len
 have hly := hu.len
 refine calm_enter (C := cxOf Tryz.prog w _) (args := [_, _]) Tryz.func82 rfl Tryz.ntmps82 (Nat.le_of_ble_eq_true rfl) ?_
 (repeat first|refine wN ?_|refine wP rfl ?_|refine cx_r rfl ?_|refine cx_d rfl ?_|refine wO rfl rfl ?_)
 refine VO.call rfl rfl (fk Tryz.func109) (fun wa1 ka1 ba1 => (rpl_any _ X j wa1 (hv.kp ka1)).mono ?_)
 rintro e w1 ⟨r1, rfl, h1, hb1⟩
 obtain ⟨s1, p1, n1, c1, rfl⟩ := h1.form4
 refine ⟨_, rfl, hb1, fun kb1 _ bb1 => wV rfl ?_⟩
 (repeat first|refine wN ?_|refine wP rfl ?_|refine cx_r rfl ?_|refine cx_d rfl ?_|refine wO rfl rfl ?_)
 refine VO.call rfl rfl (fk Tryz.func109) (fun wa2 ka2 ba2 => (rpl_any _ Y k wa2 (hu.kp ((kb1).thn ka2))).mono ?_)
 rintro e w2 ⟨r2, rfl, h2, hb2⟩
 obtain ⟨s2, p2, n2, c2, rfl⟩ := h2.form4
 refine ⟨_, rfl, hb2, fun kb2 _ bb2 => wV rfl ?_⟩
 (repeat first|refine wN ?_|refine wP rfl ?_|refine cx_r rfl ?_|refine cx_d rfl ?_|refine wO rfl rfl ?_)
 have e1 := sgn_val h1.sgn
 have e2 := sgn_val h2.sgn
 have hn1 : n1 ≤ 536870912 := by rw [h1.n]; omega
 have hn2 : n2 ≤ 536870911 := by rw [h2.n]; omega
 by_cases hst : s1 = s2
 ·subst hst
  refine VS.condY rfl (by simp) ?_
  (repeat first|refine wN ?_|refine wP rfl ?_|refine cx_r rfl ?_|refine cx_d rfl ?_|refine wO rfl rfl ?_)
  refine VO.call rfl rfl (fk Tryz.func110) (fun wa3 ka3 ba3 => (add01_any _ _ n1 n2 _ _ wa3 (h1.row.kp (ka2.thn ((Kp.of hb2).thn ka3))) (h2.row.kp ka3) (limbs_lim _) (limbs_lim _) (by omega) (by omega)).mono ?_)
  rintro e w3 ⟨v3, rfl, h3, hb3⟩
  obtain ⟨p3, c3, rfl, _⟩ := Own.form h3
  refine ⟨_, rfl, hb3, fun kb3 _ bb3 => wV rfl ?_⟩
  (repeat first|refine wN ?_|refine wP rfl ?_|refine cx_r rfl ?_|refine cx_d rfl ?_|refine wO rfl rfl ?_)
  refine VO.call rfl rfl (fk Tryz.func107) (fun wa4 ka4 ba4 => (made_any s1 _ _ _ wa4 (Rd.own (Own.kp h3 ka4)) (limbs_lim _) (by have := sum_len (a := nval (limbs X.natAbs)) (b := nval (limbs Y.natAbs)) (n := n1) (m := n2) (by rw [nval_limbs]; exact h1.n) (by rw [nval_limbs]; exact h2.n); omega)).mono ?_)
  rintro e w4 ⟨r4, rfl, h4, hb4⟩
  obtain ⟨s4, p4, n4, c4, rfl⟩ := h4.form
  refine ⟨_, rfl, hb4, fun kb4 _ bb4 => wV rfl ?_⟩
  (repeat first|refine wN ?_|refine wP rfl ?_|refine cx_r rfl ?_|refine cx_d rfl ?_|refine wO rfl rfl ?_)
  refine VS.ret (cx_ok _ _) rfl rfl (fun wz kz bz => ?_)
  refine ⟨_, rfl, IntOwn.cast ((h4.kp kz).mono ba4.size) ?_, bz⟩
  rw [nval_limbs, nval_limbs, nval_limbs]
  cases s1 <;> simp at e1 e2 ⊢ <;> omega
 ·refine VS.condN rfl (by simpa using hst) ?_
  (repeat first|refine wN ?_|refine wP rfl ?_|refine cx_r rfl ?_|refine cx_d rfl ?_|refine wO rfl rfl ?_)
  refine VO.call rfl rfl (fk Tryz.func111) (fun wa3 ka3 ba3 => (sub01_any _ _ n1 n2 _ _ wa3 (h1.row.kp (ka2.thn ((Kp.of hb2).thn ka3))) (h2.row.kp ka3) (limbs_lim _) (limbs_lim _) (by omega) (by omega)).mono ?_)
  rintro e w3 ⟨h3, hb3⟩
  rw [nval_limbs, nval_limbs] at h3
  rcases h3 with ⟨hlt, rfl⟩ | ⟨hle, v3, rfl, h3⟩
  ·refine ⟨_, rfl, hb3, fun kb3 _ bb3 => wV rfl ?_⟩
   (repeat first|refine wN ?_|refine wP rfl ?_|refine cx_r rfl ?_|refine cx_d rfl ?_|refine wO rfl rfl ?_)
   refine VO.call rfl rfl (fk Tryz.func111) (fun wa4 ka4 ba4 => (sub01_any _ _ n2 n1 _ _ wa4 (h2.row.kp (ka3.thn ((Kp.of hb3).thn ka4))) (h1.row.kp (ka2.thn ((Kp.of hb2).thn (ka3.thn ((Kp.of hb3).thn ka4))))) (limbs_lim _) (limbs_lim _) (by omega) (by omega)).mono ?_)
   rintro e w4 ⟨h4, hb4⟩
   rw [nval_limbs, nval_limbs] at h4
   rcases h4 with ⟨hlt', rfl⟩ | ⟨hle', v4, rfl, h4⟩
   ·omega
   ·obtain ⟨p4, c4, rfl, _⟩ := Own.form h4
    refine ⟨_, rfl, hb4, fun kb4 _ bb4 => wV rfl ?_⟩
    (repeat first|refine wN ?_|refine wP rfl ?_|refine cx_r rfl ?_|refine cx_d rfl ?_|refine wO rfl rfl ?_)
    refine VO.call rfl rfl (fk Tryz.func107) (fun wa5 ka5 ba5 => (made_any s2 _ _ _ wa5 (Rd.own (Own.kp h4 ka5)) (limbs_lim _) (by have := limbs_len_mono (show Y.natAbs - X.natAbs ≤ Y.natAbs by omega); omega)).mono ?_)
    rintro e w5 ⟨r5, rfl, h5, hb5⟩
    obtain ⟨s5, p5, n5, c5, rfl⟩ := h5.form
    refine ⟨_, rfl, hb5, fun kb5 _ bb5 => wV rfl ?_⟩
    (repeat first|refine wN ?_|refine wP rfl ?_|refine cx_r rfl ?_|refine cx_d rfl ?_|refine wO rfl rfl ?_)
    refine VS.ret (cx_ok _ _) rfl rfl (fun wz kz bz => ?_)
    refine ⟨_, rfl, IntOwn.cast ((h5.kp kz).mono ba5.size) ?_, bz⟩
    rw [nval_limbs]
    cases s1 <;> cases s2 <;> simp at e1 e2 hst ⊢ <;> omega
  ·obtain ⟨p3, c3, rfl, _⟩ := Own.form h3
   refine ⟨_, rfl, hb3, fun kb3 _ bb3 => wV rfl ?_⟩
   (repeat first|refine wN ?_|refine wP rfl ?_|refine cx_r rfl ?_|refine cx_d rfl ?_|refine wO rfl rfl ?_)
   refine VO.call rfl rfl (fk Tryz.func107) (fun wa5 ka5 ba5 => (made_any s1 _ _ _ wa5 (Rd.own (Own.kp h3 ka5)) (limbs_lim _) (by have := limbs_len_mono (show X.natAbs - Y.natAbs ≤ X.natAbs by omega); omega)).mono ?_)
   rintro e w5 ⟨r5, rfl, h5, hb5⟩
   obtain ⟨s5, p5, n5, c5, rfl⟩ := h5.form
   refine ⟨_, rfl, hb5, fun kb5 _ bb5 => wV rfl ?_⟩
   (repeat first|refine wN ?_|refine wP rfl ?_|refine cx_r rfl ?_|refine cx_d rfl ?_|refine wO rfl rfl ?_)
   refine VS.ret (cx_ok _ _) rfl rfl (fun wz kz bz => ?_)
   refine ⟨_, rfl, IntOwn.cast ((h5.kp kz).mono ba5.size) ?_, bz⟩
   rw [nval_limbs]
   cases s1 <;> cases s2 <;> simp at e1 e2 hst ⊢ <;> omega
theorem rsub_any (v u : Value) (X Y : Int) (j k : Nat) (w : World) (hv : IntIn w v X j) (hu : IntIn w u Y k) (hj : j ≤ 536870912) (hk : k ≤ 536870911) :
  Calls Tryz.prog 51 #[v, u] w fun e w' => ∃ r, e = .returned r ∧ IntOwn w' w.heap.size r (X - Y) ∧ Beh w w' := by
 obtain ⟨s, p, n, c, rfl⟩ := hv.form
 obtain ⟨t, q, m, d, rfl⟩ := hu.form
 refine calm_enter (C := cxOf Tryz.prog w _) (args := [_, _]) Tryz.func51 rfl Tryz.ntmps51 (Nat.le_of_ble_eq_true rfl) ?_
 (repeat first|refine wN ?_|refine wP rfl ?_|refine cx_r rfl ?_|refine cx_d rfl ?_|refine wO rfl rfl ?_)
 refine VO.call rfl rfl (fk Tryz.func89) (fun wa1 ka1 ba1 => (rneg_any _ Y k wa1 (hu.kp ka1) (by omega)).mono ?_)
 rintro e w1 ⟨r1, rfl, h1, hb1⟩
 obtain ⟨s1, p1, n1, c1, rfl⟩ := h1.form
 refine ⟨_, rfl, hb1, fun kb1 _ bb1 => wV rfl ?_⟩
 (repeat first|refine wN ?_|refine wP rfl ?_|refine cx_r rfl ?_|refine cx_d rfl ?_|refine wO rfl rfl ?_)
 refine VO.call rfl rfl (fk Tryz.func82) (fun wa2 ka2 ba2 => (radd_any _ _ X (-Y) j k wa2 (hv.kp ((kb1).thn ka2)) ((h1.kp ka2).in (Sz.neg hu.len)) hj hk).mono ?_)
 rintro e w2 ⟨r2, rfl, h2, hb2⟩
 obtain ⟨s2, p2, n2, c2, rfl⟩ := h2.form
 refine ⟨_, rfl, hb2, fun kb2 _ bb2 => wV rfl ?_⟩
 (repeat first|refine wN ?_|refine wP rfl ?_|refine cx_r rfl ?_|refine cx_d rfl ?_|refine wO rfl rfl ?_)
 refine VS.ret (cx_ok _ _) rfl rfl (fun wz kz bz => ?_)
 exact ⟨_, rfl, IntOwn.cast ((h2.kp kz).mono ba2.size) (Int.sub_eq_add_neg).symm, bz⟩
end Go.Proofs.YtofdiijioejljaaGreat
/- What the reference's number layer computes: cut, halves, Of. -/
namespace Go.Proofs.YtofdiijioejljaaGreat
open Go.RowKit
attribute [local irreducible] vcOps VS

set_option maxRecDepth 100000 in
set_option maxHeartbeats 400000 in
theorem cut03_any (p : Option Addr) (n c : Nat) (xs : List Nat) (w : World) (hr : Rd w 1 (.slice p n c) n (ints .i64 xs)) (hl : Half xs) :
  Calls Tryz.prog 131 #[.slice p n c] w fun e w' => (∃ m, m ≤ n ∧ e = .returned (.slice p m c) ∧ halves (hval xs) = xs.take m) ∧ w = w' := by
 obtain ⟨p', c', hv, hnc, hcm, hxl⟩ := hr.i64
 simp only [Value.slice.injEq, true_and] at hv
 obtain ⟨rfl, rfl⟩ := hv
 have HX : Hid (xs.length = n) := hxl
 clear hxl
 refine walk_q fun R' hR' => ?_
 go_enter Tryz.func131, Tryz.ntmps131
 go_wp2
 go_loop [0] (fun v => ∃ m, m ≤ n ∧ v = .slice p m c ∧ hval (xs.take m) = hval xs) (fun v => match v with | .slice _ m _ => m | _ => 0)
 case atStart => exact ⟨n, Nat.le_refl _, rfl, by rw [List.take_of_length_le (Nat.le_of_eq HX.out)]⟩
 case round =>
  obtain ⟨m, hm, rfl, hv⟩ := hrel
  have HV : Hid (hval (xs.take m) = hval xs) := hv
  clear hv
  by_cases h0 : m = 0
  ·subst h0
   go_wp2
   exact hR'.out _ _ ⟨⟨0, Nat.zero_le _, rfl, digs_take (by omega) hl (Nat.zero_le _) HV.out (.inl rfl)⟩, rfl⟩
  ·obtain ⟨b, off, x, rfl, hb, hx, hc⟩ := hr.cellAt (k := m - 1) (by omega)
   have HX2 : Hid (xs[m-1]? = some x) := hx
   clear hx
   have h0' : 0 < m := by omega
   obtain ⟨j, rfl⟩ : ∃ j, m = j + 1 := ⟨m - 1, by omega⟩
   rw [Nat.add_sub_cancel] at hc
   by_cases hx0 : x = 0
   ·subst hx0
    go_wp2
    go_round
    case rel => exact ⟨j, by omega, rfl, (val_take_of HX2.out).symm.trans HV.out⟩
    case measure => simp
   ·have hx0' : ((x : Int) == 0) = false := by rw [beq_eq_false_iff_ne]; omega
    go_wp2
    exact hR'.out _ _ ⟨⟨j + 1, hm, rfl, digs_take (by omega) hl (by rw [HX.out]; exact hm) HV.out (.inr ⟨x, HX2.out, hx0⟩)⟩, rfl⟩

set_option maxRecDepth 100000 in
set_option maxHeartbeats 1000000 in
theorem halves03_any (va : Value) (n : Nat) (xs : List Nat) (w : World) (hr : Rd w 1 va n (ints .u32 xs)) (hl : Lim xs) (hn : n ≤ 1073741824) :
  Calls Tryz.prog 114 #[va] w fun e w' => ∃ v', e = .returned v' ∧ w'.ownsRow w.heap.size 3 1 v' (halves (nval xs)).length (ints .i64 (halves (nval xs))) ∧ Below w.heap.size w w' := by
 obtain ⟨p, c, rfl, hnc, hcm, hxl⟩ := hr.u32
 obtain ⟨i0, hi, hz0, hz1, hz2⟩ := info_parts infoInt
 obtain ⟨B, hB⟩ : ∃ B, B = w.heap.size := ⟨_, rfl⟩
 have HB := Lib.hid hB
 have Hr := Lib.hid hr
 have HL := Lib.hid hl
 have HX := Lib.hid hxl
 rw [← hB]
 clear hr hl hxl hB
 refine walk_q fun R' hR' => ?_
 go_enter Tryz.func114, Tryz.ntmps114
 go_wp2
 go_loopw [3, 4] (fun ov iv wr => HalfInv w B xs ov iv wr) (fun _ iv _ => n - (intOf iv).toNat)
 case atStart => exact ⟨0, [], Nat.zero_le _, rfl, rfl, Dig.nil _, rfl, World.ownsRow_nil _ _ _ _, Below.refl _ _⟩
 case round =>
  obtain ⟨k, hs, hk, rfl, hhl, hhh, hhv, hown, hb⟩ := hrel
  have HK := Lib.hid hk
  have HO := Lib.hid hown
  have HHL := Lib.hid hhl
  have HHH := Lib.hid hhh
  have HHV := Lib.hid hhv
  have HBW := Lib.hid hb
  have hbs : B ≤ wr.heap.size := by have := hb.size; have := HB.out; omega
  have hkn' : k ≤ n := by rw [← HX.out]; exact hk
  clear hk hown hhl hhh hhv hb
  by_cases hkn : k < n
  ·obtain ⟨b1, o1, x, rfl, hb1, hxk, hcw⟩ := Hr.out.cellAt hkn
   have hcx := (HBW.out.cell (p := ⟨b1, o1 + k, none⟩) (by rw [HB.out]; exact hb1)).trans hcw
   have hne := own_ne HO.out (b := b1) (by rw [HB.out]; exact hb1)
   have HXK := Lib.hid hxk
   have hx4 := HL.out.at hxk
   have HNE := Lib.hid hne
   have hk0 : (0 : Int) ≤ (k : Int) := by omega
   have hk1 : (k : Int) < (n : Int) := by omega
   clear hxk hcw hne
   go_wp2_with fail
   go_region_held3 (fun w' => w'.cell? ⟨b1, o1 + k, none⟩ = some (.int .u32 (x : Int))) (first | exact hcx | go_keep | exact keep_cell hgrow hcx HNE.out)
    ((refine step_append_rd (by rfl) _ _ 135 (by rfl) B 3 i0 (.int .i64 0) 1 8 Tryz.underlying135 hi hz0 hz1 hz2 rfl (by omega) _ (2 * k) (ints .i64 hs) (by rfl) ((HO.out.alloc _).drew) _ 2 (ints .i64 [x % 65536, x / 65536]) (by rfl) (Rd.drew (Rd.lit2 (half_lo hx4) (half_hi hx4))) (ints_one .i64 [x % 65536, x / 65536]) (by unfold maxLen; omega) (by omega) (by simp; omega) ?_; intro v1 w1 hown1 hgrow))
   have HO1 := Lib.hid hown1
   have HG1 := Lib.hid hgrow
   clear hown1 hgrow
   go_wp2_with fail
   go_roundw
   case rel =>
    have hst := half_step HXK.out hx4 HHL.out HHH.out HHV.out
    exact ⟨k + 1, hs ++ [x % 65536, x / 65536], by rw [HX.out]; omega, by go_num, by simp [HHL.out]; omega, hst.1, hst.2, by rw [ints_append]; exact HO1.out, Below.behind HBW.out hbs HG1.out HO.out (Nat.le_refl _)⟩
   case measure => simp [intOf]; omega
  ·obtain rfl : k = n := by omega
   obtain ⟨p1, c1, hv1, _, _, _⟩ := Own.form HO.out
   have HV1 := Lib.hid hv1
   have hall : Hid (hval hs = nval xs) := by show _ = _; rw [HHV.out, nval_take_all (Nat.le_of_eq HX.out)]
   subst hv1
   go_wp2_with fail
   refine (cut03_any p1 (2 * k) c1 hs _ (Rd.own HO.out) HHH.out).mono ?_
   rintro e w2 ⟨⟨m, hm, rfl, hlm⟩, rfl⟩
   have HC := Own.cut HO.out hm hlm
   rw [hall.out] at HC
   have HC1 := Lib.hid HC.1
   have HC2 := Lib.hid HC.2
   clear HC hlm
   go_wp2_with fail
   refine hR'.out _ _ ⟨_, rfl, ?_, HBW.out⟩
   have := HC1.out
   rw [← HC2.out] at this ⊢
   exact this


theorem tmod_abs {n : Int} (h0 : -9223372036854775808 ≤ n) (h1 : n ≤ 9223372036854775807) : maxI (n.tmod 4294967296) [IntKind.i64.wrap (0 - n.tmod 4294967296)] = ((n.natAbs % 4294967296 : Nat) : Int) := by
 have e : (n.tmod 4294967296).natAbs = n.natAbs % 4294967296 := by rw [Int.natAbs_tmod]; rfl
 have hs : (0 ≤ n → 0 ≤ n.tmod 4294967296) := fun h => Int.tmod_nonneg _ h
 have hs' : (n ≤ 0 → n.tmod 4294967296 ≤ 0) := fun h => by have := Int.tmod_nonneg 4294967296 (show 0 ≤ -n by omega); rw [Int.neg_tmod] at this; omega
 rw [IntWalk.i64_in _ (by omega)]
 unfold maxI maxI
 split <;> omega
theorem tdiv_abs {n : Int} (h0 : -9223372036854775808 ≤ n) (h1 : n ≤ 9223372036854775807) : maxI (IntKind.i64.wrap (n.tdiv 4294967296)) [IntKind.i64.wrap (0 - IntKind.i64.wrap (n.tdiv 4294967296))] = ((n.natAbs / 4294967296 : Nat) : Int) := by
 have e : (n.tdiv 4294967296).natAbs = n.natAbs / 4294967296 := by rw [Int.natAbs_tdiv]; rfl
 have hs : (0 ≤ n → 0 ≤ n.tdiv 4294967296) := fun h => Int.tdiv_nonneg h (by omega)
 have hs' : (n ≤ 0 → n.tdiv 4294967296 ≤ 0) := fun h => by have := Int.tdiv_nonneg (show 0 ≤ -n by omega) (show (0:Int) ≤ 4294967296 by omega); rw [Int.neg_tdiv] at this; omega
 have hb : n.natAbs / 4294967296 ≤ 2147483648 := by omega
 rw [IntWalk.i64_in (n.tdiv 4294967296) (by omega), IntWalk.i64_in _ (by omega)]
 unfold maxI maxI
 split <;> omega
theorem u32_nat {x : Nat} (h : x < 4294967296) : IntKind.u32.wrap (x : Int) = (x : Int) := by rw [IntKind.wrap_u32', Int.emod_eq_of_lt (by omega) (by omega)]
theorem rOf_any (n : Int) (w : World) (h0 : -9223372036854775808 ≤ n) (h1 : n ≤ 9223372036854775807) :
  Calls Tryz.prog 79 #[.int .i64 n] w fun e w' => ∃ r, e = .returned r ∧ IntOwn w' w.heap.size r n ∧ Beh w w' := by
 have e1 := tmod_abs h0 h1
 have e2 := tdiv_abs h0 h1
 have g1 := Nat.mod_lt n.natAbs (show 0 < 4294967296 by omega)
 have g2 : n.natAbs / 4294967296 < 4294967296 := by omega
 refine calm_enter (C := cxOf Tryz.prog w _) (args := [_]) Tryz.func79 rfl Tryz.ntmps79 (Nat.le_of_ble_eq_true rfl) ?_
 (repeat first|refine wN ?_|refine wP rfl ?_|refine cx_r rfl ?_|refine cx_d rfl ?_|refine wO rfl rfl ?_)
 refine VO.lit (cx_ok _ _) [.int .u32 (IntKind.u32.wrap (maxI (n.tmod 4294967296) [IntKind.i64.wrap (0 - n.tmod 4294967296)])), .int .u32 (IntKind.u32.wrap (maxI (IntKind.i64.wrap (n.tdiv 4294967296)) [IntKind.i64.wrap (0 - IntKind.i64.wrap (n.tdiv 4294967296))]))] rfl rfl rfl rfl rfl rfl rfl rfl rfl (by omega) (fun w2 b k2 b2 ho => wV rfl ?_)
 rw [e1, e2, u32_nat g1, u32_nat g2] at ho
 refine VO.call rfl rfl (fk Tryz.func107) (fun wa3 ka3 ba3 => (made_any (decide (n < 0)) _ 2 [n.natAbs % 4294967296, n.natAbs / 4294967296] wa3 (Rd.own (Own.kp (cs := ints .u32 [n.natAbs % 4294967296, n.natAbs / 4294967296]) ho ka3)) (Dig.cons g1 (Dig.cons g2 (Dig.nil _))) (by omega)).mono ?_)
 rintro e w3 ⟨r3, rfl, h3, hb3⟩
 obtain ⟨s3, p3, n3, c3, rfl⟩ := h3.form
 refine ⟨_, rfl, hb3, fun kb3 _ bb3 => wV rfl ?_⟩
 (repeat first|refine wN ?_|refine wP rfl ?_|refine cx_r rfl ?_|refine cx_d rfl ?_|refine wO rfl rfl ?_)
 refine VS.ret (cx_ok _ _) rfl rfl (fun wz kz bz => ?_)
 refine ⟨_, rfl, IntOwn.cast ((h3.kp kz).mono ba3.size) ?_, bz⟩
 rw [nval_cons, nval_cons, nval_nil]
 by_cases hn : n < 0
 ·simp only [hn, decide_true, if_true]; omega
 ·simp only [hn, decide_false]; simp; omega
end Go.Proofs.YtofdiijioejljaaGreat
/- What the reference's number layer computes: limbs. -/
namespace Go.Proofs.YtofdiijioejljaaGreat
open Go.RowKit

def lv (ls : List Nat) (k j : Nat) : Nat := (if 2 * j < k then ls.getD (2 * j) 0 else 0) + 65536 * (if 2 * j + 1 < k then ls.getD (2 * j + 1) 0 else 0)
def lds (ls : List Nat) (m k : Nat) : List Nat := (List.range m).map (lv ls k)
theorem lds_zero (ls : List Nat) (m : Nat) : lds ls m 0 = List.replicate m 0 := by
 apply List.ext_getElem
 ·simp [lds]
 ·intro i h1 h2; simp [lds, lv]
theorem lds_even {ls : List Nat} {m j x : Nat} (hx : ls[2 * j]? = some x) : (lds ls m (2 * j)).set j x = lds ls m (2 * j + 1) := by
 apply List.ext_getElem
 ·simp [lds]
 ·intro i h1 h2
  simp only [lds, List.getElem_set, List.getElem_map, List.getElem_range]
  by_cases e : j = i
  ·subst e
   rw [if_pos rfl]
   unfold lv
   rw [if_pos (by omega), if_neg (by omega), List.getD_eq_getElem?_getD, hx]; rfl
  ·rw [if_neg e]
   unfold lv
   congr 1
   ·by_cases h : 2 * i < 2 * j
    ·rw [if_pos h, if_pos (by omega)]
    ·rw [if_neg h, if_neg (by omega)]
   ·by_cases h : 2 * i + 1 < 2 * j
    ·rw [if_pos h, if_pos (by omega)]
    ·rw [if_neg h, if_neg (by omega)]
theorem lds_odd {ls : List Nat} {m j x y : Nat} (hy : (lds ls m (2 * j + 1))[j]? = some y) (hx : ls[2 * j + 1]? = some x) : (lds ls m (2 * j + 1)).set j (y + 65536 * x) = lds ls m (2 * j + 2) := by
 have hy' : y = ls.getD (2 * j) 0 := by
  obtain ⟨h, rfl⟩ := List.getElem?_eq_some_iff.1 hy
  simp only [lds, List.getElem_map, List.getElem_range]
  unfold lv
  rw [if_pos (by omega), if_neg (by omega)]; rfl
 apply List.ext_getElem
 ·simp [lds]
 ·intro i h1 h2
  simp only [lds, List.getElem_set, List.getElem_map, List.getElem_range]
  by_cases e : j = i
  ·subst e
   rw [if_pos rfl]
   unfold lv
   rw [if_pos (by omega), if_pos (by omega), hy']
   congr 2
   rw [List.getD_eq_getElem?_getD, hx]; rfl
  ·rw [if_neg e]
   unfold lv
   congr 1
   ·by_cases h : 2 * i < 2 * j + 1
    ·rw [if_pos h, if_pos (by omega)]
    ·rw [if_neg h, if_neg (by omega)]
   ·by_cases h : 2 * i + 1 < 2 * j + 1
    ·rw [if_pos h, if_pos (by omega)]
    ·rw [if_neg h, if_neg (by omega)]
theorem lds_end {ls : List Nat} (h : Half ls) {m : Nat} (hm : ls.length ≤ 2 * m) : nval (lds ls m ls.length) = hval ls ∧ Lim (lds ls m ls.length) := by
 have hb : ∀ k, ls.getD k 0 < 65536 := fun k => getD_half h k
 have hat : ∀ j, lv ls ls.length j = ls.getD (2 * j) 0 + 65536 * ls.getD (2 * j + 1) 0 := fun j => by
  unfold lv
  congr 1
  ·split
   ·rfl
   ·rw [getD_beyond (by omega)]
  ·split
   ·rfl
   ·rw [getD_beyond (by omega)]
 constructor
 ·have key : ∀ j, j ≤ m → nval ((lds ls m ls.length).take j) = hval (ls.take (2 * j)) := by
   intro j
   induction j with
   | zero => intro _; rfl
   | succ j ih =>
    intro hj
    rw [nval_take_getD, ih (by omega)]
    have e : (lds ls m ls.length).getD j 0 = ls.getD (2 * j) 0 + 65536 * ls.getD (2 * j + 1) 0 := by
     rw [List.getD_eq_getElem?_getD]
     simp [lds, show j < m by omega, hat]
    rw [e]
    show _ = val 65536 (ls.take (2 * j + 1 + 1))
    rw [val_take_getD, val_take_getD, Nat.mul_add, ← Nat.mul_assoc, Nat.pow_succ 65536 (2 * j), Nat.pow_mul]
    show val 65536 _ + _ = _
    rw [Nat.add_assoc]
  have := key m (Nat.le_refl _)
  rw [List.take_of_length_le (by simp [lds]), List.take_of_length_le hm] at this
  exact this
 ·intro x hx
  obtain ⟨j, _, rfl⟩ := List.mem_map.1 hx
  rw [hat]
  have := hb (2 * j)
  have := hb (2 * j + 1)
  omega
def LimbInv03 (w : World) (B g m : Nat) (ls : List Nat) (iv : Value) (wr : World) : Prop :=
 ∃ k, k ≤ ls.length ∧ iv = .int .i64 (k : Int) ∧ wr.ownsRow B 107 1 (.slice (some ⟨g, 0, none⟩) m m) m (ints .u32 (lds ls m k)) ∧ Below B w wr

set_option maxRecDepth 100000 in
set_option maxHeartbeats 2000000 in
theorem limbs03_any (va : Value) (n : Nat) (ls : List Nat) (w : World) (hr : Rd w 1 va n (ints .i64 ls)) (hl : Half ls) (hn : n ≤ 2147483656) :
  Calls Tryz.prog 112 #[va] w fun e w' => ∃ v' xs, e = .returned v' ∧ xs.length = (n + 1) / 2 ∧ w'.ownsRow w.heap.size 107 1 v' ((n + 1) / 2) (ints .u32 xs) ∧ nval xs = hval ls ∧ Lim xs ∧ Below w.heap.size w w' := by
 obtain ⟨p, c, rfl, hnc, hcm, hxl⟩ := hr.i64
 obtain ⟨i0, hi, hz0, hz1, hz2⟩ := info_parts infoU32
 obtain ⟨B, hB⟩ : ∃ B, B = w.heap.size := ⟨_, rfl⟩
 have HB := Lib.hid hB
 have Hr := Lib.hid hr
 have HL := Lib.hid hl
 have HX := Lib.hid hxl
 obtain ⟨m, hm⟩ : ∃ m, m = (n + 1) / 2 := ⟨_, rfl⟩
 have HM := Lib.hid hm
 have hmn : n ≤ 2 * m := by omega
 have hmb : m ≤ 1073741828 := by omega
 have hq : ((n : Int) + 1) / 2 = (m : Int) := by omega
 rw [← hB, ← hm]
 clear hr hl hxl hB hm
 refine walk_q fun R' hR' => ?_
 go_enter Tryz.func112, Tryz.ntmps112
 go_wp2_with (at_make; refine wpList_make_full _ rfl _ _ 23 rfl B 107 i0 (.int .u32 0) 1 Tryz.underlying23 hi hz0 hz1 .i64 .i64 _ _ m rfl rfl hq hq (by rw [hz2]; omega) (by unfold maxLen; omega) (Nat.le_of_eq HB.out) ?_; intro w1 hown hgr)
 have Hown := Lib.hid (Own.made hown)
 have Hb1 : Hid (Below B w w1) := (Below.refl _ _).grown hgr (Nat.le_of_eq HB.out) (fun k hk => by cases hk)
 clear hown hgr hq
 go_wp2_with fail
 go_loopw [4] (fun iv wr => LimbInv03 w B w.heap.size m ls iv wr) (fun iv _ => n - (intOf iv).toNat)
 case atStart => exact ⟨0, Nat.zero_le _, rfl, by rw [lds_zero]; have := Hown.out; rw [List.nil_append] at this; exact this, Hb1.out⟩
 case round =>
  obtain ⟨k, hk, rfl, hown, hb⟩ := hrel
  have HO2 := Lib.hid hown
  have HBW2 := Lib.hid hb
  have hkn : k ≤ n := by rw [← HX.out]; exact hk
  clear hown hb hk
  by_cases hlt : k < n
  ·obtain ⟨b1, o1, x, rfl, hb1, hxk, hcw⟩ := Hr.out.cellAt hlt
   have hcx := (HBW2.out.cell (p := ⟨b1, o1 + k, none⟩) (by rw [HB.out]; exact hb1)).trans hcw
   have hx4 := HL.out.at hxk
   have HXK := Lib.hid hxk
   obtain ⟨j, hj⟩ : ∃ j, j = k / 2 := ⟨_, rfl⟩
   have hk2 : (k : Int) / 2 = (j : Int) := by omega
   have hjm : j < m := by omega
   obtain ⟨z, hz, hcell, hfro⟩ := Own.elemCell HO2.out (j := j) hjm
   have HZ := Lib.hid hz
   have hw4 : (x : Int) % 4294967296 = (x : Int) := by omega
   have hj0 : (0 : Int) ≤ (j : Int) := by omega
   have hj1 : (j : Int) < (m : Int) := by omega
   have hk0 : (0 : Int) ≤ (k : Int) := by omega
   have hk1 : (k : Int) < (n : Int) := by omega
   by_cases he : k % 2 = 0
   ·have hke : ((k : Int) % 2 == 0) = true := by rw [beq_iff_eq]; omega
    have HK : Hid (k = 2 * j) := by show _ = _; omega
    clear hxk hcw he hj hz
    go_wp2_with fail
    go_roundw
    case rel =>
     refine ⟨k + 1, by rw [HX.out]; omega, by go_num, ?_, HBW2.out.setCell (Own.lt HO2.out).1 _⟩
     have h1 := Own.elemStore (j := j) (x := x) HO2.out
     rw [HK.out, lds_even (by rw [← HK.out]; exact HXK.out)] at h1
     rw [HK.out]
     simpa using h1
    case measure => simp [intOf]; omega
   ·have hke : ((k : Int) % 2 == 0) = false := by rw [beq_eq_false_iff_ne]; omega
    have HK : Hid (k = 2 * j + 1) := by show _ = _; omega
    have hz4 : z < 65536 := by
     have := HZ.out
     rw [HK.out] at this
     obtain ⟨h, rfl⟩ := List.getElem?_eq_some_iff.1 this
     simp only [lds, List.getElem_map, List.getElem_range]
     unfold lv
     rw [if_pos (by omega), if_neg (by omega)]
     exact getD_half HL.out _
    have hw5 : IntKind.u32.wrap (z + IntKind.u32.wrap (65536 * (x : Int))) = ((z + 65536 * x : Nat) : Int) := by
     rw [IntKind.wrap_u32', IntKind.wrap_u32']; omega
    clear hxk hcw he hj hz
    go_wp2
    go_region
    all_goals
     go_wp2_with fail
     go_roundw
     case rel =>
      refine ⟨k + 1, by rw [HX.out]; omega, by go_num, ?_, (HBW2.out.setCell (Own.lt HO2.out).1 _).drew⟩
      have h1 := Own.elemStore (j := j) (x := z + 65536 * x) HO2.out
      rw [HK.out, lds_odd (by have := HZ.out; rw [HK.out] at this; exact this) (by rw [← HK.out]; exact HXK.out)] at h1
      rw [HK.out]
      have h2 : (((z + 65536 * x : Nat) : Int)) = (z : Int) + 65536 * (x : Int) := by omega
      rw [h2] at h1
      exact h1
     case measure => simp [intOf]; omega
  ·obtain rfl : k = n := by omega
   obtain ⟨e1, e2⟩ := lds_end HL.out (m := m) (by rw [HX.out]; exact hmn)
   rw [HX.out] at e1 e2
   have E1 := Lib.hid e1
   have E2 := Lib.hid e2
   clear e1 e2
   go_wp2_with fail
   exact hR'.out _ _ ⟨_, _, rfl, by simp [lds], HO2.out, E1.out, E2.out, HBW2.out⟩
end Go.Proofs.YtofdiijioejljaaGreat
