/- What the reference of the limb layer computes, part D: quotient with a limb, difference, sums of rows. -/
import Derived.Test.YtofdiijioejljaaGreatRef01C
import Derived.Test.YtofdiijioejljaaGreatLimbD
set_option linter.all false
namespace Go.Proofs.YtofdiijioejljaaGreat
open Go.RowKit

def DivInv01 (w : World) (B g M d : Nat) (us : List Nat) (iv rv : Value) (wr : World) : Prop :=
 ∃ (k r : Nat) (qs : List Nat), k ≤ M ∧ qs.length = M - k ∧ iv = .int .i64 ((k : Int) - 1) ∧ rv = .int .i64 (r : Int) ∧ r < d ∧ Half qs ∧
  hval qs * d + r = hval (us.drop k) ∧ wr.ownsRow B 3 1 (.slice (some ⟨g, 0, none⟩) M M) M (ints .i64 (List.replicate k 0 ++ qs)) ∧ Below B w wr

theorem set_rep_mid {qs : List Nat} {k x : Nat} : (List.replicate (k + 1) 0 ++ qs).set k x = List.replicate k 0 ++ x :: qs := by
 rw [List.replicate_succ', List.append_assoc, List.set_append_right _ _ (by simp)]
 simp

theorem DivInv01.step {w wr : World} {B g M d j r x : Nat} {us qs : List Nat} {q s : Int} (hj : j + 1 ≤ M) (hqs : qs.length = M - (j + 1)) (hr : r < d) (hl : Half qs)
  (hv : hval qs * d + r = hval (us.drop (j + 1))) (hown : wr.ownsRow B 3 1 (.slice (some ⟨g, 0, none⟩) M M) M (ints .i64 (List.replicate (j + 1) 0 ++ qs))) (hb : Below B w wr)
  (hx : us[j]? = some x) (hx4 : x < 65536) (he : q = (((r * 65536 + x) / d : Nat) : Int)) (hs : s = (((r * 65536 + x) % d : Nat) : Int)) :
  DivInv01 w B g M d us (.int .i64 ((j : Int) - 1)) (.int .i64 s) (wr.setCell ⟨g, j, none⟩ (.int .i64 q)) := by
 subst he
 subst hs
 refine ⟨j, (r * 65536 + x) % d, (r * 65536 + x) / d :: qs, by omega, by simp; omega, rfl, rfl, Nat.mod_lt _ (by omega), Dig.cons (div_ltB 65536 d r x hr hx4) hl, ?_, ?_, ?_⟩
 ·show val 65536 _ * d + _ = val 65536 _
  rw [val_cons, val_drop_cons hx]
  have : val 65536 (us.drop (j + 1)) = hval qs * d + r := hv.symm
  rw [this]
  exact div_stepB 65536 d r x _ _ rfl
 ·have h1 := Own.elemStore (j := j) (x := (r * 65536 + x) / d) hown
  rwa [set_rep_mid] at h1
 ·exact hb.setCell (Own.lt hown).1 _


def SubInv01 (w : World) (B M : Nat) (us ts : List Nat) (ov bv iv : Value) (wr : World) : Prop :=
 ∃ (k r : Nat) (ds : List Nat), k ≤ M ∧ ds.length = k ∧ iv = .int .i64 (k : Int) ∧ bv = .int .i64 (r : Int) ∧ r ≤ 1 ∧ Half ds ∧
  hval ds + hval (ts.take k) = hval (us.take k) + 65536 ^ k * r ∧ wr.ownsRow B 3 1 ov k (ints .i64 ds) ∧ Below B w wr

theorem sub01_step {k r x y d r' : Nat} {us ts ds : List Nat} (hl : ds.length = k) (hh : Half ds) (hv : hval ds + hval (ts.take k) = hval (us.take k) + 65536 ^ k * r) (hx : us.getD k 0 = x) (hy : ts.getD k 0 = y)
  (hd : d < 65536) (he : x + 65536 * r' = d + y + r) :
  Half (ds ++ [d]) ∧ hval (ds ++ [d]) + hval (ts.take (k + 1)) = hval (us.take (k + 1)) + 65536 ^ (k + 1) * r' := by
 refine ⟨Dig.append hh (Dig.cons hd (Dig.nil _)), ?_⟩
 have h1 : hval (ts.take (k + 1)) = hval (ts.take k) + 65536 ^ k * y := by rw [← hy]; exact val_take_getD 65536 ts k
 have h2 : hval (us.take (k + 1)) = hval (us.take k) + 65536 ^ k * x := by rw [← hx]; exact val_take_getD 65536 us k
 rw [hval_snoc, hl, h1, h2, Nat.pow_succ]
 exact sub_stepB 65536 _ x y r d r' _ _ _ hv he

set_option maxRecDepth 100000 in
set_option maxHeartbeats 1000000 in
theorem sub01_any (va vb : Value) (n m : Nat) (xs ys : List Nat) (w : World) (hr : Rd w 1 va n (ints .u32 xs)) (hs : Rd w 1 vb m (ints .u32 ys)) (hx : Lim xs) (hy : Lim ys) (hn : n ≤ 1073741824) (hm : m ≤ 1073741824) :
  Calls Tryz.prog 111 #[va, vb] w fun e w' => ((nval xs < nval ys ∧ e = .returned (.tuple #[.slice none 0 0, .int .i64 2])) ∨
   (nval ys ≤ nval xs ∧ ∃ v', e = .returned (.tuple #[v', .int .i64 0]) ∧ w'.ownsRow w.heap.size 107 1 v' (limbs (nval xs - nval ys)).length (ints .u32 (limbs (nval xs - nval ys))))) ∧ Below w.heap.size w w' := by
 obtain ⟨p, c, rfl, hnc, hcm, hxl⟩ := hr.u32
 obtain ⟨q, d, rfl, hmd, hdm, hyl⟩ := hs.u32
 obtain ⟨i0, hi, hz0, hz1, hz2⟩ := info_parts infoInt
 have Hr := Lib.hid hr
 have Hs := Lib.hid hs
 have HL := Lib.hid hx
 have HM := Lib.hid hy
 have hlx := halves_len_nval hx
 have hly := halves_len_nval hy
 rw [hxl] at hlx
 rw [hyl] at hly
 obtain ⟨a, ha⟩ : ∃ a, a = nval xs := ⟨_, rfl⟩
 obtain ⟨b, hb⟩ : ∃ b, b = nval ys := ⟨_, rfl⟩
 rw [← ha] at hlx ⊢
 rw [← hb] at hly ⊢
 have HA := Lib.hid ha
 have HBb := Lib.hid hb
 clear hr hs hx hy hxl hyl ha hb
 refine walk_q fun R' hR' => ?_
 go_enter Tryz.func111, Tryz.ntmps111
 go_wp2_with fail
 refine (cmp01_any _ _ n m xs ys _ Hr.out Hs.out HL.out HM.out hn hm).mono ?_
 rintro e w0 ⟨rfl, hb0⟩
 rw [← HA.out, ← HBb.out]
 have HB0 := Lib.hid hb0
 have hB0s := hb0.size
 clear hb0
 by_cases hab : a < b
 ·have hc : ncmp a b < 0 := ncmp_neg.2 hab
  generalize ncmp a b = cv at hc ⊢
  go_wp2_with fail
  exact hR'.out _ _ ⟨.inl ⟨hab, rfl⟩, HB0.out⟩
 ·have hc : 0 ≤ ncmp a b := by have := mt (@ncmp_neg a b).1 hab; omega
  generalize ncmp a b = cv at hc ⊢
  have hlen : (halves b).length ≤ (halves a).length := digs_len_mono (by omega) (by omega)
  have HAB := Lib.hid hab
  clear hab
  go_wp2_with fail
  refine (halves01_any _ n xs _ (Hr.out.below HB0.out) HL.out hn).mono ?_
  rintro e w1 ⟨v1, rfl, hown, hb1⟩
  rw [← HA.out] at hown
  have HO1 := Lib.hid (Rd.own hown)
  have HB1 := Lib.hid (HB0.out.trans (hb1.mono hB0s))
  have hB1s := hb1.size
  clear hown hb1
  go_wp2_with fail
  refine (halves01_any _ m ys _ (Hs.out.below HB1.out) HM.out hm).mono ?_
  rintro e w2 ⟨v2, rfl, hown, hb2⟩
  rw [← HBb.out] at hown
  have HRA0 := Lib.hid (HO1.out.below hb2)
  have HRB0 := Lib.hid (Rd.own hown)
  have HB2 := Lib.hid (HB1.out.trans (hb2.mono HB1.out.size))
  have hB2s := hb2.size
  clear hown hb2 HO1 HB1
  obtain ⟨p1, c1, rfl, h11, h12, _⟩ := HRA0.out.i64
  obtain ⟨p2, c2, rfl, h21, h22, _⟩ := HRB0.out.i64
  generalize hla : (halves a).length = la at *
  generalize hlb : (halves b).length = lb at *
  have HLA := Lib.hid hla
  have HLB := Lib.hid hlb
  clear hla hlb
  obtain ⟨B2, hB2e⟩ : ∃ B2, B2 = w2.heap.size := ⟨_, rfl⟩
  have HB2e := Lib.hid hB2e
  have hB2s' : w.heap.size ≤ B2 := by omega
  clear hB2e
  go_wp2_with fail
  go_loopw [8, 9, 10] (fun ov bv iv wr => SubInv01 w2 B2 la (halves a) (halves b) ov bv iv wr) (fun _ _ iv _ => la - (intOf iv).toNat)
  case atStart => exact ⟨0, 0, [], Nat.zero_le _, rfl, rfl, rfl, by omega, Dig.nil _, by rw [take_zero_val, take_zero_val]; simp [hval, val], World.ownsRow_nil _ _ _ _, Below.refl _ _⟩
  case round =>
   obtain ⟨k, r, ds, hk, hdl, rfl, rfl, hr1, hdh, hdv, hown, hbw⟩ := hrel
   have HO := Lib.hid hown
   have HDL := Lib.hid hdl
   have HDH := Lib.hid hdh
   have HDV := Lib.hid hdv
   have HBW := Lib.hid hbw
   have hbs : B2 ≤ wr.heap.size := by have := hbw.size; have := HB2e.out; omega
   have HRB := Lib.hid (HRB0.out.belowB HB2e.out hbw)
   clear hown hdl hdh hdv
   by_cases hkl : k < la
   ·obtain ⟨b1, o1, x, rfl, _, hxk, hcx⟩ := (HRA0.out.belowB HB2e.out hbw).cellAt hkl
    have hx4 := (halves_half a).at hxk
    have HX : Hid ((halves a).getD k 0 = x) := by show _ = _; rw [List.getD, hxk]; rfl
    have hy4 := getD_half (halves_half b) k
    clear hxk hbw
    generalize hy : (halves b).getD k 0 = y at *
    have HY := Lib.hid hy
    clear hy
    have hk0 : (0 : Int) ≤ (k : Int) := by omega
    have hk1 : (k : Int) < (la : Int) := by omega
    have hw1 : IntKind.i64.wrap ((x : Int) - (y : Int)) = (x : Int) - (y : Int) := IntWalk.i64_in _ (by omega)
    have hw2 : IntKind.i64.wrap ((x : Int) - (y : Int) - (r : Int)) = (x : Int) - (y : Int) - (r : Int) := IntWalk.i64_in _ (by omega)
    have hat : ∀ j : Nat, Calls Tryz.prog 128 #[.slice p2 lb c2, .int .i64 (k : Int)] (wr.drewN j) fun e w' => e = .returned (.int .i64 (y : Int)) ∧ wr.drewN j = w' := fun j => by
     have := at01_any _ _ k (halves b) _ (Rd.drewN HRB.out j)
     rwa [HY.out] at this
    have HAT := Lib.hid hat
    clear hat
    go_wp2_with fail
    go_quiet ((go_at_call 128; exact quiet_pure (HAT.out _) ⟨_, rfl⟩))
    clear hw1 hw2 hk0 hk1 hcx
    by_cases hneg : (x : Int) - (y : Int) - (r : Int) < 0
    ·go_wp2_with (at_builtin; refine wpList_append_one (w := wr.drewN nq) rfl _ _ 135 rfl B2 3 i0 (.int .i64 0) 8 Tryz.underlying135 hi hz0 hz1 hz2 rfl (Own.drewN HO.out nq) rfl rfl (d := x + 65536 - y - r) (by omega) (by omega) (by omega) hbs ?_; intro v1 w3 hown1 hkeep1)
     have HO4 := Lib.hid hown1
     have HB4 := Lib.hid (hkeep1 w2 (Below.drewN HBW.out nq))
     clear hown1 hkeep1
     go_wp2_with fail
     go_roundw
     case rel =>
      have hst := sub01_step (d := x + 65536 - y - r) (r' := 1) HDL.out HDH.out HDV.out HX.out HY.out (by omega) (by omega)
      exact ⟨k + 1, 1, ds ++ [x + 65536 - y - r], by omega, by simp [HDL.out], by go_num, rfl, by omega, hst.1, hst.2, HO4.out, HB4.out⟩
     case measure => simp [intOf]; omega
    ·go_wp2_with (at_builtin; refine wpList_append_one (w := wr.drewN nq) rfl _ _ 135 rfl B2 3 i0 (.int .i64 0) 8 Tryz.underlying135 hi hz0 hz1 hz2 rfl (Own.drewN HO.out nq) rfl rfl (d := x - y - r) (by omega) (by omega) (by omega) hbs ?_; intro v1 w3 hown1 hkeep1)
     have HO4 := Lib.hid hown1
     have HB4 := Lib.hid (hkeep1 w2 (Below.drewN HBW.out nq))
     clear hown1 hkeep1
     go_wp2_with fail
     go_roundw
     case rel =>
      have hst := sub01_step (d := x - y - r) (r' := 0) HDL.out HDH.out HDV.out HX.out HY.out (by omega) (by omega)
      exact ⟨k + 1, 0, ds ++ [x - y - r], by omega, by simp [HDL.out], by go_num, rfl, by omega, hst.1, hst.2, HO4.out, HB4.out⟩
     case measure => simp [intOf]; omega
   ·obtain rfl : k = la := by omega
    clear hbw
    go_wp2_with fail
    refine (limbs01_any _ k ds _ (Rd.own HO.out) HDH.out (by omega)).mono ?_
    rintro e w4 ⟨v4, rfl, hown, hb4⟩
    have hval : hval ds = a - b := by
     have h1 := HDV.out
     have e1 : hval ((halves a).take k) = a := by
      show val 65536 _ = _
      rw [val_take_all (Nat.le_of_eq HLA.out)]; exact hval_halves a
     have e2 : hval ((halves b).take k) = b := by
      show val 65536 _ = _
      rw [val_take_all (by rw [HLB.out]; exact hlen)]; exact hval_halves b
     rw [e1, e2] at h1
     have h3 := hval_lt HDH.out
     rw [HDL.out] at h3
     have hba := HAB.out
     have : r = 0 := by
      rcases Nat.eq_zero_or_pos r with h | h
      ·exact h
      ·have : r = 1 := by omega
       subst this
       omega
     subst this
     omega
    rw [hval] at hown
    have HOWN := Lib.hid hown
    clear hown
    go_wp2_with fail
    refine hR'.out _ _ ⟨.inr ⟨by have := HAB.out; omega, v4, rfl, ?_⟩, (HB2.out.trans (HBW.out.mono hB2s')).trans (hb4.mono (by omega))⟩
    exact Own.mono HOWN.out (by omega)

end Go.Proofs.YtofdiijioejljaaGreat
