/- What the reference of the limb layer computes, part D: quotient with a limb, difference, sums of rows. -/
import Derived.Test.YtfffohhcabcefaaRef01C
import Derived.Test.YtfffohhcabcefaaLimbD
namespace Go.Proofs.Ytfffohhcabcefaa
open Go.RowKit

def DivInv01 (w : World) (B g M d : Nat) (us : List Nat) (iv rv : Value) (wr : World) : Prop :=
  ∃ (k r : Nat) (qs : List Nat), k ≤ M ∧ qs.length = M - k ∧ iv = .int .i64 ((k : Int) - 1) ∧ rv = .int .i64 (r : Int) ∧ r < d ∧ Half qs ∧
    hval qs * d + r = hval (us.drop k) ∧ wr.ownsRow B 3 1 (.slice (some ⟨g, 0, none⟩) M M) M (ints .i64 (List.replicate k 0 ++ qs)) ∧ Below B w wr

theorem set_rep_mid {qs : List Nat} {k x : Nat} : (List.replicate (k + 1) 0 ++ qs).set k x = List.replicate k 0 ++ x :: qs := by
  rw [List.replicate_succ', List.append_assoc, List.set_append_right _ _ (by simp)]
  simp

theorem DivInv01.step {w wr : World} {B g M d j r x : Nat} {us qs : List Nat} {q s : Int} (hj : j + 1 ≤ M) (hqs : qs.length = M - (j + 1)) (hr : r < d) (hl : Half qs)
    (hv : hval qs * d + r = hval (us.drop (j + 1))) (hown : wr.ownsRow B 3 1 (.slice (some ⟨g, 0, none⟩) M M) M (ints .i64 (List.replicate (j + 1) 0 ++ qs))) (hb : Below B w wr)
    (hx : us[j]? = some x) (hx4 : x < 65536) (he : q = (((r * 65536 + x) / d : Nat) : Int)) (hs : s = (((r * 65536 + x) % d : Nat) : Int)) :
    DivInv01 w B g M d us (.int .i64 ((j : Int) - 1)) (.int .i64 s) (wr.setCell ⟨g, j, none⟩ (.int .i64 q)) := by
  subst he
  subst hs
  refine ⟨j, (r * 65536 + x) % d, (r * 65536 + x) / d :: qs, by omega, by simp; omega, rfl, rfl, Nat.mod_lt _ (by omega), Dig.cons (div_ltB 65536 d r x hr hx4) hl, ?_, ?_, ?_⟩
  · show val 65536 _ * d + _ = val 65536 _
    rw [val_cons, val_drop_cons hx]
    have : val 65536 (us.drop (j + 1)) = hval qs * d + r := hv.symm
    rw [this]
    exact div_stepB 65536 d r x _ _ rfl
  · have h1 := Own.elemStore (j := j) (x := (r * 65536 + x) / d) hown
    rwa [set_rep_mid] at h1
  · exact hb.setCell (Own.lt hown).1 _

set_option maxHeartbeats 1000000 in
theorem div01_any (va : Value) (n d : Nat) (xs : List Nat) (w : World) (hr : Rd w 1 va n (ints .u32 xs)) (hx : Lim xs) (hn : n ≤ 1073741824) (hd : d < 4294967296) :
    Calls Try.prog 11 #[va, .int .u32 (d : Int)] w fun e w' => ((d = 0 ∧ e = .returned (.tuple #[.slice none 0 0, .int .u32 0, .int .i64 20])) ∨
      (d ≠ 0 ∧ ∃ v', e = .returned (.tuple #[v', .int .u32 ((nval xs % d : Nat) : Int), .int .i64 0]) ∧ w'.ownsRow w.heap.size 23 1 v' (limbs (nval xs / d)).length (ints .u32 (limbs (nval xs / d))))) ∧ Below w.heap.size w w' := by
  obtain ⟨p, c, rfl, hnc, hcm, hxl⟩ := hr.u32
  have Hr := Lib.hid hr
  have HL := Lib.hid hx
  have hlx := halves_len_nval hx
  rw [hxl] at hlx
  obtain ⟨a, ha⟩ : ∃ a, a = nval xs := ⟨_, rfl⟩
  rw [← ha] at hlx ⊢
  have HA := Lib.hid ha
  clear hr hx hxl ha
  by_cases hd0 : d = 0
  · have hdb : ((d : Int) == 0) = true := by rw [beq_iff_eq]; omega
    have HD := Lib.hid hd0
    clear hd0
    refine walk_q fun R' hR' => ?_
    go_enter Try.func11, Try.ntmps11
    go_wp2
    go_ret3
    exact hR'.out _ _ ⟨.inl ⟨HD.out, rfl⟩, Below.refl _ _⟩
  · obtain ⟨i0, hi, hz0, hz1, hz2⟩ := info_parts infoInt
    have hdb : ((d : Int) == 0) = false := by rw [beq_eq_false_iff_ne]; omega
    have hdp : 1 ≤ d := by omega
    have HD0 := Lib.hid hd0
    clear hd0
    refine walk_q fun R' hR' => ?_
    go_enter Try.func11, Try.ntmps11
    go_wp2_with fail
    refine (halves01_any _ n xs _ Hr.out HL.out hn).mono ?_
    rintro e w2 ⟨v1, rfl, hown, hb1⟩
    rw [← HA.out] at hown
    have HRA0 := Lib.hid (Rd.own hown)
    have HB2 := Lib.hid hb1
    have hB2s := hb1.size
    clear hown hb1
    obtain ⟨p1, c1, rfl, h11, h12, _⟩ := HRA0.out.i64
    generalize hla : (halves a).length = M at *
    have HLA := Lib.hid hla
    clear hla
    obtain ⟨B2, hB2e⟩ : ∃ B2, B2 = w2.heap.size := ⟨_, rfl⟩
    have HB2e := Lib.hid hB2e
    have hB2s' : w.heap.size ≤ B2 := by omega
    clear hB2e
    go_wp2_with (at_make; refine wpList_make_full _ rfl _ _ 46 rfl B2 3 i0 (.int .i64 0) 1 Try.underlying46 hi hz0 hz1 .i64 .i64 _ _ M rfl rfl rfl rfl (by rw [hz2]; omega) (by unfold maxLen; omega) (Nat.le_of_eq HB2e.out) ?_; intro w3 hown hgr)
    have Hown := Lib.hid (Own.made hown)
    have Hb3 : Hid (Below B2 w2 w3) := (Below.refl _ _).grown hgr (Nat.le_of_eq HB2e.out) (fun k hk => by cases hk)
    clear hown hgr
    go_wp2_with fail
    go_loopw [10, 9] (fun iv rv wr => DivInv01 w2 B2 w2.heap.size M d (halves a) iv rv wr) (fun iv _ _ => (intOf iv + 1).toNat)
    case atStart => exact ⟨M, 0, [], Nat.le_refl _, by simp, rfl, rfl, by omega, Dig.nil _, by rw [List.drop_of_length_le (Nat.le_of_eq HLA.out)]; simp [hval, val], by have := Hown.out; rw [List.nil_append] at this; rw [List.append_nil]; exact this, Hb3.out⟩
    case round =>
      obtain ⟨k, r, qs, hk, hqs, rfl, rfl, hrd, hl, hv, hown, hb⟩ := hrel
      have HO2 := Lib.hid hown
      have HQS := Lib.hid hqs
      have HV := Lib.hid hv
      have HLD := Lib.hid hl
      have HBW2 := Lib.hid hb
      have hbs : B2 ≤ wr.heap.size := by have := hb.size; have := HB2e.out; omega
      clear hown hqs hv hl hb
      by_cases h0 : k = 0
      · subst h0
        have hqsl : Hid (qs.length = M) := by show _ = _; rw [HQS.out]; omega
        go_wp2_with fail
        refine (limbs01_any _ M qs _ (by have := Rd.own HO2.out; simpa using this) HLD.out (by omega)).mono ?_
        rintro e w4 ⟨v4, rfl, hown, hb4⟩
        have hv := HV.out
        rw [List.drop_zero, hval_halves] at hv
        have hq : a / d = hval qs := by rw [← hv, Nat.add_comm, Nat.add_mul_div_right _ _ (by omega), Nat.div_eq_of_lt hrd, Nat.zero_add]
        have hm' : a % d = r := by rw [← hv, Nat.add_comm, Nat.add_mul_mod_self_right, Nat.mod_eq_of_lt hrd]
        have HQ := Lib.hid hq
        have HM' := Lib.hid hm'
        clear hv hq hm'
        go_wp2_with fail
        go_ret3
        refine hR'.out _ _ ⟨.inr ⟨HD0.out, v4, by rw [HM'.out]; rfl, ?_⟩, (HB2.out.trans (HBW2.out.mono hB2s')).trans (hb4.mono (by omega))⟩
        rw [HQ.out]
        exact Own.mono hown (by omega)
      · obtain ⟨j, rfl⟩ : ∃ j, k = j + 1 := ⟨k - 1, by omega⟩
        obtain ⟨b1, o1, x, rfl, _, hxk, hcx⟩ := (HRA0.out.belowB HB2e.out HBW2.out).cellAt (k := j) (by omega)
        obtain ⟨z, hz, hcell, hfro⟩ := Own.elemCell HO2.out (j := j) (by omega)
        have HXK := Lib.hid hxk
        have hx4 := (halves_half a).at hxk
        have hjj : ((j + 1 : Nat) : Int) - 1 = (j : Int) := by omega
        rw [hjj]
        clear hz hxk h0 hjj
        have HW : Hid (65536 * (r : Int) + (x : Int) = ((r * 65536 + x : Nat) : Int)) := by show _ = _; omega
        go_wp2_with fail
        rw [HW.out]
        go_roundw
        case rel => exact DivInv01.step (by omega) HQS.out hrd HLD.out HV.out HO2.out HBW2.out HXK.out hx4 (by simp) (by simp)
        case measure => simp [intOf]

def SubInv01 (w : World) (B M : Nat) (us ts : List Nat) (ov bv iv : Value) (wr : World) : Prop :=
  ∃ (k r : Nat) (ds : List Nat), k ≤ M ∧ ds.length = k ∧ iv = .int .i64 (k : Int) ∧ bv = .int .i64 (r : Int) ∧ r ≤ 1 ∧ Half ds ∧
    hval ds + hval (ts.take k) = hval (us.take k) + 65536 ^ k * r ∧ wr.ownsRow B 3 1 ov k (ints .i64 ds) ∧ Below B w wr

theorem sub01_step {k r x y d r' : Nat} {us ts ds : List Nat} (hl : ds.length = k) (hh : Half ds) (hv : hval ds + hval (ts.take k) = hval (us.take k) + 65536 ^ k * r) (hx : us.getD k 0 = x) (hy : ts.getD k 0 = y)
    (hd : d < 65536) (he : x + 65536 * r' = d + y + r) :
    Half (ds ++ [d]) ∧ hval (ds ++ [d]) + hval (ts.take (k + 1)) = hval (us.take (k + 1)) + 65536 ^ (k + 1) * r' := by
  refine ⟨Dig.append hh (Dig.cons hd (Dig.nil _)), ?_⟩
  have h1 : hval (ts.take (k + 1)) = hval (ts.take k) + 65536 ^ k * y := by rw [← hy]; exact val_take_getD 65536 ts k
  have h2 : hval (us.take (k + 1)) = hval (us.take k) + 65536 ^ k * x := by rw [← hx]; exact val_take_getD 65536 us k
  rw [hval_snoc, hl, h1, h2, Nat.pow_succ]
  exact sub_stepB 65536 _ x y r d r' _ _ _ hv he

set_option maxHeartbeats 1000000 in
theorem sub01_any (va vb : Value) (n m : Nat) (xs ys : List Nat) (w : World) (hr : Rd w 1 va n (ints .u32 xs)) (hs : Rd w 1 vb m (ints .u32 ys)) (hx : Lim xs) (hy : Lim ys) (hn : n ≤ 1073741824) (hm : m ≤ 1073741824) :
    Calls Try.prog 21 #[va, vb] w fun e w' => ((nval xs < nval ys ∧ e = .returned (.tuple #[.slice none 0 0, .int .i64 2])) ∨
      (nval ys ≤ nval xs ∧ ∃ v', e = .returned (.tuple #[v', .int .i64 0]) ∧ w'.ownsRow w.heap.size 23 1 v' (limbs (nval xs - nval ys)).length (ints .u32 (limbs (nval xs - nval ys))))) ∧ Below w.heap.size w w' := by
  obtain ⟨p, c, rfl, hnc, hcm, hxl⟩ := hr.u32
  obtain ⟨q, d, rfl, hmd, hdm, hyl⟩ := hs.u32
  obtain ⟨i0, hi, hz0, hz1, hz2⟩ := info_parts infoInt
  have Hr := Lib.hid hr
  have Hs := Lib.hid hs
  have HL := Lib.hid hx
  have HM := Lib.hid hy
  have hlx := halves_len_nval hx
  have hly := halves_len_nval hy
  rw [hxl] at hlx
  rw [hyl] at hly
  obtain ⟨a, ha⟩ : ∃ a, a = nval xs := ⟨_, rfl⟩
  obtain ⟨b, hb⟩ : ∃ b, b = nval ys := ⟨_, rfl⟩
  rw [← ha] at hlx ⊢
  rw [← hb] at hly ⊢
  have HA := Lib.hid ha
  have HBb := Lib.hid hb
  clear hr hs hx hy hxl hyl ha hb
  refine walk_q fun R' hR' => ?_
  go_enter Try.func21, Try.ntmps21
  go_wp2_with fail
  refine (cmp01_any _ _ n m xs ys _ Hr.out Hs.out HL.out HM.out hn hm).mono ?_
  rintro e w0 ⟨rfl, hb0⟩
  rw [← HA.out, ← HBb.out]
  have HB0 := Lib.hid hb0
  have hB0s := hb0.size
  clear hb0
  by_cases hab : a < b
  · have hc : ncmp a b < 0 := ncmp_neg.2 hab
    generalize ncmp a b = cv at hc ⊢
    go_wp2_with fail
    exact hR'.out _ _ ⟨.inl ⟨hab, rfl⟩, HB0.out⟩
  · have hc : 0 ≤ ncmp a b := by have := mt (@ncmp_neg a b).1 hab; omega
    generalize ncmp a b = cv at hc ⊢
    have hlen : (halves b).length ≤ (halves a).length := digs_len_mono (by omega) (by omega)
    have HAB := Lib.hid hab
    clear hab
    go_wp2_with fail
    refine (halves01_any _ n xs _ (Hr.out.below HB0.out) HL.out hn).mono ?_
    rintro e w1 ⟨v1, rfl, hown, hb1⟩
    rw [← HA.out] at hown
    have HO1 := Lib.hid (Rd.own hown)
    have HB1 := Lib.hid (HB0.out.trans (hb1.mono hB0s))
    have hB1s := hb1.size
    clear hown hb1
    go_wp2_with fail
    refine (halves01_any _ m ys _ (Hs.out.below HB1.out) HM.out hm).mono ?_
    rintro e w2 ⟨v2, rfl, hown, hb2⟩
    rw [← HBb.out] at hown
    have HRA0 := Lib.hid (HO1.out.below hb2)
    have HRB0 := Lib.hid (Rd.own hown)
    have HB2 := Lib.hid (HB1.out.trans (hb2.mono HB1.out.size))
    have hB2s := hb2.size
    clear hown hb2 HO1 HB1
    obtain ⟨p1, c1, rfl, h11, h12, _⟩ := HRA0.out.i64
    obtain ⟨p2, c2, rfl, h21, h22, _⟩ := HRB0.out.i64
    generalize hla : (halves a).length = la at *
    generalize hlb : (halves b).length = lb at *
    have HLA := Lib.hid hla
    have HLB := Lib.hid hlb
    clear hla hlb
    obtain ⟨B2, hB2e⟩ : ∃ B2, B2 = w2.heap.size := ⟨_, rfl⟩
    have HB2e := Lib.hid hB2e
    have hB2s' : w.heap.size ≤ B2 := by omega
    clear hB2e
    go_wp2_with fail
    go_loopw [8, 9, 10] (fun ov bv iv wr => SubInv01 w2 B2 la (halves a) (halves b) ov bv iv wr) (fun _ _ iv _ => la - (intOf iv).toNat)
    case atStart => exact ⟨0, 0, [], Nat.zero_le _, rfl, rfl, rfl, by omega, Dig.nil _, by rw [take_zero_val, take_zero_val]; simp [hval, val], World.ownsRow_nil _ _ _ _, Below.refl _ _⟩
    case round =>
      obtain ⟨k, r, ds, hk, hdl, rfl, rfl, hr1, hdh, hdv, hown, hbw⟩ := hrel
      have HO := Lib.hid hown
      have HDL := Lib.hid hdl
      have HDH := Lib.hid hdh
      have HDV := Lib.hid hdv
      have HBW := Lib.hid hbw
      have hbs : B2 ≤ wr.heap.size := by have := hbw.size; have := HB2e.out; omega
      have HRB := Lib.hid (HRB0.out.belowB HB2e.out hbw)
      clear hown hdl hdh hdv
      by_cases hkl : k < la
      · obtain ⟨b1, o1, x, rfl, _, hxk, hcx⟩ := (HRA0.out.belowB HB2e.out hbw).cellAt hkl
        have hx4 := (halves_half a).at hxk
        have HX : Hid ((halves a).getD k 0 = x) := by show _ = _; rw [List.getD, hxk]; rfl
        have hy4 := getD_half (halves_half b) k
        clear hxk hbw
        generalize hy : (halves b).getD k 0 = y at *
        have HY := Lib.hid hy
        clear hy
        have hk0 : (0 : Int) ≤ (k : Int) := by omega
        have hk1 : (k : Int) < (la : Int) := by omega
        have hw1 : IntKind.i64.wrap ((x : Int) - (y : Int)) = (x : Int) - (y : Int) := IntWalk.i64_in _ (by omega)
        have hw2 : IntKind.i64.wrap ((x : Int) - (y : Int) - (r : Int)) = (x : Int) - (y : Int) - (r : Int) := IntWalk.i64_in _ (by omega)
        have hat : ∀ j : Nat, Calls Try.prog 36 #[.slice p2 lb c2, .int .i64 (k : Int)] (wr.drewN j) fun e w' => e = .returned (.int .i64 (y : Int)) ∧ wr.drewN j = w' := fun j => by
          have := at01_any _ _ k (halves b) _ (Rd.drewN HRB.out j)
          rwa [HY.out] at this
        have HAT := Lib.hid hat
        clear hat
        go_wp2_with fail
        go_quiet ((go_at_call 36; exact quiet_pure (HAT.out _) ⟨_, rfl⟩))
        clear hw1 hw2 hk0 hk1 hcx
        by_cases hneg : (x : Int) - (y : Int) - (r : Int) < 0
        · go_wp2_with (at_builtin; refine wpList_append_one (w := wr.drewN nq) rfl _ _ 46 rfl B2 3 i0 (.int .i64 0) 8 Try.underlying46 hi hz0 hz1 hz2 rfl (Own.drewN HO.out nq) rfl rfl (d := x + 65536 - y - r) (by omega) (by omega) (by omega) hbs ?_; intro v1 w3 hown1 hkeep1)
          have HO4 := Lib.hid hown1
          have HB4 := Lib.hid (hkeep1 w2 (Below.drewN HBW.out nq))
          clear hown1 hkeep1
          go_wp2_with fail
          go_roundw
          case rel =>
            have hst := sub01_step (d := x + 65536 - y - r) (r' := 1) HDL.out HDH.out HDV.out HX.out HY.out (by omega) (by omega)
            exact ⟨k + 1, 1, ds ++ [x + 65536 - y - r], by omega, by simp [HDL.out], by go_num, rfl, by omega, hst.1, hst.2, HO4.out, HB4.out⟩
          case measure => simp [intOf]; omega
        · go_wp2_with (at_builtin; refine wpList_append_one (w := wr.drewN nq) rfl _ _ 46 rfl B2 3 i0 (.int .i64 0) 8 Try.underlying46 hi hz0 hz1 hz2 rfl (Own.drewN HO.out nq) rfl rfl (d := x - y - r) (by omega) (by omega) (by omega) hbs ?_; intro v1 w3 hown1 hkeep1)
          have HO4 := Lib.hid hown1
          have HB4 := Lib.hid (hkeep1 w2 (Below.drewN HBW.out nq))
          clear hown1 hkeep1
          go_wp2_with fail
          go_roundw
          case rel =>
            have hst := sub01_step (d := x - y - r) (r' := 0) HDL.out HDH.out HDV.out HX.out HY.out (by omega) (by omega)
            exact ⟨k + 1, 0, ds ++ [x - y - r], by omega, by simp [HDL.out], by go_num, rfl, by omega, hst.1, hst.2, HO4.out, HB4.out⟩
          case measure => simp [intOf]; omega
      · obtain rfl : k = la := by omega
        clear hbw
        go_wp2_with fail
        refine (limbs01_any _ k ds _ (Rd.own HO.out) HDH.out (by omega)).mono ?_
        rintro e w4 ⟨v4, rfl, hown, hb4⟩
        have hval : hval ds = a - b := by
          have h1 := HDV.out
          have e1 : hval ((halves a).take k) = a := by
            show val 65536 _ = _
            rw [val_take_all (Nat.le_of_eq HLA.out)]; exact hval_halves a
          have e2 : hval ((halves b).take k) = b := by
            show val 65536 _ = _
            rw [val_take_all (by rw [HLB.out]; exact hlen)]; exact hval_halves b
          rw [e1, e2] at h1
          have h3 := hval_lt HDH.out
          rw [HDL.out] at h3
          have hba := HAB.out
          have : r = 0 := by
            rcases Nat.eq_zero_or_pos r with h | h
            · exact h
            · have : r = 1 := by omega
              subst this
              omega
          subst this
          omega
        rw [hval] at hown
        have HOWN := Lib.hid hown
        clear hown
        go_wp2_with fail
        refine hR'.out _ _ ⟨.inr ⟨by have := HAB.out; omega, v4, rfl, ?_⟩, (HB2.out.trans (HBW.out.mono hB2s')).trans (hb4.mono (by omega))⟩
        exact Own.mono HOWN.out (by omega)

def SumInv01 (w : World) (B : Nat) (rows : List (List Nat)) (ov iv : Value) (wr : World) : Prop :=
  ∃ k, k ≤ rows.length ∧ iv = .int .i64 (k : Int) ∧ wr.ownsRow B 23 1 ov (limbs (nsum (rows.take k))).length (ints .u32 (limbs (nsum (rows.take k)))) ∧ Below B w wr

set_option maxHeartbeats 1000000 in
theorem sum01_any (va : Value) (rows : List (List Nat)) (w : World) (hr : RdRows w va rows) (hx : ∀ xs ∈ rows, Lim xs ∧ xs.length ≤ 1048576) (hn : rows.length ≤ 1048576) :
    Calls Try.prog 25 #[va] w fun e w' => ∃ v', e = .returned v' ∧ w'.ownsRow w.heap.size 23 1 v' (limbs (nsum rows)).length (ints .u32 (limbs (nsum rows))) ∧ Below w.heap.size w w' := by
  obtain ⟨p, c, rfl, hnc, hcm⟩ := hr.form
  have Hr := Lib.hid hr
  have HL := Lib.hid hx
  obtain ⟨B, hB⟩ : ∃ B, B = w.heap.size := ⟨_, rfl⟩
  have HB := Lib.hid hB
  obtain ⟨N, hN⟩ : ∃ N, N = rows.length := ⟨_, rfl⟩
  rw [← hN] at hnc hn ⊢
  have HN := Lib.hid hN
  rw [← hB]
  clear hx hr hB hN
  refine walk_q fun R' hR' => ?_
  go_enter Try.func25, Try.ntmps25
  go_wp2
  go_loopw [3, 4] (fun ov iv wr => SumInv01 w B rows ov iv wr) (fun _ iv _ => N - (intOf iv).toNat)
  case atStart => exact ⟨0, Nat.zero_le _, rfl, by simp [nsum, limbs_zero]; exact World.ownsRow_nil _ _ _ _, Below.refl _ _⟩
  case round =>
    obtain ⟨k, hk, rfl, hown, hb⟩ := hrel
    have HO := Lib.hid hown
    have HBW := Lib.hid hb
    rw [← HN.out] at hk
    clear hown hb
    by_cases hkn : k < N
    · obtain ⟨b1, o1, u, xs, rfl, hxk, hcx, hru⟩ := ((Hr.out.below (by have := HBW.out; rwa [HB.out] at this)).at (k := k) (by rw [← HN.out]; exact hkn))
      have HXK := Lib.hid hxk
      have HRU := Lib.hid hru
      clear hxk hru
      have hbs : B ≤ wr.heap.size := by have := HBW.out.size; have := HB.out; omega
      obtain ⟨hl1, hl2⟩ := HL.out xs (List.mem_of_getElem? HXK.out)
      have hlen : (limbs (nsum (rows.take k))).length ≤ 1048577 := nsum_len (M := 1048576) (fun ys hy => HL.out ys (List.mem_of_mem_take hy)) (by rw [List.length_take]; have := HN.out; omega)
      go_wp2_with fail
      refine (add01_any _ _ _ _ _ _ _ (Rd.own HO.out) HRU.out (limbs_lim _) hl1 (by omega) (by omega)).mono ?_
      rintro e w2 ⟨v', rfl, hown2, hb2⟩
      rw [nval_limbs, ← nsum_snoc, ← take_succ_snoc HXK.out] at hown2
      have HO2 := Lib.hid (Own.mono hown2 hbs)
      have HB2 := Lib.hid (HBW.out.trans (hb2.mono hbs))
      clear hown2 hb2
      go_wp2_with fail
      go_roundw
      case rel => exact ⟨k + 1, by rw [← HN.out]; omega, by go_num, HO2.out, HB2.out⟩
      case measure => simp [intOf]; omega
    · obtain rfl : k = N := by omega
      go_wp2_with fail
      refine hR'.out _ _ ⟨_, rfl, ?_, HBW.out⟩
      have := HO.out
      rwa [List.take_of_length_le (by rw [HN.out]; exact Nat.le_refl _)] at this

end Go.Proofs.Ytfffohhcabcefaa
