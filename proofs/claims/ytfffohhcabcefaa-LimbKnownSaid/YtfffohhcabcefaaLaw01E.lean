/- The statement LimbBack of layer 1: walked, over every argument. -/
import Derived.Test.YtfffohhcabcefaaLaw01D
namespace Go.Proofs.Ytfffohhcabcefaa
open Go.RowKit

theorem cmp_b (va vb : Value) (n m : Nat) (xs ys : List Nat) (w : World) (hr : Rd w 1 va n (ints .u32 xs)) (hs : Rd w 1 vb m (ints .u32 ys)) (hx : Lim xs) (hy : Lim ys) :
    Calls Try.prog 19 #[va, vb] w fun e w' => e = .returned (.int .i64 (ncmp (nval xs) (nval ys))) ∧ Below w.heap.size w w' := by
  refine (cmp_any va vb n m xs ys w hr hs hx hy).mono ?_
  rintro e w' ⟨rfl, k, rfl⟩
  exact ⟨rfl, Below.drewN (Below.refl _ _) k⟩
theorem sub_back (va vb : Value) (n m a b : Nat) (xs ys : List Nat) (w : World) (hr : Rd w 1 va n (ints .u32 xs)) (hs : Rd w 1 vb m (ints .u32 ys)) (hx : Lim xs) (hy : Lim ys) (hn : n ≤ 1073741824) (hv : nval xs = a + b) (hw : nval ys = b) :
    Calls Try.prog 18 #[va, vb] w fun e w' => (∃ v', e = .returned (.tuple #[v', .int .i64 0]) ∧ IsNat w' w.heap.size v' a) ∧ Below w.heap.size w w' := by
  refine (sub_any va vb n m xs ys w hr hs hx hy hn).mono ?_
  rintro e w' ⟨⟨h, _⟩ | ⟨_, v', rfl, hown⟩, hb⟩
  · omega
  · rw [hv, hw, Nat.add_sub_cancel] at hown
    exact ⟨⟨v', rfl, hown⟩, hb⟩
theorem serr_small {x N : Nat} (h : N ≤ 2000) : serr x (N : Int) = 0 ∧ sval x (N : Int) = x * 2 ^ N := by
  have h1 : ¬ (x ≠ 0 ∧ 65536 < (N : Int)) := by omega
  refine ⟨by rw [serr, if_neg h1], ?_⟩
  rw [sval, if_neg h1, shiftN, if_pos (by omega)]; simp
theorem serr_back {x N : Nat} : serr (x * 2 ^ N) (-(N : Int)) = 0 ∧ sval (x * 2 ^ N) (-(N : Int)) = x := by
  have h1 : ¬ (x * 2 ^ N ≠ 0 ∧ 65536 < -(N : Int)) := by omega
  refine ⟨by rw [serr, if_neg h1], ?_⟩
  rw [sval, if_neg h1, shiftN]
  by_cases h0 : N = 0
  · subst h0; simp
  · rw [if_neg (by omega), Int.neg_neg, Int.toNat_natCast]
    exact Nat.mul_div_cancel _ (Nat.pow_pos (by omega))

set_option maxRecDepth 100000 in
set_option maxHeartbeats 8000000 in
theorem limbBack_any (va vb : Value) (n m d N : Nat) (xs ys : List Nat) (w : World) (hr : Rd w 1 va n (ints .u32 xs)) (hs : Rd w 1 vb m (ints .u32 ys)) (hx : Lim xs) (hy : Lim ys) (hd : d < 4294967296) (hN : N < 65536) :
    Calls Try.prog 5 #[va, vb, .int .u32 (d : Int), .int .u16 (N : Int)] w fun e w' => e = .returned (.bool true) ∧ Below w.heap.size w w' := by
  obtain ⟨p, c, rfl, hnc, hcm, hxl⟩ := hr.u32
  obtain ⟨q, c', rfl, hmc, hcm', hyl⟩ := hs.u32
  have Hr := Lib.hid hr
  have Hs := Lib.hid hs
  have HL := Lib.hid hx
  have HM := Lib.hid hy
  have hbl := blen_nval hx
  rw [hxl] at hbl
  clear hr hs hx hy hxl hyl
  by_cases hbig : 60 < n ∨ 60 < m ∨ 2000 < N
  · have hg : (60 < (n : Int)) ∨ ¬ (60 < (n : Int)) ∧ (60 < (m : Int)) ∨ ¬ (60 < (n : Int)) ∧ ¬ (60 < (m : Int)) ∧ 2000 < (N : Int) := by omega
    clear hbig
    rcases hg with h1 | ⟨h1, h2⟩ | ⟨h1, h2, h3⟩
    all_goals
      refine walk_q fun R' hR' => ?_
      go_enter Try.func5, Try.ntmps5
      go_wp2_with fail
      refine (works_any _).mono ?_
      rintro e w1 ⟨rfl, hb⟩
      go_wp2_with fail
      exact hR'.out _ _ ⟨rfl, hb⟩
  · have hn : n ≤ 60 := by omega
    have hm : m ≤ 60 := by omega
    have hN2 : N ≤ 2000 := by omega
    clear hbig
    obtain ⟨a, ha⟩ : ∃ a, a = nval xs := ⟨_, rfl⟩
    obtain ⟨b, hb⟩ : ∃ b, b = nval ys := ⟨_, rfl⟩
    rw [← ha] at hbl
    have HA := Lib.hid ha.symm
    have HB := Lib.hid hb.symm
    have hAl : (limbs a).length ≤ 60 := by rw [ha]; exact Nat.le_trans (limbs_len_le HL.out) (by obtain ⟨_, _, _, _, _, h⟩ := Hr.out.u32; omega)
    have hBl : (limbs b).length ≤ 60 := by rw [hb]; exact Nat.le_trans (limbs_len_le HM.out) (by obtain ⟨_, _, _, _, _, h⟩ := Hs.out.u32; omega)
    have hABl : (limbs (a + b)).length ≤ 61 := by
      apply limbs_length_le
      have h1 := lt_pow_limbs a
      have h2 := lt_pow_limbs b
      have h3 := Nat.pow_le_pow_right (show 0 < 4294967296 by omega) hAl
      have h4 := Nat.pow_le_pow_right (show 0 < 4294967296 by omega) hBl
      rw [Nat.pow_succ]; omega
    have hSl : (limbs (a * 2 ^ N)).length ≤ 123 := by have := len_mul_two_pow a N; omega
    clear ha hb
    refine walk_q fun R' hR' => ?_
    go_enter Try.func5, Try.ntmps5
    go_wp2_with fail
    refine (add_any _ _ n m xs ys _ Hr.out Hs.out HL.out HM.out (by omega) (by omega)).mono ?_
    rintro e w1 ⟨v1, rfl, hown1, hb1⟩
    rw [HA.out, HB.out] at hown1
    have HO1 := Lib.hid (show IsNat w1 w.heap.size v1 (a + b) from hown1)
    have HB1 := Lib.hid hb1
    have HRa1 := Lib.hid (Hr.out.below hb1)
    have HRb1 := Lib.hid (Hs.out.below hb1)
    clear hown1 hb1
    go_wp2_with fail
    refine (sub_back _ _ _ m a b _ ys _ HO1.out.rd HRb1.out (limbs_lim _) HM.out (by omega) (nval_limbs _) HB.out).mono ?_
    rintro e w2 ⟨⟨v2, rfl, hown2⟩, hb2⟩
    have HO2 := Lib.hid hown2
    have HB2 := Lib.hid hb2
    have HO1a := Lib.hid (HO1.out.below hb2)
    have HRa2 := Lib.hid (HRa1.out.below hb2)
    have HRb2 := Lib.hid (HRb1.out.below hb2)
    clear hown2 hb2 HO1 HRa1 HRb1
    go_wp2_with fail
    refine (sub_back _ _ _ n b a _ xs _ HO1a.out.rd HRa2.out (limbs_lim _) HL.out (by omega) (by rw [nval_limbs, Nat.add_comm]) HA.out).mono ?_
    rintro e w3 ⟨⟨v3, rfl, hown3⟩, hb3⟩
    have HO3 := Lib.hid hown3
    have HB3 := Lib.hid (Below.thn HB2.out hb3)
    have HO1b := Lib.hid (HO1a.out.below hb3)
    have HO2b := Lib.hid (HO2.out.below hb3)
    have HRa3 := Lib.hid (HRa2.out.below hb3)
    have HRb3 := Lib.hid (HRb2.out.below hb3)
    clear hown3 hb3 HO1a HO2 HRa2 HRb2 HB2
    go_wp2_with fail
    refine (cmp_b _ _ _ n _ xs _ HO2b.out.rd HRa3.out (limbs_lim _) HL.out).mono ?_
    rintro e w4 ⟨rfl, hb4⟩
    rw [nval_limbs, HA.out, ncmp_eq]
    have HB4 := Lib.hid (Below.thn HB3.out hb4)
    have HO1c := Lib.hid (HO1b.out.below hb4)
    have HO3c := Lib.hid (HO3.out.below hb4)
    have HRa4 := Lib.hid (HRa3.out.below hb4)
    have HRb4 := Lib.hid (HRb3.out.below hb4)
    clear hb4 HO1b HO2b HO3 HRa3 HRb3 HB3
    go_wp2_with fail
    refine (cmp_b _ _ _ m _ ys _ HO3c.out.rd HRb4.out (limbs_lim _) HM.out).mono ?_
    rintro e w5 ⟨rfl, hb5⟩
    rw [nval_limbs, HB.out, ncmp_eq]
    have HB5 := Lib.hid (Below.thn HB4.out hb5)
    have HO1d := Lib.hid (HO1c.out.below hb5)
    have HRa5 := Lib.hid (HRa4.out.below hb5)
    have HRb5 := Lib.hid (HRb4.out.below hb5)
    clear hb5 HO1c HO3c HRa4 HRb4 HB4
    go_wp2_with fail
    refine (cmp_b _ _ _ n _ xs _ HO1d.out.rd HRa5.out (limbs_lim _) HL.out).mono ?_
    rintro e w6 ⟨rfl, hb6⟩
    rw [nval_limbs, HA.out]
    have hc1 : 0 ≤ ncmp (a + b) a := by have := mt (@ncmp_neg (a + b) a).1 (by omega); omega
    generalize ncmp (a + b) a = cv1 at hc1 ⊢
    have HB6 := Lib.hid (Below.thn HB5.out hb6)
    have HO1e := Lib.hid (HO1d.out.below hb6)
    have HRa6 := Lib.hid (HRa5.out.below hb6)
    have HRb6 := Lib.hid (HRb5.out.below hb6)
    clear hb6 HO1d HRa5 HRb5 HB5
    go_wp2_with fail
    refine (cmp_b _ _ _ m _ ys _ HO1e.out.rd HRb6.out (limbs_lim _) HM.out).mono ?_
    rintro e w7 ⟨rfl, hb7⟩
    rw [nval_limbs, HB.out]
    have hc2 : 0 ≤ ncmp (a + b) b := by have := mt (@ncmp_neg (a + b) b).1 (by omega); omega
    generalize ncmp (a + b) b = cv2 at hc2 ⊢
    have HB7 := Lib.hid (Below.thn HB6.out hb7)
    have HRa7 := Lib.hid (HRa6.out.below hb7)
    clear hb7 HO1e HRa6 HRb6 HB6
    have hdc : d = 0 ∧ ((d : Int) == 0) = true ∨ d ≠ 0 ∧ ((d : Int) == 0) = false := by
      by_cases h : d = 0
      · left; exact ⟨h, by rw [beq_iff_eq]; omega⟩
      · right; exact ⟨h, by rw [beq_eq_false_iff_ne]; omega⟩
    go_wp2_with fail
    refine (divSmall_any _ n d xs _ HRa7.out HL.out (by omega) hd).mono ?_
    rintro e w8 ⟨hdiv, hb8⟩
    have HB8 := Lib.hid (Below.thn HB7.out hb8)
    have HRa8 := Lib.hid (HRa7.out.below hb8)
    clear hb8 HRa7 HB7
    have hbits : ((a = 0 ∧ ((blen a : Int) == 0) = true) ∨ (a ≠ 0 ∧ ((blen a : Int) == 0) = false ∧ 0 < (blen a : Int))) := by
      by_cases h : a = 0
      · left; refine ⟨h, ?_⟩; rw [h]; rfl
      · right
        have := blen_pos h
        exact ⟨h, by rw [beq_eq_false_iff_ne]; omega, by omega⟩
    have HBITS := Lib.hid hbits
    obtain ⟨wd, hwd⟩ : ∃ wd, wd = w8 := ⟨_, rfl⟩
    have HWD := Lib.hid hwd
    clear hbits hwd
    rcases hdiv with ⟨h0, rfl⟩ | ⟨h0, v4, rfl, hown4⟩
    · have hdb : ((d : Int) == 0) = true := by rw [beq_iff_eq]; omega
      clear hdc
      have HBc := Lib.hid HB8.out
      have HRac := Lib.hid HRa8.out
      clear HB8 HRa8 h0
      go_wp2_with fail
      refine (shift_u _ n a (N : Int) xs _ HRac.out HL.out HA.out (by omega) (by omega) (by omega)).mono ?_
      rintro e w12 ⟨⟨v5, rfl, hown5⟩, hb5⟩
      rw [(serr_small (x := a) hN2).1]
      rw [(serr_small (x := a) hN2).2] at hown5
      have HO12 := Lib.hid hown5
      have HB12 := Lib.hid (Below.thn HBc.out hb5)
      have HRa12 := Lib.hid (HRac.out.below hb5)
      clear hown5 hb5 HBc HRac
      go_wp2_with fail
      refine (shift_u _ _ (a * 2 ^ N) (-(N : Int)) _ _ HO12.out.rd (limbs_lim _) (nval_limbs _) (by omega) (by omega) (by omega)).mono ?_
      rintro e w13 ⟨⟨v8, rfl, hown8⟩, hb8⟩
      rw [(serr_back (x := a) (N := N)).1]
      rw [(serr_back (x := a) (N := N)).2] at hown8
      have HO13 := Lib.hid hown8
      have HO12a := Lib.hid (HO12.out.below hb8)
      have HB13 := Lib.hid (Below.thn HB12.out hb8)
      have HRa13 := Lib.hid (HRa12.out.below hb8)
      clear hown8 hb8 HO12 HB12 HRa12
      go_wp2_with fail
      refine (bits_any _ n xs _ HRa13.out HL.out (by omega)).mono ?_
      rintro e w14 ⟨rfl, hb14⟩
      rw [HA.out]
      have HO14 := Lib.hid (HO13.out.below hb14)
      have HO12b := Lib.hid (HO12a.out.below hb14)
      have HB14 := Lib.hid (Below.thn HB13.out hb14)
      have HRa14 := Lib.hid (HRa13.out.below hb14)
      clear hb14 HO13 HO12a HB13 HRa13
      go_wp2_with fail
      refine (cmp_b _ _ _ n _ xs _ HO14.out.rd HRa14.out (limbs_lim _) HL.out).mono ?_
      rintro e w15 ⟨rfl, hb15⟩
      rw [nval_limbs, HA.out, ncmp_eq]
      have HO15 := Lib.hid (HO12b.out.below hb15)
      have HB15 := Lib.hid (Below.thn HB14.out hb15)
      clear hb15 HO12b HO14 HB14 HRa14
      rcases HBITS.out with ⟨h1, h2⟩ | ⟨h1, h2, h3⟩
      · have HA0 := Lib.hid h1
        clear h1
        go_wp2_with fail
        refine (bits_any _ _ _ _ HO15.out.rd (limbs_lim _) (by omega)).mono ?_
        rintro e w16 ⟨rfl, hb16⟩
        rw [nval_limbs, show blen (a * 2 ^ N) = 0 by rw [HA0.out, Nat.zero_mul]; rfl]
        have HB16 := Lib.hid (Below.thn HB15.out hb16)
        clear hb16 HB15
        go_wp2_with fail
        refine (works_any _).mono ?_
        rintro e w17 ⟨rfl, hb17⟩
        go_wp2_with fail
        exact hR'.out _ _ ⟨rfl, Below.thn HB1.out (Below.thn HB16.out hb17)⟩
      · have HA0 := Lib.hid h1
        clear h1
        go_wp2_with fail
        refine (bits_any _ _ _ _ HO15.out.rd (limbs_lim _) (by omega)).mono ?_
        rintro e w16 ⟨rfl, hb16⟩
        rw [nval_limbs, blen_shift N HA0.out]
        have HB16 := Lib.hid (Below.thn HB15.out hb16)
        clear hb16 HB15
        generalize blen a = bl at *
        go_wp2_with fail
        refine (works_any _).mono ?_
        rintro e w17 ⟨rfl, hb17⟩
        go_wp2_with fail
        exact hR'.out _ _ ⟨rfl, Below.thn HB1.out (Below.thn HB16.out hb17)⟩
    · have hdb : ((d : Int) == 0) = false := by rw [beq_eq_false_iff_ne]; omega
      clear hdc
      have hrd : a % d < d := Nat.mod_lt _ (by omega)
      rw [HA.out] at hown4 ⊢
      have hsum : a / d * d + a % d = a := Nat.div_add_mod' a d
      have hmul : a / d * d ≤ a := by omega
      have hql : (limbs (a / d)).length ≤ 60 := Nat.le_trans (limbs_len_mono (Nat.div_le_self _ _)) hAl
      have hml : (limbs (a / d * d)).length ≤ 60 := Nat.le_trans (limbs_len_mono hmul) hAl
      generalize hr : a % d = r at hrd hsum ⊢
      have HR := Lib.hid hr
      have HSUM := Lib.hid hsum
      clear hr hsum hmul
      go_wp2_with fail
      refine (mulSmall_any _ _ d _ _ (Rd.own hown4) (limbs_lim _) (by omega) hd).mono ?_
      rintro e w9 ⟨v6, rfl, hown6, hb9⟩
      rw [nval_limbs] at hown6
      have HO6 := Lib.hid (show IsNat w9 w8.heap.size v6 (a / d * d) from hown6)
      have HB9 := Lib.hid (Below.thn HB8.out hb9)
      have HRa9 := Lib.hid (HRa8.out.below hb9)
      clear hown6 hb9 hown4 HB8 HRa8
      go_wp2_with fail
      refine (add_any _ _ _ 1 _ [r] _ (HO6.out.rd.alloc _) (rlit1' rfl) (limbs_lim _) (Lim.one (by omega)) (by omega) (by omega)).mono ?_
      rintro e w10 ⟨v7, rfl, hown7, hb10⟩
      rw [nval_limbs, show nval [r] = r by simp [nval, val], HSUM.out] at hown7
      have hb10' := below_alloc hb10 (Nat.le_refl _)
      have HB10 := Lib.hid (Below.thn HB9.out hb10')
      have HRa10 := Lib.hid (HRa9.out.below hb10')
      have HO7 := Lib.hid (Rd.own hown7)
      clear hown7 hb10 hb10' HB9 HRa9 HO6
      go_wp2_with fail
      refine (cmp_b _ _ _ n _ xs _ HO7.out HRa10.out (limbs_lim _) HL.out).mono ?_
      rintro e w11 ⟨rfl, hb11⟩
      rw [nval_limbs, HA.out, ncmp_eq]
      have HBc := Lib.hid (Below.thn HB10.out hb11)
      have HRac := Lib.hid (HRa10.out.below hb11)
      clear hb11 HB10 HRa10 HO7
      go_wp2_with fail
      refine (shift_u _ n a (N : Int) xs _ HRac.out HL.out HA.out (by omega) (by omega) (by omega)).mono ?_
      rintro e w12 ⟨⟨v5, rfl, hown5⟩, hb5⟩
      rw [(serr_small (x := a) hN2).1]
      rw [(serr_small (x := a) hN2).2] at hown5
      have HO12 := Lib.hid hown5
      have HB12 := Lib.hid (Below.thn HBc.out hb5)
      have HRa12 := Lib.hid (HRac.out.below hb5)
      clear hown5 hb5 HBc HRac
      go_wp2_with fail
      refine (shift_u _ _ (a * 2 ^ N) (-(N : Int)) _ _ HO12.out.rd (limbs_lim _) (nval_limbs _) (by omega) (by omega) (by omega)).mono ?_
      rintro e w13 ⟨⟨v8, rfl, hown8⟩, hb8⟩
      rw [(serr_back (x := a) (N := N)).1]
      rw [(serr_back (x := a) (N := N)).2] at hown8
      have HO13 := Lib.hid hown8
      have HO12a := Lib.hid (HO12.out.below hb8)
      have HB13 := Lib.hid (Below.thn HB12.out hb8)
      have HRa13 := Lib.hid (HRa12.out.below hb8)
      clear hown8 hb8 HO12 HB12 HRa12
      go_wp2_with fail
      refine (bits_any _ n xs _ HRa13.out HL.out (by omega)).mono ?_
      rintro e w14 ⟨rfl, hb14⟩
      rw [HA.out]
      have HO14 := Lib.hid (HO13.out.below hb14)
      have HO12b := Lib.hid (HO12a.out.below hb14)
      have HB14 := Lib.hid (Below.thn HB13.out hb14)
      have HRa14 := Lib.hid (HRa13.out.below hb14)
      clear hb14 HO13 HO12a HB13 HRa13
      go_wp2_with fail
      refine (cmp_b _ _ _ n _ xs _ HO14.out.rd HRa14.out (limbs_lim _) HL.out).mono ?_
      rintro e w15 ⟨rfl, hb15⟩
      rw [nval_limbs, HA.out, ncmp_eq]
      have HO15 := Lib.hid (HO12b.out.below hb15)
      have HB15 := Lib.hid (Below.thn HB14.out hb15)
      clear hb15 HO12b HO14 HB14 HRa14
      rcases HBITS.out with ⟨h1, h2⟩ | ⟨h1, h2, h3⟩
      · have HA0 := Lib.hid h1
        clear h1
        go_wp2_with fail
        refine (bits_any _ _ _ _ HO15.out.rd (limbs_lim _) (by omega)).mono ?_
        rintro e w16 ⟨rfl, hb16⟩
        rw [nval_limbs, show blen (a * 2 ^ N) = 0 by rw [HA0.out, Nat.zero_mul]; rfl]
        have HB16 := Lib.hid (Below.thn HB15.out hb16)
        clear hb16 HB15
        go_wp2_with fail
        refine (works_any _).mono ?_
        rintro e w17 ⟨rfl, hb17⟩
        go_wp2_with fail
        exact hR'.out _ _ ⟨rfl, Below.thn HB1.out (Below.thn HB16.out hb17)⟩
      · have HA0 := Lib.hid h1
        clear h1
        go_wp2_with fail
        refine (bits_any _ _ _ _ HO15.out.rd (limbs_lim _) (by omega)).mono ?_
        rintro e w16 ⟨rfl, hb16⟩
        rw [nval_limbs, blen_shift N HA0.out]
        have HB16 := Lib.hid (Below.thn HB15.out hb16)
        clear hb16 HB15
        generalize blen a = bl at *
        go_wp2_with fail
        refine (works_any _).mono ?_
        rintro e w17 ⟨rfl, hb17⟩
        go_wp2_with fail
        exact hR'.out _ _ ⟨rfl, Below.thn HB1.out (Below.thn HB16.out hb17)⟩

end Go.Proofs.Ytfffohhcabcefaa
