/- The statement LimbSums of layer 1: walked, over every argument. -/
import Derived.Test.YtfffohhcabcefaaLaw01E
namespace Go.Proofs.Ytfffohhcabcefaa
open Go.RowKit

def scode (a b : Nat) : Int := if a < b then 2 else 0
theorem sub_u (va vb : Value) (n m : Nat) (xs ys : List Nat) (w : World) (hr : Rd w 1 va n (ints .u32 xs)) (hs : Rd w 1 vb m (ints .u32 ys)) (hx : Lim xs) (hy : Lim ys) (hn : n ≤ 1073741824) :
    Calls Try.prog 18 #[va, vb] w fun e w' => (∃ v', e = .returned (.tuple #[v', .int .i64 (scode (nval xs) (nval ys))]) ∧ IsNat w' w.heap.size v' (nval xs - nval ys)) ∧ Below w.heap.size w w' := by
  refine (sub_any va vb n m xs ys w hr hs hx hy hn).mono ?_
  rintro e w' ⟨⟨h, rfl⟩ | ⟨h, v', rfl, hown⟩, hb⟩
  · refine ⟨⟨.slice none 0 0, by rw [scode, if_pos h], ?_⟩, hb⟩
    rw [Nat.sub_eq_zero_of_le (by omega)]; unfold IsNat; rw [limbs_zero]; exact World.ownsRow_nil _ _ _ _
  · exact ⟨⟨v', by rw [scode, if_neg (by omega)], hown⟩, hb⟩
theorem sub01_u (va vb : Value) (n m : Nat) (xs ys : List Nat) (w : World) (hr : Rd w 1 va n (ints .u32 xs)) (hs : Rd w 1 vb m (ints .u32 ys)) (hx : Lim xs) (hy : Lim ys) (hn : n ≤ 1073741824) (hm : m ≤ 1073741824) :
    Calls Try.prog 21 #[va, vb] w fun e w' => (∃ v', e = .returned (.tuple #[v', .int .i64 (scode (nval xs) (nval ys))]) ∧ IsNat w' w.heap.size v' (nval xs - nval ys)) ∧ Below w.heap.size w w' := by
  refine (sub01_any va vb n m xs ys w hr hs hx hy hn hm).mono ?_
  rintro e w' ⟨⟨h, rfl⟩ | ⟨h, v', rfl, hown⟩, hb⟩
  · refine ⟨⟨.slice none 0 0, by rw [scode, if_pos h], ?_⟩, hb⟩
    rw [Nat.sub_eq_zero_of_le (by omega)]; unfold IsNat; rw [limbs_zero]; exact World.ownsRow_nil _ _ _ _
  · exact ⟨⟨v', by rw [scode, if_neg (by omega)], hown⟩, hb⟩

/-- what the law's loop reads -/
def SumsEnv (w : World) (va vb vl vx vy : Value) (n m : Nat) (xs ys : List Nat) (rows : List (List Nat)) : Prop :=
  Rd w 1 va n (ints .u32 xs) ∧ Rd w 1 vb m (ints .u32 ys) ∧ RdRows w vl rows ∧ Rd w 1 vx n (ints .u32 xs) ∧ Rd w 1 vy m (ints .u32 ys)
theorem SumsEnv.below {w w' : World} {va vb vl vx vy : Value} {n m : Nat} {xs ys : List Nat} {rows : List (List Nat)} (h : SumsEnv w va vb vl vx vy n m xs ys rows) (hb : Below w.heap.size w w') : SumsEnv w' va vb vl vx vy n m xs ys rows :=
  ⟨h.1.below hb, h.2.1.below hb, h.2.2.1.below hb, h.2.2.2.1.below hb, h.2.2.2.2.below hb⟩

theorem two_of (k : Nat) (rows : List (List Nat)) (h : ∀ xs ∈ rows.take k, xs.length ≤ 60) (xs : List Nat) (hx : rows[k]? = some xs) (hl : xs.length ≤ 60) : ∀ ys ∈ rows.take (k + 1), ys.length ≤ 60 := by
  intro ys hy
  rw [take_succ_snoc hx] at hy
  rcases List.mem_append.1 hy with h1 | h1
  · exact h ys h1
  · rw [List.mem_singleton] at h1; subst h1; exact hl

set_option maxRecDepth 100000 in
set_option maxHeartbeats 8000000 in
theorem limbSums_any (va vb vl : Value) (n m : Nat) (xs ys : List Nat) (rows : List (List Nat)) (w : World) (hr : Rd w 1 va n (ints .u32 xs)) (hs : Rd w 1 vb m (ints .u32 ys)) (hl : RdRows w vl rows) (hx : Lim xs) (hy : Lim ys) (hz : ∀ zs ∈ rows, Lim zs) :
    Calls Try.prog 6 #[va, vb, vl] w fun e w' => e = .returned (.bool true) ∧ Below w.heap.size w w' := by
  obtain ⟨p, c, rfl, hnc, hcm, hxl⟩ := hr.u32
  obtain ⟨q, c', rfl, hmc, hcm', hyl⟩ := hs.u32
  obtain ⟨i0, hi, hz0, hz1, hz2⟩ := info_parts infoU32
  obtain ⟨N, hN⟩ : ∃ N, N = rows.length := ⟨_, rfl⟩
  obtain ⟨pl, cl, rfl, hlc, hlm⟩ := hl.form
  rw [← hN] at hlc hl ⊢
  have Hr := Lib.hid hr
  have Hs := Lib.hid hs
  have Hl := Lib.hid hl
  have HL := Lib.hid hx
  have HM := Lib.hid hy
  have HZ := Lib.hid hz
  have HN := Lib.hid hN
  clear hr hs hl hx hy hz hxl hyl hN
  by_cases hbig : 60 < n ∨ 60 < m ∨ 10 < N
  · have hg : (60 < (n : Int)) ∨ ¬ (60 < (n : Int)) ∧ (60 < (m : Int)) ∨ ¬ (60 < (n : Int)) ∧ ¬ (60 < (m : Int)) ∧ 10 < (N : Int) := by omega
    clear hbig
    rcases hg with h1 | ⟨h1, h2⟩ | ⟨h1, h2, h3⟩
    all_goals
      refine walk_q fun R' hR' => ?_
      go_enter Try.func6, Try.ntmps6
      go_wp2_with fail
      refine (works_any _).mono ?_
      rintro e w1 ⟨rfl, hb⟩
      go_wp2_with fail
      exact hR'.out _ _ ⟨rfl, hb⟩
  · have hn : n ≤ 60 := by omega
    have hm : m ≤ 60 := by omega
    have hN10 : N ≤ 10 := by omega
    clear hbig
    refine walk_q fun R' hR' => ?_
    go_enter Try.func6, Try.ntmps6
    go_wp2_with fail
    go_loop [7] (fun iv => ∃ k : Nat, k ≤ N ∧ iv = .int .i64 (k : Int) ∧ Hid (∀ zs ∈ rows.take k, zs.length ≤ 60)) (fun iv => N - (intOf iv).toNat)
    case atStart => exact ⟨0, Nat.zero_le _, rfl, fun zs h => by simp at h⟩
    case round =>
      obtain ⟨k, hk, rfl, hall⟩ := hrel
      by_cases hkN : k < N
      · obtain ⟨b1, o1, u, zs, rfl, hzk, hcz, hru⟩ := Hl.out.at (k := k) (by rw [← HN.out]; exact hkN)
        obtain ⟨pz, cz, rfl, _, _, _⟩ := hru.u32
        have HZK := Lib.hid hzk
        clear hzk hru
        by_cases hz60 : 60 < zs.length
        · generalize hzl : zs.length = L at *
          go_wp2_with fail
          refine (works_any _).mono ?_
          rintro e w1 ⟨rfl, hb⟩
          go_wp2_with fail
          exact hR'.out _ _ ⟨rfl, hb⟩
        · generalize hzl : zs.length = L at *
          have HZL := Lib.hid hzl
          clear hzl
          go_wp2_with fail
          go_round
          case rel => exact ⟨k + 1, by omega, by go_num, two_of k rows hall.out zs HZK.out (by rw [HZL.out]; omega)⟩
          case measure => simp [intOf]; omega
      · obtain rfl : k = N := by omega
        have HALL : Hid (∀ zs ∈ rows, Lim zs ∧ zs.length ≤ 1048576) := fun zs h => ⟨HZ.out zs h, by
          have := hall.out zs (by rwa [List.take_of_length_le (by rw [HN.out]; exact Nat.le_refl _)])
          omega⟩
        clear hall
        go_wp2_with (first
          | (at_builtin; refine wpList_append_rd w rfl _ _ 22 rfl w.heap.size 23 i0 (.int .u32 0) 1 4 Try.underlying22 hi hz0 hz1 hz2 rfl (by decide) (.slice none 0 0) 0 [] rfl (World.ownsRow_nil _ _ _ _) _ n _ rfl Hr.out (ints_one _ _) (by unfold maxLen; omega) (by omega) (Nat.le_refl _) ?_; intro v0 w0 hown0 hgr0)
          | (at_builtin; refine wpList_append_rd w0 rfl _ _ 22 rfl w0.heap.size 23 i0 (.int .u32 0) 1 4 Try.underlying22 hi hz0 hz1 hz2 rfl (by decide) (.slice none 0 0) 0 [] rfl (World.ownsRow_nil _ _ _ _) _ m _ rfl (Hs.out.below (Below.own_nil hgr0)) (ints_one _ _) (by unfold maxLen; omega) (by omega) (Nat.le_refl _) ?_; intro v1 w1 hown1 hgr1))
        simp only [Nat.zero_add, List.nil_append] at hown0 hown1
        have hb01 := Below.own_nil hgr1
        have HB1 := Lib.hid (Below.thn (Below.own_nil hgr0) hb01)
        obtain ⟨px, cx, rfl, _, _, _⟩ := (Rd.own hown0).u32
        obtain ⟨py, cy, rfl, _, _, _⟩ := (Rd.own hown1).u32
        have HENV1 : Hid (SumsEnv w1 (.slice p n c) (.slice q m c') (.slice pl k cl) (.slice px n cx) (.slice py m cy) n m xs ys rows) :=
          ⟨Hr.out.below HB1.out, Hs.out.below HB1.out, Hl.out.below HB1.out, (Rd.own hown0).below hb01, Rd.own hown1⟩
        clear hown0 hown1 hgr0 hgr1 hb01
        go_wp2_with fail
        go_loopw [10] (fun tv wr => ∃ t : Nat, t ≤ 2 ∧ tv = .int .i64 (t : Int) ∧ Below w1.heap.size w1 wr) (fun tv _ => 2 - (intOf tv).toNat)
        case atStart => exact ⟨0, by omega, rfl, Below.refl _ _⟩
        case round =>
          obtain ⟨t, ht, rfl, hbw⟩ := hrel
          have HBW := Lib.hid hbw
          have E1 := Lib.hid (HENV1.out.below hbw)
          clear hbw
          by_cases ht2 : t < 2
          · go_wp2_with fail
            refine (sub_u _ _ n m xs ys _ E1.out.1 E1.out.2.1 HL.out HM.out (by omega)).mono ?_
            rintro e w2 ⟨⟨v2, rfl, hown2⟩, hb2⟩
            have S2 := Lib.hid hb2
            have E2 := Lib.hid (E1.out.below hb2)
            have O2 := Lib.hid hown2
            clear hb2 E1 hown2
            generalize hE : scode (nval xs) (nval ys) = E
            have HE := Lib.hid hE
            clear hE
            go_wp2_with fail
            refine (sub01_u _ _ n m xs ys _ E2.out.2.2.2.1 E2.out.2.2.2.2 HL.out HM.out (by omega) (by omega)).mono ?_
            rintro e w3 ⟨⟨v3, rfl, hown3⟩, hb3⟩
            rw [HE.out]
            have S3 := Lib.hid hb3
            have E3 := Lib.hid (E2.out.below hb3)
            have O3 := Lib.hid hown3
            clear hb3 E2 hown3
            go_wp2_with fail
            refine (add_any _ _ n m xs ys _ E3.out.1 E3.out.2.1 HL.out HM.out (by omega) (by omega)).mono ?_
            rintro e w4 ⟨v4, rfl, hown4, hb4⟩
            have S4 := Lib.hid hb4
            have E4 := Lib.hid (E3.out.below hb4)
            have O4 := Lib.hid hown4
            clear hb4 E3 hown4
            go_wp2_with fail
            refine (sum_any _ rows _ E4.out.2.2.1 HALL.out (by have := HN.out; omega)).mono ?_
            rintro e w5 ⟨v5, rfl, hown5, hb5⟩
            have S5 := Lib.hid hb5
            have E5 := Lib.hid (E4.out.below hb5)
            have O5 := Lib.hid hown5
            clear hb5 E4 hown5
            go_wp2_with fail
            refine (trim_any _ n xs _ E5.out.1 HL.out (by omega)).mono ?_
            rintro e w6 ⟨v6, rfl, hown6, hb6⟩
            have S6 := Lib.hid hb6
            have E6 := Lib.hid (E5.out.below hb6)
            have O6 := Lib.hid hown6
            clear hb6 E5 hown6
            go_wp2_with fail
            refine (same_any _ _ _ _ _ (Rd.own (Own.below O2.out (Below.thn S3.out (Below.thn S4.out (Below.thn S5.out S6.out))))) (Rd.own (Own.below O3.out (Below.thn S4.out (Below.thn S5.out S6.out))))).mono ?_
            rintro e w7 ⟨rfl, hb7⟩
            have S7 := Lib.hid hb7
            have E7 := Lib.hid (E6.out.below hb7)
            clear hb7 E6
            go_wp2_with fail
            refine (add01_any _ _ n m xs ys _ E7.out.2.2.2.1 E7.out.2.2.2.2 HL.out HM.out (by omega) (by omega)).mono ?_
            rintro e w8 ⟨v8, rfl, hown8, hb8⟩
            have S8 := Lib.hid hb8
            have E8 := Lib.hid (E7.out.below hb8)
            have O8 := Lib.hid hown8
            clear hb8 E7 hown8
            go_wp2_with fail
            refine (same_any _ _ _ _ _ (Rd.own (Own.below O4.out (Below.thn S5.out (Below.thn S6.out (Below.thn S7.out S8.out))))) (Rd.own O8.out)).mono ?_
            rintro e w9 ⟨rfl, hb9⟩
            have S9 := Lib.hid hb9
            have E9 := Lib.hid (E8.out.below hb9)
            clear hb9 E8
            go_wp2_with fail
            refine (sum01_any _ rows _ E9.out.2.2.1 HALL.out (by have := HN.out; omega)).mono ?_
            rintro e w10 ⟨v10, rfl, hown10, hb10⟩
            have S10 := Lib.hid hb10
            have E10 := Lib.hid (E9.out.below hb10)
            have O10 := Lib.hid hown10
            clear hb10 E9 hown10
            go_wp2_with fail
            refine (same_any _ _ _ _ _ (Rd.own (Own.below O5.out (Below.thn S6.out (Below.thn S7.out (Below.thn S8.out (Below.thn S9.out S10.out)))))) (Rd.own O10.out)).mono ?_
            rintro e w11 ⟨rfl, hb11⟩
            have S11 := Lib.hid hb11
            have E11 := Lib.hid (E10.out.below hb11)
            clear hb11 E10
            go_wp2_with fail
            refine (trim01_any _ n xs _ E11.out.2.2.2.1 HL.out (by omega)).mono ?_
            rintro e w12 ⟨v12, rfl, hown12, hb12⟩
            have S12 := Lib.hid hb12
            have E12 := Lib.hid (E11.out.below hb12)
            have O12 := Lib.hid hown12
            clear hb12 E11 hown12
            go_wp2_with fail
            refine (same_any _ _ _ _ _ (Rd.own (Own.below O6.out (Below.thn S7.out (Below.thn S8.out (Below.thn S9.out (Below.thn S10.out (Below.thn S11.out S12.out))))))) (Rd.own O12.out)).mono ?_
            rintro e w13 ⟨rfl, hb13⟩
            have S13 := Lib.hid hb13
            have E13 := Lib.hid (E12.out.below hb13)
            clear hb13 E12
            have D2 := Lib.hid (Own.below O2.out (Below.thn S3.out (Below.thn S4.out (Below.thn S5.out (Below.thn S6.out (Below.thn S7.out (Below.thn S8.out (Below.thn S9.out (Below.thn S10.out (Below.thn S11.out (Below.thn S12.out S13.out)))))))))))
            have D4 := Lib.hid (Own.below O4.out (Below.thn S5.out (Below.thn S6.out (Below.thn S7.out (Below.thn S8.out (Below.thn S9.out (Below.thn S10.out (Below.thn S11.out (Below.thn S12.out S13.out)))))))))
            have D5 := Lib.hid (Own.below O5.out (Below.thn S6.out (Below.thn S7.out (Below.thn S8.out (Below.thn S9.out (Below.thn S10.out (Below.thn S11.out (Below.thn S12.out S13.out))))))))
            have D6 := Lib.hid (Own.below O6.out (Below.thn S7.out (Below.thn S8.out (Below.thn S9.out (Below.thn S10.out (Below.thn S11.out (Below.thn S12.out S13.out)))))))
            have T := Lib.hid (Below.thn S2.out (Below.thn S3.out (Below.thn S4.out (Below.thn S5.out (Below.thn S6.out (Below.thn S7.out (Below.thn S8.out (Below.thn S9.out (Below.thn S10.out (Below.thn S11.out (Below.thn S12.out S13.out)))))))))))
            have hl2 : Hid (∀ k, v2.ownBlock = some k → k < w3.heap.size) := fun k hk => Nat.lt_of_lt_of_le (O2.out.lt k hk).2 S3.out.size
            have hl4 : Hid (∀ k, v4.ownBlock = some k → k < w4.heap.size) := fun k hk => (O4.out.lt k hk).2
            have hl5 : Hid (∀ k, v5.ownBlock = some k → k < w5.heap.size) := fun k hk => (O5.out.lt k hk).2
            have hz34 : w3.heap.size ≤ w4.heap.size := S4.out.size
            have hz45 : w4.heap.size ≤ w5.heap.size := S5.out.size
            have hz1 : wr.heap.size ≤ w3.heap.size := Nat.le_trans S2.out.size S3.out.size
            have hz13 : wr.heap.size ≤ w13.heap.size := T.out.size
            clear O2 O3 O4 O5 O6 O8 O10 O12 S2 S3 S4 S5 S6 S7 S8 S9 S10 S11 S12 S13 E13
            go_wp2_with fail
            refine (spoil_any v2 _ _ _ _ D2.out).mono ?_
            rintro e w14 ⟨rfl, hg⟩
            have D4a := Lib.hid (ownsRow_kept D4.out hl2.out hg)
            have D5a := Lib.hid (ownsRow_kept D5.out (fun k hk => Nat.lt_of_lt_of_le (hl2.out k hk) hz34) hg)
            have D6a := Lib.hid (ownsRow_kept D6.out (fun k hk => Nat.lt_of_lt_of_le (hl2.out k hk) (Nat.le_trans hz34 hz45)) hg)
            have T1 := Lib.hid (Below.spoiled T.out D2.out hg hz13 (Nat.le_refl _))
            clear hg D2 D4 D5 D6 T hl2
            go_wp2_with fail
            refine (spoil_any v4 _ _ _ _ D4a.out).mono ?_
            rintro e w15 ⟨rfl, hg⟩
            have D5b := Lib.hid (ownsRow_kept D5a.out hl4.out hg)
            have D6b := Lib.hid (ownsRow_kept D6a.out (fun k hk => Nat.lt_of_lt_of_le (hl4.out k hk) hz45) hg)
            have T2 := Lib.hid (Below.spoiled T1.out D4a.out hg T1.out.size hz1)
            clear hg D4a D5a D6a T1 hl4
            go_wp2_with fail
            refine (spoil_any v5 _ _ _ _ D5b.out).mono ?_
            rintro e w16 ⟨rfl, hg⟩
            have D6c := Lib.hid (ownsRow_kept D6b.out hl5.out hg)
            have T3 := Lib.hid (Below.spoiled T2.out D5b.out hg T2.out.size (Nat.le_trans hz1 hz34))
            clear hg D5b D6b T2 hl5
            go_wp2_with fail
            refine (spoil_any v6 _ _ _ _ D6c.out).mono ?_
            rintro e w17 ⟨rfl, hg⟩
            have T4 := Lib.hid (Below.spoiled T3.out D6c.out hg T3.out.size (Nat.le_trans hz1 (Nat.le_trans hz34 hz45)))
            clear hg D6c T3
            go_wp2_with fail
            go_roundw
            case rel => exact ⟨t + 1, by omega, by go_num, Below.thn HBW.out T4.out⟩
            case measure => simp [intOf]; omega
          · obtain rfl : t = 2 := by omega
            go_wp2_with fail
            refine (cmp_b _ _ n m xs ys _ E1.out.1 E1.out.2.1 HL.out HM.out).mono ?_
            rintro e w2 ⟨rfl, hb2⟩
            generalize hE : ncmp (nval xs) (nval ys) = E
            have HE := Lib.hid hE
            clear hE
            have S2 := Lib.hid hb2
            have E2 := Lib.hid (E1.out.below hb2)
            clear hb2 E1
            go_wp2_with fail
            refine (cmp01_any _ _ n m xs ys _ E2.out.2.2.2.1 E2.out.2.2.2.2 HL.out HM.out (by omega) (by omega)).mono ?_
            rintro e w3 ⟨rfl, hb3⟩
            rw [HE.out]
            have S3 := Lib.hid hb3
            have E3 := Lib.hid (E2.out.below hb3)
            clear hb3 E2
            go_wp2_with fail
            refine (bits_any _ n xs _ E3.out.1 HL.out (by omega)).mono ?_
            rintro e w4 ⟨rfl, hb4⟩
            generalize hF : ((blen (nval xs) : Nat) : Int) = F
            have HF := Lib.hid hF
            clear hF
            have S4 := Lib.hid hb4
            have E4 := Lib.hid (E3.out.below hb4)
            clear hb4 E3
            go_wp2_with fail
            refine (bits01_any _ n xs _ E4.out.2.2.2.1 HL.out (by omega)).mono ?_
            rintro e w5 ⟨rfl, hb5⟩
            rw [HF.out]
            have S5 := Lib.hid hb5
            have E5 := Lib.hid (E4.out.below hb5)
            clear hb5 E4
            go_wp2_with fail
            refine (same_any _ _ n xs _ E5.out.1 E5.out.2.2.2.1).mono ?_
            rintro e w6 ⟨rfl, hb6⟩
            have S6 := Lib.hid hb6
            have E6 := Lib.hid (E5.out.below hb6)
            clear hb6 E5
            go_wp2_with fail
            refine (same_any _ _ m ys _ E6.out.2.1 E6.out.2.2.2.2).mono ?_
            rintro e w7 ⟨rfl, hb7⟩
            have S7 := Lib.hid hb7
            have E7 := Lib.hid (E6.out.below hb7)
            clear hb7 E6
            go_wp2_with fail
            refine (works_any _).mono ?_
            rintro e w8 ⟨rfl, hb8⟩
            have S8 := Lib.hid hb8
            clear hb8
            go_wp2_with fail
            exact hR'.out _ _ ⟨rfl, Below.thn HB1.out (Below.thn HBW.out (Below.thn S2.out (Below.thn S3.out (Below.thn S4.out (Below.thn S5.out (Below.thn S6.out (Below.thn S7.out S8.out)))))))⟩

end Go.Proofs.Ytfffohhcabcefaa
