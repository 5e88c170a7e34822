/- The statement LimbSmall of layer 1: walked, over every argument. -/
import Derived.Test.YtfffohhcabcefaaLaw01B
namespace Go.Proofs.Ytfffohhcabcefaa
open Go.RowKit

/-- a copy: append onto nil -/
theorem Below.own_nil {w w' : World} (h : w.grownBy w' (Value.ownBlock (.slice none 0 0))) : Below w.heap.size w w' := (Below.refl _ _).grown h (Nat.le_refl _) fun k hk => by cases hk
theorem ownsRow_kept {w w' : World} {B e sz n : Nat} {v u : Value} {cs : List Value} (h : w.ownsRow B e sz v n cs) (hlt : ∀ k, u.ownBlock = some k → k < B) (hg : w.grownBy w' u.ownBlock) : w'.ownsRow B e sz v n cs := by
  refine h.kept hg ?_
  cases hv : v.ownBlock with
  | none => exact .inl rfl
  | some k =>
    right
    intro he
    have h1 := (h.lt k hv).1
    have h2 := hlt k he.symm
    omega

/-- what is left, and the error, of a division by a limb, 0 let in -/
def dmod (a m : Nat) : Nat := if m = 0 then 0 else a % m
def derr (m : Nat) : Int := if m = 0 then 20 else 0
theorem divSmall_u (va : Value) (n d : Nat) (xs : List Nat) (w : World) (hr : Rd w 1 va n (ints .u32 xs)) (hx : Lim xs) (hn : n ≤ 1073741824) (hd : d < 4294967296) :
    Calls Try.prog 10 #[va, .int .u32 (d : Int)] w fun e w' => (∃ v', e = .returned (.tuple #[v', .int .u32 (dmod (nval xs) d : Int), .int .i64 (derr d)]) ∧ w'.ownsRow w.heap.size 23 1 v' (limbs (nval xs / d)).length (ints .u32 (limbs (nval xs / d)))) ∧ Below w.heap.size w w' := by
  refine (divSmall_any va n d xs w hr hx hn hd).mono ?_
  rintro e w' ⟨⟨rfl, rfl⟩ | ⟨h, v', rfl, hown⟩, hb⟩
  · refine ⟨⟨.slice none 0 0, rfl, ?_⟩, hb⟩
    rw [Nat.div_zero, limbs_zero]; exact World.ownsRow_nil _ _ _ _
  · exact ⟨⟨v', by simp [dmod, derr, h], hown⟩, hb⟩
theorem div01_u (va : Value) (n d : Nat) (xs : List Nat) (w : World) (hr : Rd w 1 va n (ints .u32 xs)) (hx : Lim xs) (hn : n ≤ 1073741824) (hd : d < 4294967296) :
    Calls Try.prog 11 #[va, .int .u32 (d : Int)] w fun e w' => (∃ v', e = .returned (.tuple #[v', .int .u32 (dmod (nval xs) d : Int), .int .i64 (derr d)]) ∧ w'.ownsRow w.heap.size 23 1 v' (limbs (nval xs / d)).length (ints .u32 (limbs (nval xs / d)))) ∧ Below w.heap.size w w' := by
  refine (div01_any va n d xs w hr hx hn hd).mono ?_
  rintro e w' ⟨⟨rfl, rfl⟩ | ⟨h, v', rfl, hown⟩, hb⟩
  · refine ⟨⟨.slice none 0 0, rfl, ?_⟩, hb⟩
    rw [Nat.div_zero, limbs_zero]; exact World.ownsRow_nil _ _ _ _
  · exact ⟨⟨v', by simp [dmod, derr, h], hown⟩, hb⟩
/-- a row of the call's own is written over: what lies below, and what it shares nothing with, is kept -/
theorem Below.spoiled {B B' e sz n : Nat} {w0 w w' : World} {v : Value} {cs : List Value} (h : Below B w0 w) (ho : w.ownsRow B' e sz v n cs) (hg : w.grownBy w' v.ownBlock) (hB : B ≤ w.heap.size) (hBB : B ≤ B') : Below B w0 w' :=
  h.grown hg hB fun k hk => by have := (ho.lt k hk).1; omega

set_option maxHeartbeats 4000000 in
theorem limbSmall_any (va : Value) (n m : Nat) (xs : List Nat) (w : World) (hr : Rd w 1 va n (ints .u32 xs)) (hx : Lim xs) (hm : m < 4294967296) :
    Calls Try.prog 3 #[va, .int .u32 (m : Int)] w fun e w' => e = .returned (.bool true) ∧ Below w.heap.size w w' := by
  obtain ⟨p, c, rfl, hnc, hcm, hxl⟩ := hr.u32
  obtain ⟨i0, hi, hz0, hz1, hz2⟩ := info_parts infoU32
  have Hr := Lib.hid hr
  have HL := Lib.hid hx
  have HX := Lib.hid hxl
  clear hr hx hxl
  by_cases hn : 60 < n
  · refine walk_q fun R' hR' => ?_
    go_enter Try.func3, Try.ntmps3
    go_wp2_with fail
    refine (works_any _).mono ?_
    rintro e w1 ⟨rfl, hb⟩
    go_wp2_with fail
    exact hR'.out _ _ ⟨rfl, hb⟩
  · refine walk_q fun R' hR' => ?_
    go_enter Try.func3, Try.ntmps3
    go_wp2_with (at_builtin; refine wpList_append_rd _ rfl _ _ 22 rfl w.heap.size 23 i0 (.int .u32 0) 1 4 Try.underlying22 hi hz0 hz1 hz2 rfl (by decide) (.slice none 0 0) 0 [] rfl (World.ownsRow_nil _ _ _ _) _ n _ rfl Hr.out (ints_one _ _) (by unfold maxLen; omega) (by omega) (Nat.le_refl _) ?_; intro v1 w1 hown hgr)
    simp only [Nat.zero_add, List.nil_append] at hown
    have HB1 := Lib.hid (Below.own_nil hgr)
    have HX1 := Lib.hid (Rd.own hown)
    have HA1 := Lib.hid (Hr.out.below HB1.out)
    obtain ⟨p1, c1, rfl, _, _, _⟩ := HX1.out.u32
    clear hown hgr
    go_wp2_with fail
    go_loopw [6] (fun tv wr => ∃ t : Nat, t ≤ 2 ∧ tv = .int .i64 (t : Int) ∧ Below w1.heap.size w1 wr) (fun tv _ => 2 - (intOf tv).toNat)
    case atStart => exact ⟨0, by omega, rfl, Below.refl _ _⟩
    case round =>
      obtain ⟨t, ht, rfl, hbw⟩ := hrel
      have HBW := Lib.hid hbw
      have HA := Lib.hid (HA1.out.below hbw)
      have HXX := Lib.hid (HX1.out.below hbw)
      clear hbw
      by_cases ht2 : t < 2
      · go_wp2_with fail
        refine (mulSmall_any _ n m xs _ HA.out HL.out (by omega) hm).mono ?_
        rintro e w2 ⟨v2, rfl, hown2, hb2⟩
        have HO2 := Lib.hid hown2
        have HB2 := Lib.hid hb2
        have HA2 := Lib.hid (HA.out.below hb2)
        have HX2 := Lib.hid (HXX.out.below hb2)
        clear hown2 hb2
        go_wp2_with fail
        refine (divSmall_u _ n m xs _ HA2.out HL.out (by omega) hm).mono ?_
        rintro e w3 ⟨⟨v3, rfl, hown3⟩, hb3⟩
        have HO3 := Lib.hid hown3
        have HB3 := Lib.hid hb3
        have HX3 := Lib.hid (HX2.out.below hb3)
        clear hown3 hb3
        generalize hR : ((dmod (nval xs) m : Nat) : Int) = R
        generalize hE : derr m = E
        have HR := Lib.hid hR
        have HE := Lib.hid hE
        clear hR hE
        go_wp2_with fail
        refine (div01_u _ n m xs _ HX3.out HL.out (by omega) hm).mono ?_
        rintro e w4 ⟨⟨v4, rfl, hown4⟩, hb4⟩
        rw [HR.out, HE.out]
        have HO4 := Lib.hid hown4
        have HB4 := Lib.hid hb4
        have HX4 := Lib.hid (HX3.out.below hb4)
        clear hown4 hb4
        go_wp2_with fail
        refine (mul01_any _ n m xs _ HX4.out HL.out (by omega) hm).mono ?_
        rintro e w5 ⟨v5, rfl, hown5, hb5⟩
        have HO5 := Lib.hid hown5
        have HB5 := Lib.hid hb5
        clear hown5 hb5
        have hb35 := HB3.out.trans ((HB4.out.trans (HB5.out.mono HB4.out.size)).mono HB3.out.size)
        have HO2a := Lib.hid (Own.below HO2.out hb35)
        go_wp2_with fail
        refine (same_any _ _ _ _ _ (Rd.own HO2a.out) (Rd.own HO5.out)).mono ?_
        rintro e w6 ⟨rfl, hb6⟩
        have HB6 := Lib.hid hb6
        have h46 := HB4.out.trans ((HB5.out.trans (hb6.mono HB5.out.size)).mono HB4.out.size)
        have h56 := HB5.out.trans (hb6.mono HB5.out.size)
        have HO3a := Lib.hid (Own.below HO3.out h46)
        have HO4a := Lib.hid (Own.below HO4.out h56)
        clear hb6 h46 h56 hb35
        go_wp2_with fail
        refine (same_any _ _ _ _ _ (Rd.own HO3a.out) (Rd.own HO4a.out)).mono ?_
        rintro e w7 ⟨rfl, hb7⟩
        have h57 := HB5.out.trans ((HB6.out.trans (hb7.mono HB6.out.size)).mono HB5.out.size)
        have h37 := HB3.out.trans ((HB4.out.trans (h57.mono HB4.out.size)).mono HB3.out.size)
        have h47 := HB4.out.trans (h57.mono HB4.out.size)
        have HO2b := Lib.hid (Own.below HO2.out h37)
        have HO3b := Lib.hid (Own.below HO3.out h47)
        have HBW7 := Lib.hid (HB2.out.trans (h37.mono HB2.out.size))
        have hs2 : ∀ k, v2.ownBlock = some k → k < w2.heap.size := fun k hk => (HO2.out.lt k hk).2
        clear hb7 h57 h37 h47
        go_wp2_with fail
        refine (spoil_any v2 _ _ _ _ HO2b.out).mono ?_
        rintro e w8 ⟨rfl, hg8⟩
        have HO3c := Lib.hid (ownsRow_kept HO3b.out hs2 hg8)
        have HB8 := Lib.hid (Below.spoiled HBW7.out HO2b.out hg8 HBW7.out.size (Nat.le_refl _))
        clear hg8 hs2
        go_wp2_with fail
        refine (spoil_any v3 _ _ _ _ HO3c.out).mono ?_
        rintro e w9 ⟨rfl, hg9⟩
        have HB9 := Lib.hid (Below.spoiled HB8.out HO3c.out hg9 HB8.out.size HB2.out.size)
        clear hg9
        go_wp2_with fail
        go_roundw
        case rel => exact ⟨t + 1, by omega, by go_num, HBW.out.trans (HB9.out.mono HBW.out.size)⟩
        case measure => simp [intOf]; omega
      · obtain rfl : t = 2 := by omega
        go_wp2_with fail
        refine (same_any _ _ n xs _ HA.out HXX.out).mono ?_
        rintro e w2 ⟨rfl, hb2⟩
        go_wp2_with fail
        refine (works_any _).mono ?_
        rintro e w3 ⟨rfl, hb3⟩
        go_wp2_with fail
        have h1 := HBW.out.trans (hb2.mono HBW.out.size)
        have h2 := h1.trans (hb3.mono h1.size)
        exact hR'.out _ _ ⟨rfl, HB1.out.trans (h2.mono HB1.out.size)⟩
end Go.Proofs.Ytfffohhcabcefaa
