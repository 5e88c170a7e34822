/- What the functions of the limb layer compute, part D: sums of rows, shifts, how many binary digits. -/
import Derived.Test.YtofdiijioejljaaGreatLimbC
import Derived.Lib.AppendZeros
set_option linter.all false
namespace Go.Proofs.YtofdiijioejljaaGreat
open Go.RowKit

def RdRows (w : World) (v : Value) (rows : List (List Nat)) : Prop :=
 ∃ vs : List Value, Rd w 1 v rows.length vs ∧ ∀ (i : Nat) (xs : List Nat), rows[i]? = some xs → ∃ u, vs[i]? = some u ∧ Rd w 1 u xs.length (ints .u32 xs)
theorem RdRows.below {w w' : World} {v : Value} {rows : List (List Nat)} (h : RdRows w v rows) (hb : Below w.heap.size w w') : RdRows w' v rows := by
 obtain ⟨vs, h1, h2⟩ := h
 refine ⟨vs, h1.below hb, fun i xs hi => ?_⟩
 obtain ⟨u, hu, hr⟩ := h2 i xs hi
 exact ⟨u, hu, hr.below hb⟩
theorem RdRows.at {w : World} {p : Option Addr} {n c k : Nat} {rows : List (List Nat)} (h : RdRows w (.slice p n c) rows) (hk : k < rows.length) :
  ∃ b off u xs, p = some ⟨b, off, none⟩ ∧ rows[k]? = some xs ∧ w.cell? ⟨b, off + k, none⟩ = some u ∧ Rd w 1 u xs.length (ints .u32 xs) := by
 obtain ⟨vs, ⟨p', c', hv, _, _, h3, h4⟩, h2⟩ := h
 simp only [Value.slice.injEq] at hv
 obtain ⟨rfl, rfl, rfl⟩ := hv
 obtain ⟨b, off, hp, hc⟩ := h4 (by omega)
 obtain ⟨u, hu, hr⟩ := h2 k _ (List.getElem?_eq_getElem hk)
 exact ⟨b, off, u, _, hp, List.getElem?_eq_getElem hk, hc k u hu, hr⟩
theorem RdRows.form {w : World} {v : Value} {rows : List (List Nat)} (h : RdRows w v rows) : ∃ p c, v = .slice p rows.length c ∧ rows.length ≤ c ∧ c ≤ 9223372036854775807 := by
 obtain ⟨vs, h1, _⟩ := h
 obtain ⟨p, c, hv, h2, h3, _⟩ := h1.form
 unfold maxLen at h3
 exact ⟨p, c, hv, h2, by omega⟩

theorem int_mod_small {q : Nat} (h : q < 4294967296) : (q : Int) % 4294967296 = q := by omega
theorem pow_lt32 {n : Nat} (h : n < 32) : 2 ^ n < 4294967296 := by
 have := Nat.pow_lt_pow_right (show 1 < 2 by omega) h
 omega
theorem len_mul_pow (x n : Nat) (hn : n < 32) : (limbs (x * 2 ^ n)).length ≤ (limbs x).length + 1 := by
 apply limbs_length_le
 rw [Nat.pow_succ]
 exact Nat.mul_lt_mul_of_lt_of_le (lt_pow_limbs x) (Nat.le_of_lt (pow_lt32 hn)) (by omega)

set_option maxRecDepth 100000 in
set_option maxHeartbeats 400000 in
theorem left_any (va : Value) (m n x : Nat) (w : World) (hr : Rd w 1 va m (ints .u32 (limbs x))) (hm : m ≤ 1073741824) (hn : n < 32) :
  Calls Tryz.prog 146 #[va, .int .i64 (n : Int)] w fun e w' => ∃ v', e = .returned v' ∧ Rd w' 1 v' (limbs (x * 2 ^ n)).length (ints .u32 (limbs (x * 2 ^ n))) ∧ Below w.heap.size w w' := by
 obtain ⟨p, c, rfl, hnc, hcm, hxl⟩ := hr.u32
 have Hr := Lib.hid hr
 have HX := Lib.hid hxl
 clear hxl hr
 by_cases h0 : n = 0
 ·subst h0
  refine walk_q fun R' hR' => ?_
  go_enter Tryz.func146, Tryz.ntmps146
  go_wp2
  refine hR'.out _ _ ⟨_, rfl, ?_, Below.refl _ _⟩
  have := Hr.out
  rw [Nat.pow_zero, Nat.mul_one, HX.out]; exact this
 ·have hnb : ((n : Int) == 0) = false := by rw [beq_eq_false_iff_ne]; omega
  refine walk_q fun R' hR' => ?_
  go_enter Tryz.func146, Tryz.ntmps146
  have hpl := pow_lt32 hn
  have hpe : (2 : Int) ^ n % 4294967296 = ((2 ^ n : Nat) : Int) := by
   have : (2 : Int) ^ n = ((2 ^ n : Nat) : Int) := by simp
   rw [this]; exact int_mod_small hpl
  have HP := Lib.hid hpe
  clear hpe
  go_wp2_with fail
  rw [HP.out]
  refine (mulSmall_any _ m (2 ^ n) (limbs x) _ Hr.out (limbs_lim x) hm hpl).mono ?_
  rintro e w1 ⟨v', rfl, hown, hb⟩
  rw [nval_limbs] at hown
  go_wp2
  exact hR'.out _ _ ⟨_, rfl, Rd.own hown, hb⟩

set_option maxRecDepth 100000 in
set_option maxHeartbeats 400000 in
theorem right_any (va : Value) (m n : Nat) (xs : List Nat) (w : World) (hr : Rd w 1 va m (ints .u32 xs)) (hx : Lim xs) (hm : m ≤ 1073741824) (hn : n < 32) :
  Calls Tryz.prog 147 #[va, .int .i64 (n : Int)] w fun e w' => (∃ v' k rs, e = .returned v' ∧ k ≤ 1073741824 ∧ Rd w' 1 v' k (ints .u32 rs) ∧ Lim rs ∧ nval rs = nval xs / 2 ^ n) ∧ Below w.heap.size w w' := by
 obtain ⟨p, c, rfl, hnc, hcm, hxl⟩ := hr.u32
 have Hr := Lib.hid hr
 have HX := Lib.hid hxl
 have HL := Lib.hid hx
 clear hxl hr hx
 by_cases h0 : n = 0
 ·subst h0
  refine walk_q fun R' hR' => ?_
  go_enter Tryz.func147, Tryz.ntmps147
  go_wp2
  exact hR'.out _ _ ⟨⟨_, m, xs, rfl, hm, Hr.out, HL.out, by rw [Nat.pow_zero, Nat.div_one]⟩, Below.refl _ _⟩
 ·have hnb : ((n : Int) == 0) = false := by rw [beq_eq_false_iff_ne]; omega
  refine walk_q fun R' hR' => ?_
  go_enter Tryz.func147, Tryz.ntmps147
  have hpl := pow_lt32 hn
  have hpp : 2 ^ n ≠ 0 := by have := Nat.pow_pos (n := n) (show 0 < 2 by omega); omega
  have hpe : (2 : Int) ^ n % 4294967296 = ((2 ^ n : Nat) : Int) := by
   have : (2 : Int) ^ n = ((2 ^ n : Nat) : Int) := by simp
   rw [this]; exact int_mod_small hpl
  have HP := Lib.hid hpe
  have HPP := Lib.hid hpp
  clear hpe hpp
  go_wp2_with fail
  rw [HP.out]
  refine (divSmall_any _ m (2 ^ n) xs _ Hr.out HL.out hm hpl).mono ?_
  rintro e w1 ⟨⟨h, _⟩ | ⟨_, v', rfl, hown⟩, hb⟩
  ·exact absurd h HPP.out
  ·have HO := Lib.hid hown
   have hlen : (limbs (nval xs / 2 ^ n)).length ≤ m := Nat.le_trans (limbs_len_mono (Nat.div_le_self _ _)) (by rw [← HX.out]; exact limbs_len_le HL.out)
   clear hown
   go_wp2
   exact hR'.out _ _ ⟨⟨_, _, _, rfl, Nat.le_trans hlen hm, Rd.own HO.out, limbs_lim _, nval_limbs _⟩, hb⟩

set_option maxRecDepth 100000 in
set_option maxHeartbeats 400000 in
theorem grow_nil (n : Nat) (w : World) (hn : n ≤ 2147483648) :
  Calls Tryz.prog 148 #[.slice none 0 0, .int .i64 (n : Int)] w fun e w' => ∃ v', e = .returned v' ∧ w'.ownsRow w.heap.size 107 1 v' 0 [] ∧ Below w.heap.size w w' := by
 by_cases h0 : n = 0
 ·subst h0
  refine walk_q fun R' hR' => ?_
  go_enter Tryz.func148, Tryz.ntmps148
  go_wp2
  exact hR'.out _ _ ⟨_, rfl, World.ownsRow_nil _ _ _ _, Below.refl _ _⟩
 ·obtain ⟨i0, hi, hz0, hz1, hz2⟩ := info_parts infoU32
  obtain ⟨C, hC⟩ : ∃ C, C = grownCap w n 0 107 := ⟨_, rfl⟩
  have HC := Lib.hid hC
  have hap0 := Lib.run_append_nil_zeros (P := Tryz.prog) w 23 3 23 107 i0 (.int .u32 0) .i64 .i64 Tryz.underlying23 Tryz.underlying3 hi hz0 n (by omega) (by omega) (by omega) (by rw [hz2]; omega)
  rw [← hC] at hap0
  have HAP := Lib.hid hap0
  have hCn : n ≤ C := by rw [hC]; exact grownCap_ge w n 0 _
  have hCm : C ≤ 9223372036854775807 := by
   have := grownCap_le_maxLen w n 0 107 (by unfold maxLen; omega)
   unfold maxLen at this
   omega
  have hn0 : 0 < n := by omega
  clear hC h0 hap0
  refine walk_q fun R' hR' => ?_
  go_enter Tryz.func148, Tryz.ntmps148
  go_wp2_with (at_builtin; refine wpList_append_run rfl _ _ 23 3 rfl _ _ rfl rfl _ _ HAP.out ?_)
  refine hR'.out _ _ ⟨_, rfl, ?_, ?_⟩
  ·exact World.ownsRow_made w.drew _ C (Nat.le_refl _) (by unfold maxLen; omega) (by rw [Array.size_append, size_zeroCells, size_zeroCells]; show n * 1 + (C - n) * 1 = C * 1; omega)
  ·exact (Below.drew (Below.refl _ _)).alloc (Nat.le_refl _) _

def flat (rows : List (List Nat)) : List Nat := rows.flatten
theorem flat_snoc (rows : List (List Nat)) (xs : List Nat) : flat (rows ++ [xs]) = flat rows ++ xs := by simp [flat]
theorem flat_take_le (rows : List (List Nat)) (k : Nat) : (flat (rows.take k)).length ≤ (flat rows).length := by
 conv => rhs; rw [← List.take_append_drop k rows]
 simp only [flat, List.flatten_append, List.length_append]
 omega

def CatA (rows : List (List Nat)) (sv iv : Value) : Prop := ∃ k, k ≤ rows.length ∧ iv = .int .i64 (k : Int) ∧ sv = .int .i64 ((flat (rows.take k)).length : Int)
def CatB (w : World) (B : Nat) (rows : List (List Nat)) (ov iv : Value) (wr : World) : Prop :=
 ∃ k, k ≤ rows.length ∧ iv = .int .i64 (k : Int) ∧ wr.ownsRow B 107 1 ov (flat (rows.take k)).length (ints .u32 (flat (rows.take k))) ∧ Below B w wr

set_option maxRecDepth 100000 in
set_option maxHeartbeats 1000000 in
theorem concat_any (va : Value) (rows : List (List Nat)) (w : World) (hr : RdRows w va rows) (hn : (flat rows).length ≤ 2147483648) :
  Calls Tryz.prog 145 #[va] w fun e w' => ∃ v', e = .returned v' ∧ w'.ownsRow w.heap.size 107 1 v' (flat rows).length (ints .u32 (flat rows)) ∧ Below w.heap.size w w' := by
 obtain ⟨p, c, rfl, hnc, hcm⟩ := hr.form
 have Hr := Lib.hid hr
 obtain ⟨i0, hi, hz0, hz1, hz2⟩ := info_parts infoU32
 obtain ⟨B, hB⟩ : ∃ B, B = w.heap.size := ⟨_, rfl⟩
 have HB := Lib.hid hB
 obtain ⟨N, hN⟩ : ∃ N, N = rows.length := ⟨_, rfl⟩
 rw [← hN] at hnc ⊢
 have HN := Lib.hid hN
 rw [← hB]
 clear hr hB hN
 refine walk_q fun R' hR' => ?_
 go_enter Tryz.func145, Tryz.ntmps145
 go_wp2
 go_loop [3, 11] (fun sv iv => CatA rows sv iv) (fun _ iv => N - (intOf iv).toNat)
 case atStart => exact ⟨0, Nat.zero_le _, rfl, by simp [flat]⟩
 case round =>
  obtain ⟨k, hk, rfl, rfl⟩ := hrel
  rw [← HN.out] at hk
  have hfl := flat_take_le rows k
  by_cases hkn : k < N
  ·obtain ⟨b1, o1, u, xs, rfl, hxk, hcx, hru⟩ := Hr.out.at (k := k) (by rw [← HN.out]; exact hkn)
   obtain ⟨q, d, rfl, _, _, _⟩ := hru.u32
   have hfs : (flat (rows.take (k + 1))).length = (flat (rows.take k)).length + xs.length := by rw [take_succ_snoc hxk, flat_snoc, List.length_append]
   have hfl2 := flat_take_le rows (k + 1)
   have HFS := Lib.hid hfs
   rw [hfs] at hfl2
   clear hxk hru hfs
   generalize (flat (rows.take k)).length = L at *
   go_wp2
   go_round
   case rel => exact ⟨k + 1, by rw [← HN.out]; omega, by go_num, by rw [HFS.out]; go_num⟩
   case measure => simp [intOf]; omega
  ·obtain rfl : k = N := by omega
   have hL : Hid (flat (rows.take k) = flat rows) := by show _ = _; rw [List.take_of_length_le (by rw [HN.out]; exact Nat.le_refl _)]
   rw [hL.out]
   rw [hL.out] at hfl
   generalize hLL : (flat rows).length = L at hn hfl
   have HLL := Lib.hid hLL
   rw [hLL] at hR'
   clear hLL
   go_wp2_with fail
   refine (grow_nil L _ (by omega)).mono ?_
   rintro e w1 ⟨ov, rfl, hown, hb⟩
   rw [← HB.out] at hown hb
   have HO := Lib.hid hown
   have HBW := Lib.hid hb
   clear hown hb
   go_wp2_with fail
   go_loopw [6, 27] (fun ov iv wr => CatB w B rows ov iv wr) (fun _ iv _ => k - (intOf iv).toNat)
   case atStart => exact ⟨0, Nat.zero_le _, rfl, by simpa [flat, ints] using HO.out, HBW.out⟩
   case round =>
    obtain ⟨j, hj, rfl, hown, hb⟩ := hrel
    have HO2 := Lib.hid hown
    have HBW2 := Lib.hid hb
    rw [← HN.out] at hj
    clear hown hb
    by_cases hjn : j < k
    ·obtain ⟨b1, o1, u, xs, rfl, hxk, hcx, hru⟩ := ((Hr.out.below (by have := HBW2.out; rwa [HB.out] at this)).at (k := j) (by rw [← HN.out]; exact hjn))
     have hfs : (flat (rows.take (j + 1))).length = (flat (rows.take j)).length + xs.length := by rw [take_succ_snoc hxk, flat_snoc, List.length_append]
     have hfl2 := flat_take_le rows (j + 1)
     have HFS := Lib.hid hfs
     have hsz : (flat (rows.take j)).length + xs.length ≤ 2147483648 := by have := HLL.out; omega
     have HXK := Lib.hid hxk
     have HRU := Lib.hid hru
     have hbs : B ≤ wr.heap.size := by have := HBW2.out.size; have := HB.out; omega
     clear hxk hru hfs hfl2
     go_wp2_with (at_builtin; refine wpList_append_rd _ rfl _ _ 23 rfl B 107 i0 (.int .u32 0) 1 4 Tryz.underlying23 hi hz0 hz1 hz2 rfl (by decide) _ _ _ rfl HO2.out _ xs.length _ rfl HRU.out (ints_one _ _) (by unfold maxLen; omega) (by omega) hbs ?_; intro v' w2 hown2 hgr2)
     have HO3 : Hid (w2.ownsRow B 107 1 v' (flat (rows.take (j + 1))).length (ints .u32 (flat (rows.take (j + 1))))) := by
      show World.ownsRow ..
      rw [HFS.out, take_succ_snoc HXK.out, flat_snoc, ints_append]; exact hown2
     have HB3 : Hid (Below B w w2) := Below.grownOwn HBW2.out hgr2 HO2.out hbs (Nat.le_refl _)
     clear hown2 hgr2
     go_wp2_with fail
     go_roundw
     case rel => exact ⟨j + 1, by rw [← HN.out]; omega, by go_num, HO3.out, HB3.out⟩
     case measure => simp [intOf]; omega
    ·obtain rfl : j = k := by omega
     go_wp2_with fail
     refine hR'.out _ _ ⟨_, rfl, ?_, HBW2.out⟩
     have := HO2.out
     rw [hL.out, HLL.out] at this
     exact this
end Go.Proofs.YtofdiijioejljaaGreat
