/- What the functions of the limb layer compute, part E: shifts, how many binary digits. -/
import Derived.Test.YtofdiijioejljaaGreatLimbD
import Derived.RegionCalls
import Derived.Deep.RegionWith
set_option linter.all false
namespace Go.Proofs.YtofdiijioejljaaGreat
open Go.RowKit

theorem RdRows.two {w : World} {g : Nat} {u v : Value} {xs ys : List Nat} {t : Nat} {fr : Nat × Nat} (h : w.heap[g]? = some (.cells #[u, v] t fr)) (hx : Rd w 1 u xs.length (ints .u32 xs)) (hy : Rd w 1 v ys.length (ints .u32 ys)) :
  RdRows w (.slice (some ⟨g, 0, none⟩) 2 2) [xs, ys] := by
 refine ⟨[u, v], ⟨_, 2, rfl, Nat.le_refl _, by simp [maxLen], rfl, fun _ => ⟨g, 0, rfl, fun j z hj => ?_⟩⟩, fun i zs hi => ?_⟩
 ·match j, hj with
  | 0, hj => simp at hj; subst hj; simp [World.cell?, h]
  | 1, hj => simp at hj; subst hj; simp [World.cell?, h]
 ·match i, hi with
  | 0, hi => simp at hi; subst hi; exact ⟨u, rfl, hx⟩
  | 1, hi => simp at hi; subst hi; exact ⟨v, rfl, hy⟩

theorem heap_at {w : World} {o : Obj} {k : Nat} (h : k = w.heap.size) : (w.alloc o).heap[k]? = some o := by subst h; exact heap_alloc_new w o
theorem ordA {w w2 w3 : World} {z o : Obj} (hb2 : Below (w.alloc z).drew.heap.size (w.alloc z).drew w2) (hb3 : Below (w2.alloc o).heap.size (w2.alloc o) w3) : Below w.heap.size w w3 ∧ w.heap.size ≤ (w2.alloc o).heap.size := by
 have h1 := hb2.size
 simp at h1
 have h0 : Below w.heap.size w (w.alloc z).drew := ((Below.refl w.heap.size w).alloc (Nat.le_refl _) z).drew
 have h2 : Below w.heap.size w w2 := h0.trans (hb2.mono (by simp))
 exact ⟨(h2.alloc (by omega) o).trans (hb3.mono (by simp; omega)), by simp; omega⟩
theorem ordB {w w2 w3 : World} {z o : Obj} (hb2 : Below w.drew.heap.size w.drew w2) (hb3 : Below ((w2.alloc z).alloc o).heap.size ((w2.alloc z).alloc o) w3) : Below w.heap.size w w3 ∧ w.heap.size ≤ ((w2.alloc z).alloc o).heap.size := by
 have h1 := hb2.size
 simp at h1
 have h2 : Below w.heap.size w w2 := (Below.refl w.heap.size w).drew.trans hb2
 exact ⟨((h2.alloc (by omega) z).alloc (by simp; omega) o).trans (hb3.mono (by simp; omega)), by simp; omega⟩
theorem replicate_rd (w : World) (q : Nat) (h : q ≤ 9223372036854775807) : Rd (w.alloc (.cells (madeCells #[Value.int .u32 0] q) 107)) 1 (.slice (some ⟨w.heap.size, 0, none⟩) q q) (List.replicate q 0).length (ints .u32 (List.replicate q 0)) := by
 have h1 := World.ownsRow_lit (base := 0) (size := 1) (e := 107) w (madeCells (Value.int .u32 0).cells (q * 1)) q (Nat.zero_le _) (by unfold maxLen; omega) (size_madeCells _ _)
 have h2 := Rd.own (Own.made h1)
 rw [List.length_replicate]
 rw [Nat.mul_one, List.nil_append] at h2
 exact h2

set_option maxRecDepth 100000 in
set_option maxHeartbeats 1000000 in
theorem shift_left (p : Option Addr) (m c n x : Nat) (xs : List Nat) (w : World) (hr : Rd w 1 (.slice p m c) m (ints .u32 xs)) (hx : Lim xs) (hv : nval xs = x) (hm : m ≤ 1073741824) (hx0 : x ≠ 0) (hn : n ≤ 65536) :
  Calls Tryz.prog 136 #[.slice p m c, .int .i64 (n : Int)] w fun e w' => ∃ v', e = .returned (.tuple #[v', .int .i64 0]) ∧ w'.ownsRow w.heap.size 107 1 v' (limbs (x * 2 ^ n)).length (ints .u32 (limbs (x * 2 ^ n))) ∧ Below w.heap.size w w' := by
 obtain ⟨p', c', hv', hnc, hcm, hxl⟩ := hr.u32
 simp only [Value.slice.injEq, true_and] at hv'
 obtain ⟨rfl, rfl⟩ := hv'
 have Hr := Lib.hid hr
 have HX := Lib.hid hxl
 have HL := Lib.hid hx
 have HV := Lib.hid hv
 obtain ⟨i0, hi, hz0, hz1, hz2⟩ := info_parts infoU32
 have hmk : ∀ W : World, (Instr.makeSlice 23 (.int .i64 ((n : Int) / 32)) (.int .i64 ((n : Int) / 32))).run Tryz.prog W = .ok (.slice (some ⟨W.heap.size, 0, none⟩) (n / 32) (n / 32)) (W.alloc (.cells (madeCells (Value.int .u32 0).cells (n / 32 * 1)) 107)) := fun W => by
  have := run_make (P := Tryz.prog) W 23 107 i0 (.int .u32 0) Tryz.underlying23 hi hz0 .i64 .i64 ((n : Int) / 32) ((n : Int) / 32) (by omega) (Int.le_refl _) (by rw [hz2]; omega) (by omega)
  rw [hz1, show ((n : Int) / 32).toNat = n / 32 by omega] at this
  exact this
 clear hxl hr hx hv hi hz0 hz1 hz2
 refine walk_q fun R' hR' => ?_
 go_enter Tryz.func136, Tryz.ntmps136
 go_wp2_with fail
 refine (trimmed_any p m c xs _ Hr.out HL.out).mono ?_
 rintro e w1 ⟨⟨r, hrm, rfl, hlr⟩, rfl⟩
 have hml : Hid ((limbs x).length = r) := by
  show _ = _
  rw [← HV.out, hlr, List.length_take, HX.out]; omega
 have hrd := Hr.out.limbs hrm hlr
 rw [HV.out] at hrd
 have HRD := Lib.hid hrd
 clear hlr hrd
 have hr0 : 0 < r := by rw [← hml.out]; exact limbs_len_pos hx0
 have hleft : ∀ W : World, Rd W 1 (.slice p r c) r (ints .u32 (limbs x)) → Calls Tryz.prog 146 #[.slice p r c, .int .i64 ((n : Int) % 32)] W fun e w' => ∃ v', e = .returned v' ∧ Rd w' 1 v' (limbs (x * 2 ^ (n % 32))).length (ints .u32 (limbs (x * 2 ^ (n % 32)))) ∧ Below W.heap.size W w' := fun W h => by
  have := left_any (.slice p r c) r (n % 32) x W h (by omega) (Nat.mod_lt _ (by omega))
  rwa [show ((n % 32 : Nat) : Int) = (n : Int) % 32 by omega] at this
 have HLEFT := Lib.hid hleft
 clear hleft
 have hfl : (flat [List.replicate (n / 32) 0, limbs (x * 2 ^ (n % 32))]) = limbs (x * 2 ^ n) := by
  have h1 := limbs_shift (x := x * 2 ^ (n % 32)) (n / 32) (Nat.mul_ne_zero hx0 (by have := Nat.pow_pos (n := n % 32) (show 0 < 2 by omega); omega))
  simp only [flat, List.flatten_cons, List.flatten_nil, List.append_nil]
  rw [h1, Nat.mul_assoc, pow32, ← Nat.pow_add, Nat.mod_add_div]
 have hfn : (flat [List.replicate (n / 32) 0, limbs (x * 2 ^ (n % 32))]).length ≤ 2147483648 := by
  simp only [flat, List.flatten_cons, List.flatten_nil, List.append_nil, List.length_append, List.length_replicate]
  have := len_mul_pow x (n % 32) (Nat.mod_lt _ (by omega))
  rw [hml.out] at this
  omega
 have HFL := Lib.hid hfl
 have HFN := Lib.hid hfn
 clear hfl hfn hx0
 go_wp2_with fail
 have hw1 : IntKind.i64.wrap ((n : Int) / 32) = (n : Int) / 32 := IntWalk.i64_in _ (by omega)
 have hw2 : (n : Int).tmod 32 = (n : Int) % 32 := Int.tmod_eq_emod_of_nonneg (by omega)
 go_region_with (first
  | (go_at_call 146; refine (HLEFT.out _ (by first | exact HRD.out | exact Rd.alloc (Rd.drew HRD.out) _)).mono ?_; rintro e w2 ⟨v2, rfl, hrd2, hb2⟩; obtain ⟨p2, c2, rfl, _, _, _⟩ := hrd2.form)
  | (go_at_call 145; refine (concat_any _ [List.replicate (n / 32) 0, limbs (x * 2 ^ (n % 32))] _ (by first | exact RdRows.two (heap_alloc_new _ _) (Rd.alloc (Rd.below (Rd.drew (replicate_rd _ _ (by omega))) hb2) _) (Rd.alloc hrd2 _) | exact RdRows.two (heap_at (by simp)) (Rd.alloc (replicate_rd _ _ (by omega)) _) (Rd.alloc (Rd.alloc hrd2 _) _)) HFN.out).mono ?_; rintro e w3 ⟨v3, rfl, hown3, hb3⟩))
 all_goals
  go_wp2
  go_ret2
  refine hR'.out _ _ ⟨v3, rfl, ?_, ?_⟩
  ·rw [HFL.out] at hown3
   first | exact Own.mono hown3 (ordA hb2 hb3).2 | exact Own.mono hown3 (ordB hb2 hb3).2
  ·first | exact (ordA hb2 hb3).1 | exact (ordB hb2 hb3).1
theorem nat_div_pow_zero {x m k : Nat} (h : (limbs x).length ≤ m) (hk : 32 * m ≤ k) : x / 2 ^ k = 0 := by
 apply Nat.div_eq_of_lt
 have h1 := lt_pow_limbs x
 have h2 := Nat.pow_le_pow_right (show 0 < 4294967296 by omega) h
 rw [pow32] at h1 h2
 have h3 := Nat.pow_le_pow_right (show 0 < 2 by omega) hk
 rw [pow32] at h2
 omega

set_option maxRecDepth 100000 in
set_option maxHeartbeats 1000000 in
theorem shift_any (va : Value) (m x : Nat) (n : Int) (xs : List Nat) (w : World) (hr : Rd w 1 va m (ints .u32 xs)) (hx : Lim xs) (hv : nval xs = x) (hm : m ≤ 1073741824) (hn0 : -9223372036854775808 ≤ n) (hn1 : n ≤ 9223372036854775807) :
  Calls Tryz.prog 136 #[va, .int .i64 n] w fun e w' => ((x ≠ 0 ∧ 65536 < n ∧ e = .returned (.tuple #[.slice none 0 0, .int .i64 3])) ∨
   (¬ (x ≠ 0 ∧ 65536 < n) ∧ ∃ v', e = .returned (.tuple #[v', .int .i64 0]) ∧ w'.ownsRow w.heap.size 107 1 v' (limbs (shiftN x n)).length (ints .u32 (limbs (shiftN x n))))) ∧ Below w.heap.size w w' := by
 obtain ⟨p, c, rfl, hnc, hcm, hxl⟩ := hr.u32
 have Hr := Lib.hid hr
 have HX := Lib.hid hxl
 have HL := Lib.hid hx
 have HV := Lib.hid hv
 clear hxl hr hx hv
 by_cases hpos : x ≠ 0 ∧ 0 ≤ n ∧ n ≤ 65536
 ·obtain ⟨hx0, h0, h1⟩ := hpos
  obtain ⟨k, rfl⟩ := Int.eq_ofNat_of_zero_le h0
  refine (shift_left p m c k x xs w Hr.out HL.out HV.out hm hx0 (by omega)).mono ?_
  rintro e w' ⟨v', rfl, hown, hb⟩
  refine ⟨.inr ⟨by omega, v', rfl, ?_⟩, hb⟩
  have : shiftN x (k : Int) = x * 2 ^ k := by simp [shiftN]
  rw [this]; exact hown
 ·refine walk_q fun R' hR' => ?_
  go_enter Tryz.func136, Tryz.ntmps136
  go_wp2_with fail
  refine (trimmed_any p m c xs _ Hr.out HL.out).mono ?_
  rintro e w1 ⟨⟨r, hrm, rfl, hlr⟩, rfl⟩
  have hml : (limbs x).length = r := by
   rw [← HV.out, hlr, List.length_take, HX.out]; omega
  have hrd := Hr.out.limbs hrm hlr
  rw [HV.out] at hrd
  have HRD := Lib.hid hrd
  have HML := Lib.hid hml
  clear hlr hrd
  by_cases hx0 : x = 0
  ·have hr0 : r = 0 := by rw [← hml, hx0, limbs_zero]; rfl
   have HX0 := Lib.hid hx0
   have hrb : ((r : Int) == 0) = true := by rw [beq_iff_eq]; omega
   clear hx0 hr0 hml hpos
   go_wp2_with fail
   refine hR'.out _ _ ⟨.inr ⟨fun h => h.1 HX0.out, .slice none 0 0, rfl, ?_⟩, Below.refl _ _⟩
   have : shiftN x n = 0 := by simp [shiftN, HX0.out]
   rw [this, limbs_zero]; exact World.ownsRow_nil _ _ _ _
  ·have hr0 : 0 < r := by rw [← hml]; exact limbs_len_pos hx0
   have hrb : ((r : Int) == 0) = false := by rw [beq_eq_false_iff_ne]; omega
   clear hml
   by_cases hbig : 65536 < n
   ·go_wp2_with fail
    exact hR'.out _ _ ⟨.inl ⟨hx0, hbig, rfl⟩, Below.refl _ _⟩
   ·have hneg : n < 0 := by
     by_cases h : n < 0
     ·exact h
     ·exact absurd ⟨hx0, by omega, by omega⟩ hpos
    clear hpos
    have HX0 := Lib.hid hx0
    clear hx0
    have hmul : IntKind.i64.wrap (-32 * (r : Int)) = -32 * (r : Int) := IntWalk.i64_in _ (by omega)
    by_cases hall : n ≤ -32 * (r : Int)
    ·go_wp2_with fail
     refine hR'.out _ _ ⟨.inr ⟨fun h => by omega, .slice none 0 0, rfl, ?_⟩, Below.refl _ _⟩
     have : shiftN x n = 0 := by
      unfold shiftN
      rw [if_neg (by omega)]
      exact nat_div_pow_zero (m := r) (by rw [HML.out]; exact Nat.le_refl _) (by omega)
     rw [this, limbs_zero]; exact World.ownsRow_nil _ _ _ _
    ·obtain ⟨k, rfl⟩ : ∃ k : Nat, n = -(k : Int) := ⟨(-n).toNat, by omega⟩
     obtain ⟨b, off, y, rfl, _, _, _⟩ := HRD.out.cellAt (k := 0) hr0
     have hkr : k / 32 < r := by omega
     have hneq : ¬ (c = k / 32) := by omega
     have hk0 : 0 < k := by omega
     have hdrop : Rd w 1 (.slice (some ⟨b, off + k / 32, none⟩) (r - k / 32) (c - k / 32)) (r - k / 32) (ints .u32 ((limbs x).drop (k / 32))) := by
      obtain ⟨p', c', hv', h1, h2, h3, h4⟩ := HRD.out
      simp only [Value.slice.injEq, true_and] at hv'
      obtain ⟨rfl, rfl⟩ := hv'
      refine ⟨_, _, rfl, by omega, by unfold maxLen at h2 ⊢; omega, by rw [ints_length, List.length_drop, HML.out]; omega, fun _ => ⟨b, off + k / 32, rfl, fun j u hj => ?_⟩⟩
      obtain ⟨b', off', hp, hc⟩ := h4 (by omega)
      simp only [Option.some.injEq, Addr.mk.injEq, and_true] at hp
      obtain ⟨rfl, rfl⟩ := hp
      rw [← ints_drop, List.getElem?_drop] at hj
      have := hc _ _ hj
      rwa [← Nat.add_assoc] at this
     have HDR := Lib.hid hdrop
     clear hdrop
     have hq1 : 0 ≤ (k : Int) / 32 := by omega
     have hq2 : (k : Int) / 32 < (r : Int) := by omega
     go_wp2_with fail
     rw [show (k : Int) % 32 = ((k % 32 : Nat) : Int) by omega]
     refine (right_any _ _ (k % 32) _ _ HDR.out ((limbs_lim x).drop _) (by omega) (Nat.mod_lt _ (by omega))).mono ?_
     rintro e w1 ⟨⟨v1, m1, rs, rfl, hm1, hrd1, hl1, hv1⟩, hb1⟩
     obtain ⟨p1, c1, rfl, _, _, hrl⟩ := hrd1.u32
     have HR1 := Lib.hid hrd1
     have HV1 := Lib.hid hv1
     have HRL := Lib.hid hrl
     clear hrd1 hv1 hrl
     go_wp2_with fail
     refine (trimmed_any p1 m1 c1 rs _ HR1.out hl1).mono ?_
     rintro e w2 ⟨⟨r2, hr2, rfl, hlr2⟩, rfl⟩
     have hml2 : Hid ((limbs (nval rs)).length = r2) := by show _ = _; rw [hlr2, List.length_take, HRL.out]; omega
     have HR2 := Lib.hid (HR1.out.limbs hr2 hlr2)
     clear hlr2
     go_wp2_with fail
     refine (clone_any _ r2 _ _ HR2.out (by omega)).mono ?_
     rintro e w2 ⟨v2, rfl, hown, hb2⟩
     have hval : shiftN x (-(k : Int)) = nval rs := by
      unfold shiftN
      rw [if_neg (by omega), HV1.out, nval_drop_limbs x (k / 32) (by rw [HML.out]; omega), Nat.div_div_eq_div_mul, pow32, ← Nat.pow_add, Nat.div_add_mod]
      simp
     go_wp2_with fail
     refine hR'.out _ _ ⟨.inr ⟨fun h => by omega, v2, rfl, ?_⟩, hb1.trans (hb2.mono hb1.size)⟩
     rw [hval, hml2.out]
     exact Own.mono hown hb1.size

end Go.Proofs.YtofdiijioejljaaGreat
