/- What the functions of the limb layer compute, part B: copies, comparison, sums, products with a limb. -/
import Derived.Test.YtofdiijioejljaaGreatLimbA
import Derived.Lib.SliceRun
set_option linter.all false
namespace Go.Proofs.YtofdiijioejljaaGreat
open Go.RowKit

theorem infoU32 : (Tryz.prog.info? 107).map (fun i => (i.zero, i.size, i.bytes)) = some (some (.int .u32 0), 1, 4) := by kernel_rfl

set_option maxRecDepth 100000 in
set_option maxHeartbeats 400000 in
theorem clone_any (v : Value) (n : Nat) (xs : List Nat) (w : World) (hr : Rd w 1 v n (ints .u32 xs)) (hn : n ≤ 1073741824) :
  Calls Tryz.prog 102 #[v] w fun e w' => ∃ v', e = .returned v' ∧ w'.ownsRow w.heap.size 107 1 v' n (ints .u32 xs) ∧ Below w.heap.size w w' := by
 obtain ⟨p, c, rfl, hnc, hcm, hl⟩ := hr.form
 have Hr := Lib.hid hr
 have hnil : ∀ w' : World, (binOp .eql 23 (.slice p n c) (.slice none 0 0)).run Tryz.prog w' = .ok (.bool p.isNone) w' := fun w' => Lib.run_eql_slice_nil w' 23 107 p n c 0 0 Tryz.underlying23
 obtain ⟨i0, hi, hz0, hz1, hz2⟩ := info_parts infoU32
 have HL := Lib.hid hl
 clear hl hr
 unfold maxLen at hcm
 cases p with
 | none =>
  refine walk_q fun R' hR' => ?_
  go_enter Tryz.func102, Tryz.ntmps102
  go_wp2
  refine hR'.out _ _ ⟨_, rfl, ?_, Below.refl _ _⟩
  obtain ⟨p, c', hv, _, _, h3, h4⟩ := Hr.out
  simp only [Value.slice.injEq, true_and] at hv
  obtain ⟨rfl, rfl⟩ := hv
  have h0 : n = 0 := by
   rcases Nat.eq_zero_or_pos n with h | h
   ·exact h
   ·obtain ⟨b, off, hp, _⟩ := h4 (by omega); cases hp
  subst h0
  have hx : ints .u32 xs = [] := List.eq_nil_of_length_eq_zero (by simpa using h3)
  rw [hx]
  exact World.ownsRow_nil _ _ _ _
 | some ad =>
  refine walk_q fun R' hR' => ?_
  go_enter Tryz.func102, Tryz.ntmps102
  go_wp2_with (at_builtin; refine wpList_append_rd _ rfl _ _ 23 rfl w.heap.size 107 i0 (.int .u32 0) 1 4 Tryz.underlying23 hi hz0 hz1 hz2 rfl (by decide) _ 0 [] rfl (World.ownsRow_made w #[] 0 (Nat.le_refl _) (by simp [maxLen]) rfl) _ n _ rfl (Hr.out.alloc _) (ints_one _ _) (by unfold maxLen; omega) (by omega) (by simp) ?_; intro v' w1 hown hgr)
  simp only [Nat.zero_add, List.nil_append] at hown
  refine hR'.out _ _ ⟨_, rfl, hown, ((Below.refl _ _).alloc (Nat.le_refl _) _).grown hgr (by simp) fun k hk => by injection (show some w.heap.size = some k from hk) with hk; omega⟩

theorem Rd.u32 {w : World} {v : Value} {n : Nat} {xs : List Nat} (h : Rd w 1 v n (ints .u32 xs)) : ∃ p c, v = .slice p n c ∧ n ≤ c ∧ c ≤ 9223372036854775807 ∧ xs.length = n := by
 obtain ⟨p, c, hv, h1, h2, h3⟩ := h.form
 unfold maxLen at h2
 exact ⟨p, c, hv, h1, by omega, by simpa using h3⟩
theorem Rd.limbs {w : World} {n c m : Nat} {p : Option Addr} {xs : List Nat} (h : Rd w 1 (.slice p n c) n (ints .u32 xs)) (hm : m ≤ n) (hl : limbs (nval xs) = xs.take m) :
  Rd w 1 (.slice p m c) m (ints .u32 (limbs (nval xs))) := by
 have := h.take hm
 rwa [Nat.mul_one, ints_take, ← hl] at this
theorem Own.limbs {w : World} {B e n c m : Nat} {p : Option Addr} {xs : List Nat} (h : w.ownsRow B e 1 (.slice p n c) n (ints .u32 xs)) (hm : m ≤ n) (hl : limbs (nval xs) = xs.take m) :
  w.ownsRow B e 1 (.slice p m c) m (ints .u32 (limbs (nval xs))) := by
 have := Own.take h hm
 rwa [Nat.mul_one, ints_take, ← hl] at this

set_option maxRecDepth 100000 in
set_option maxHeartbeats 400000 in
theorem trim_any (v : Value) (n : Nat) (xs : List Nat) (w : World) (hr : Rd w 1 v n (ints .u32 xs)) (hl : Lim xs) (hn : n ≤ 1073741824) :
  Calls Tryz.prog 75 #[v] w fun e w' => ∃ v', e = .returned v' ∧ w'.ownsRow w.heap.size 107 1 v' (limbs (nval xs)).length (ints .u32 (limbs (nval xs))) ∧ Below w.heap.size w w' := by
 obtain ⟨p, c, rfl, hnc, hcm, hxl⟩ := hr.u32
 have Hr := Lib.hid hr
 have HL := Lib.hid hl
 have HX := Lib.hid hxl
 clear hxl hl hr
 refine walk_q fun R' hR' => ?_
 go_enter Tryz.func75, Tryz.ntmps75
 go_wp2_with fail
 refine (trimmed_any p n c xs _ Hr.out HL.out).mono ?_
 rintro e w1 ⟨⟨m, hm, rfl, hlm⟩, rfl⟩
 have HM := Lib.hid hlm
 clear hlm
 have hml : Hid (m = (limbs (nval xs)).length) := by
  show _ = _
  rw [HM.out, List.length_take, HX.out]; omega
 go_wp2_with fail
 refine (clone_any _ m (limbs (nval xs)) _ (Hr.out.limbs hm HM.out) (by omega)).mono ?_
 rintro e w1 ⟨v', rfl, hown, hb⟩
 go_wp2
 refine hR'.out _ _ ⟨_, rfl, ?_, hb⟩
 rw [← hml.out]; exact hown

set_option maxRecDepth 100000 in
set_option maxHeartbeats 400000 in
theorem compareInt_any (a b : Nat) (w : World) :
  Calls Tryz.prog 122 #[.int .i64 (a : Int), .int .i64 (b : Int)] w fun e w' => e = .returned (.int .i64 (ncmp a b)) ∧ w = w' := by
 rcases Nat.lt_trichotomy a b with h | rfl | h
 ·have e1 := Lib.hid (ncmp_lt h)
  refine walk_q fun R' hR' => ?_
  go_enter Tryz.func122, Tryz.ntmps122
  go_wp2
  exact hR'.out _ _ ⟨ret1 e1.out.symm, rfl⟩
 ·have e1 := Lib.hid (ncmp_eq a)
  refine walk_q fun R' hR' => ?_
  go_enter Tryz.func122, Tryz.ntmps122
  go_wp2
  exact hR'.out _ _ ⟨ret1 e1.out.symm, rfl⟩
 ·have e1 := Lib.hid (ncmp_gt h)
  refine walk_q fun R' hR' => ?_
  go_enter Tryz.func122, Tryz.ntmps122
  go_wp2
  exact hR'.out _ _ ⟨ret1 e1.out.symm, rfl⟩
set_option maxRecDepth 100000 in
set_option maxHeartbeats 400000 in
theorem compareU32_any (a b : Nat) (w : World) :
  Calls Tryz.prog 123 #[.int .u32 (a : Int), .int .u32 (b : Int)] w fun e w' => e = .returned (.int .i64 (ncmp a b)) ∧ w = w' := by
 rcases Nat.lt_trichotomy a b with h | rfl | h
 ·have e1 := Lib.hid (ncmp_lt h)
  refine walk_q fun R' hR' => ?_
  go_enter Tryz.func123, Tryz.ntmps123
  go_wp2
  exact hR'.out _ _ ⟨ret1 e1.out.symm, rfl⟩
 ·have e1 := Lib.hid (ncmp_eq a)
  refine walk_q fun R' hR' => ?_
  go_enter Tryz.func123, Tryz.ntmps123
  go_wp2
  exact hR'.out _ _ ⟨ret1 e1.out.symm, rfl⟩
 ·have e1 := Lib.hid (ncmp_gt h)
  refine walk_q fun R' hR' => ?_
  go_enter Tryz.func123, Tryz.ntmps123
  go_wp2
  exact hR'.out _ _ ⟨ret1 e1.out.symm, rfl⟩

theorem limbs_cmp_len {a b : Nat} (h : (limbs a).length < (limbs b).length) : a < b := by
 rcases Nat.lt_or_ge a b with h' | h'
 ·exact h'
 ·have := limbs_len_mono h'; omega
theorem ncmp_len {a b : Nat} (h : (limbs a).length ≠ (limbs b).length) : ncmp (limbs a).length (limbs b).length = ncmp a b := by
 rcases Nat.lt_or_ge (limbs a).length (limbs b).length with h' | h'
 ·rw [ncmp_lt h', ncmp_lt (limbs_cmp_len h')]
 ·have h'' : (limbs b).length < (limbs a).length := by omega
  rw [ncmp_gt h'', ncmp_gt (limbs_cmp_len h'')]
theorem ncmp_digit {a b k x y : Nat} (hx : (limbs a)[k]? = some x) (hy : (limbs b)[k]? = some y) (hne : x ≠ y) (hd : (limbs a).drop (k + 1) = (limbs b).drop (k + 1)) : ncmp x y = ncmp a b := by
 rcases Nat.lt_or_ge x y with h | h
 ·have := val_lt_of_high (B := 4294967296) (limbs_lim a) hx hy h hd
  rw [show val 4294967296 (limbs a) = a from nval_limbs a, show val 4294967296 (limbs b) = b from nval_limbs b] at this
  rw [ncmp_lt h, ncmp_lt this]
 ·have h' : y < x := by omega
  have := val_lt_of_high (B := 4294967296) (limbs_lim b) hy hx h' hd.symm
  rw [show val 4294967296 (limbs a) = a from nval_limbs a, show val 4294967296 (limbs b) = b from nval_limbs b] at this
  rw [ncmp_gt h', ncmp_gt this]
theorem drop_step {α : Type} {xs ys : List α} {k : Nat} {x : α} (hx : xs[k]? = some x) (hy : ys[k]? = some x) (h : xs.drop (k + 1) = ys.drop (k + 1)) : xs.drop k = ys.drop k := by
 have h1 : xs.drop k = x :: xs.drop (k + 1) := by
  obtain ⟨hl, e⟩ := List.getElem?_eq_some_iff.1 hx
  rw [List.drop_eq_getElem_cons hl, e]
 have h2 : ys.drop k = x :: ys.drop (k + 1) := by
  obtain ⟨hl, e⟩ := List.getElem?_eq_some_iff.1 hy
  rw [List.drop_eq_getElem_cons hl, e]
 rw [h1, h2, h]

set_option maxRecDepth 100000 in
set_option maxHeartbeats 800000 in
theorem cmp_any (va vb : Value) (n m : Nat) (xs ys : List Nat) (w : World) (hr : Rd w 1 va n (ints .u32 xs)) (hs : Rd w 1 vb m (ints .u32 ys)) (hx : Lim xs) (hy : Lim ys) :
  Calls Tryz.prog 100 #[va, vb] w fun e w' => e = .returned (.int .i64 (ncmp (nval xs) (nval ys))) ∧ ∃ k, w' = w.drewN k := by
 obtain ⟨p, c, rfl, hnc, hcm, hxl⟩ := hr.u32
 obtain ⟨q, d, rfl, hmd, hdm, hyl⟩ := hs.u32
 obtain ⟨a, ha⟩ : ∃ a, a = nval xs := ⟨_, rfl⟩
 obtain ⟨b, hb⟩ : ∃ b, b = nval ys := ⟨_, rfl⟩
 have Hr := Lib.hid hr
 have Hs := Lib.hid hs
 have HL := Lib.hid hx
 have HM := Lib.hid hy
 have HX := Lib.hid hxl
 have HY := Lib.hid hyl
 rw [← ha, ← hb]
 have HA := Lib.hid ha
 have HB := Lib.hid hb
 clear hxl hyl hx hy hr hs ha hb
 refine walk_q fun R' hR' => ?_
 go_enter Tryz.func100, Tryz.ntmps100
 go_wp2_with fail
 refine (trimmed_any p n c xs _ Hr.out HL.out).mono ?_
 rintro e w1 ⟨⟨n', hn', rfl, hln⟩, rfl⟩
 have HLN := Lib.hid hln
 clear hln
 go_wp2_with fail
 refine (trimmed_any q m d ys _ Hs.out HM.out).mono ?_
 rintro e w1 ⟨⟨m', hm', rfl, hlm⟩, rfl⟩
 have HLM := Lib.hid hlm
 clear hlm
 have HN : Hid ((limbs a).length = n') := by show _ = _; rw [HA.out, HLN.out, List.length_take, HX.out]; omega
 have HMM : Hid ((limbs b).length = m') := by show _ = _; rw [HB.out, HLM.out, List.length_take, HY.out]; omega
 have hra := Hr.out.limbs hn' HLN.out
 have hrb := Hs.out.limbs hm' HLM.out
 rw [← HA.out] at hra
 rw [← HB.out] at hrb
 have Hra := Lib.hid hra
 have Hrb := Lib.hid hrb
 clear hra hrb
 by_cases hne : n' = m'
 ·subst hne
  go_wp2_with fail
  go_loopw [5] (fun iv wr => ∃ k dn : Nat, k ≤ n' ∧ iv = .int .i64 ((k : Int) - 1) ∧ (limbs a).drop k = (limbs b).drop k ∧ wr = w.drewN dn) (fun iv _ => (intOf iv + 1).toNat)
  case atStart => exact ⟨n', 0, Nat.le_refl _, rfl, by rw [List.drop_of_length_le (Nat.le_of_eq HN.out), List.drop_of_length_le (Nat.le_of_eq HMM.out)], rfl⟩
  case round =>
   obtain ⟨k, dn, hk, rfl, hd, rfl⟩ := hrel
   have HD := Lib.hid hd
   clear hd
   by_cases h0 : k = 0
   ·subst h0
    go_wp2
    exact hR'.out _ _ ⟨ret1 (by rw [limbs_inj (show limbs a = limbs b by simpa using HD.out), ncmp_eq]), _, rfl⟩
   ·obtain ⟨j, rfl⟩ : ∃ j, k = j + 1 := ⟨k - 1, by omega⟩
    obtain ⟨g1, o1, x, rfl, hg1, hx, hcx⟩ := Hra.out.cellAt (k := j) (by omega)
    obtain ⟨g2, o2, y, rfl, hg2, hy, hcy⟩ := Hrb.out.cellAt (k := j) (by omega)
    have HXX := Lib.hid hx
    have HYY := Lib.hid hy
    have hjj : ((j + 1 : Nat) : Int) - 1 = (j : Int) := by omega
    clear hx hy h0 hg1 hg2
    rw [hjj]
    clear hjj
    by_cases hxy : x = y
    ·subst hxy
     have hb0 : ((x : Int) != (x : Int)) = false := by simp
     go_wp2_with fail
     go_quiet (fail)
     go_wp2
     go_roundw
     case rel => exact ⟨j, _, by omega, rfl, drop_step HXX.out HYY.out HD.out, rfl⟩
     case measure => simp [intOf]
    ·have hb0 : ((x : Int) != (y : Int)) = true := by rw [bne_iff_ne]; omega
     go_wp2_with fail
     go_quiet (fail)
     go_wp2_with fail
     go_quiet ((go_at_call 123; exact quiet_pure (compareU32_any x y _) ⟨_, rfl⟩))
     go_wp2
     exact hR'.out _ _ ⟨ret1 (ncmp_digit HXX.out HYY.out hxy HD.out), _, by rw [World.drewN_drewN, World.drewN_drewN]⟩
 ·have hne' : ((n' : Int) != (m' : Int)) = true := by rw [bne_iff_ne]; omega
  go_wp2_with fail
  refine (compareInt_any n' m' _).mono ?_
  rintro e w1 ⟨rfl, rfl⟩
  go_wp2
  exact hR'.out _ _ ⟨ret1 (by rw [← HN.out, ← HMM.out]; exact ncmp_len (by rw [HN.out, HMM.out]; exact hne)), 0, rfl⟩
def AddInv (w : World) (B g N : Nat) (xs ys : List Nat) (cv iv : Value) (wr : World) : Prop :=
 ∃ (k carry : Nat) (ds : List Nat), k ≤ N ∧ ds.length = k ∧ iv = .int .i64 (k : Int) ∧ cv = .int .u32 (carry : Int) ∧ carry ≤ 1 ∧ Lim ds ∧
  nval ds + 4294967296 ^ k * carry = nval (xs.take k) + nval (ys.take k) ∧
  wr.ownsRow B 107 1 (.slice (some ⟨g, 0, none⟩) (N + 1) (N + 1)) (N + 1) (ints .u32 (ds ++ List.replicate (N + 1 - k) 0)) ∧ Below B w wr

theorem AddInv.step {w wr : World} {B g N k carry x y : Nat} {xs ys ds : List Nat} (hk : k < N) (hds : ds.length = k) (hc : carry ≤ 1) (hl : Lim ds)
  (hv : nval ds + 4294967296 ^ k * carry = nval (xs.take k) + nval (ys.take k)) (hown : wr.ownsRow B 107 1 (.slice (some ⟨g, 0, none⟩) (N + 1) (N + 1)) (N + 1) (ints .u32 (ds ++ List.replicate (N + 1 - k) 0)))
  (hb : Below B w wr) (hx : xs.getD k 0 = x) (hy : ys.getD k 0 = y) (hx4 : x < 4294967296) (hy4 : y < 4294967296) :
  AddInv w B g N xs ys (.int .u32 (((x + y + carry) / 4294967296 : Nat) : Int)) (.int .i64 ((k : Int) + 1)) (wr.setCell ⟨g, k, none⟩ (.int .u32 (((x + y + carry) % 4294967296 : Nat) : Int))) := by
 subst hds
 have e : N + 1 - ds.length = (N - ds.length) + 1 := by omega
 rw [e] at hown
 have h1 := Own.midStore (x := (x + y + carry) % 4294967296) hown
 refine ⟨ds.length + 1, (x + y + carry) / 4294967296, ds ++ [(x + y + carry) % 4294967296], by omega, by simp, rfl, rfl, ?_, ?_, ?_, ?_, ?_⟩
 ·omega
 ·exact hl.append (Lim.cons (Nat.mod_lt _ (by omega)) Lim.nil)
 ·rw [nval_snoc, nval_take_getD, nval_take_getD, hx, hy, Nat.pow_succ]
  exact add_step _ _ x y carry _ _ _ hv rfl
 ·rw [show N + 1 - (ds.length + 1) = N - ds.length by omega]; exact h1
 ·exact hb.setCell (Own.lt hown).1 _

set_option maxRecDepth 100000 in
set_option maxHeartbeats 1000000 in
theorem add_two (p q : Option Addr) (n c m d : Nat) (xs ys : List Nat) (w : World) (hr : Rd w 1 (.slice p n c) n (ints .u32 xs)) (hs : Rd w 1 (.slice q m d) m (ints .u32 ys)) (hx : Lim xs) (hy : Lim ys)
  (hn : n ≤ 1073741824) (hmn : m ≤ n) (args : Array Value) (hargs : args = #[.slice p n c, .slice q m d] ∨ m < n ∧ args = #[.slice q m d, .slice p n c]) :
  Calls Tryz.prog 99 args w fun e w' => ∃ v', e = .returned v' ∧ w'.ownsRow w.heap.size 107 1 v' (limbs (nval xs + nval ys)).length (ints .u32 (limbs (nval xs + nval ys))) ∧ Below w.heap.size w w' := by
 obtain ⟨p', c', hv, hnc, hcm, hxl⟩ := hr.u32
 simp only [Value.slice.injEq, true_and] at hv
 obtain ⟨rfl, rfl⟩ := hv
 obtain ⟨q', d', hv, hmd, hdm, hyl⟩ := hs.u32
 simp only [Value.slice.injEq, true_and] at hv
 obtain ⟨rfl, rfl⟩ := hv
 have Hr := Lib.hid hr
 have Hs := Lib.hid hs
 have HL := Lib.hid hx
 have HM := Lib.hid hy
 have HX := Lib.hid hxl
 have HY := Lib.hid hyl
 obtain ⟨i0, hi, hz0, hz1, hz2⟩ := info_parts infoU32
 obtain ⟨B, hB⟩ : ∃ B, B = w.heap.size := ⟨_, rfl⟩
 have HB := Lib.hid hB
 rw [← hB]
 clear hxl hyl hx hy hr hs hB
 rcases hargs with rfl | ⟨hlt, rfl⟩
 all_goals
  refine walk_q fun R' hR' => ?_
  go_enter Tryz.func99, Tryz.ntmps99
  go_wp2_with (at_make; refine wpList_make_full _ rfl _ _ 23 rfl B 107 i0 (.int .u32 0) 1 Tryz.underlying23 hi hz0 hz1 .i64 .i64 _ _ (n + 1) rfl rfl (by omega) (by omega) (by rw [hz2]; omega) (by unfold maxLen; omega) (Nat.le_of_eq HB.out) ?_; intro w1 hown hgr)
  have Hown := Lib.hid (Own.made hown)
  have Hb1 : Hid (Below B w w1) := (Below.refl _ _).grown hgr (Nat.le_of_eq HB.out) (fun k hk => by cases hk)
  clear hown hgr
  go_loopw [6, 22] (fun cv iv wr => AddInv w B w.heap.size n xs ys cv iv wr) (fun _ iv _ => n - (intOf iv).toNat)
  case atStart => exact ⟨0, 0, [], Nat.zero_le _, rfl, rfl, rfl, by omega, Lim.nil, by simp [nval_nil], Hown.out, Hb1.out⟩
  case round =>
   obtain ⟨k, carry, ds, hk, hds, rfl, rfl, hc1, hl, hv, hown, hb⟩ := hrel
   have HO := Lib.hid hown
   have HDS := Lib.hid hds
   have HV := Lib.hid hv
   have HLD := Lib.hid hl
   have HBW := Lib.hid hb
   clear hown hds hv hl hb
   have hbs : B ≤ wr.heap.size := by have := HBW.out.size; have := HB.out; omega
   by_cases hkn : k < n
   ·obtain ⟨b1, o1, x, rfl, hb1, hxk, hcx⟩ := (Hr.out.belowB HB.out HBW.out).cellAt hkn
    have HXK := Lib.hid hxk
    have hx4 := HL.out.at hxk
    have e : n + 1 - k = (n - k) + 1 := by omega
    have hmid := HO.out
    rw [e] at hmid
    obtain ⟨hcell, hfro⟩ := Own.midCell hmid
    rw [HDS.out] at hcell hfro
    clear e hmid hxk
    by_cases hkm : k < m
    ·obtain ⟨b2, o2, y, rfl, hb2, hyk, hcy⟩ := (Hs.out.belowB HB.out HBW.out).cellAt hkm
     have HYK := Lib.hid hyk
     have hy4 := HM.out.at hyk
     clear hyk
     go_wp2_with fail
     refine (add32_any x y carry _ hx4 hy4 (by omega)).mono ?_
     rintro e w2 ⟨rfl, rfl⟩
     go_wp2_with fail
     go_roundw
     case rel => exact AddInv.step hkn HDS.out hc1 HLD.out HV.out HO.out HBW.out (by simp [List.getD, HXK.out]) (by simp [List.getD, HYK.out]) hx4 hy4
     case measure => simp [intOf]; omega
    ·have hy0 : Hid (ys.getD k 0 = 0) := by show _ = _; rw [List.getD, List.getElem?_eq_none (by rw [HY.out]; omega)]; rfl
     go_wp2_with fail
     refine (add32_any x 0 carry _ hx4 (by omega) (by omega)).mono ?_
     rintro e w2 ⟨rfl, rfl⟩
     go_wp2_with fail
     go_roundw
     case rel => exact AddInv.step hkn HDS.out hc1 HLD.out HV.out HO.out HBW.out (by simp [List.getD, HXK.out]) hy0.out hx4 (by omega)
     case measure => simp [intOf]; omega
   ·obtain rfl : k = n := by omega
    have e : k + 1 - k = 0 + 1 := by omega
    have hmid := HO.out
    rw [e] at hmid
    obtain ⟨hcell, hfro⟩ := Own.midCell hmid
    have hst := Own.midStore (x := carry) hmid
    rw [HDS.out] at hcell hfro hst
    have HST := Lib.hid hst
    clear e hmid hst
    go_wp2_with fail
    have hval : Hid (nval (ds ++ [carry]) = nval xs + nval ys) := by
     show _ = _
     rw [nval_snoc, HDS.out, HV.out, nval_take_all (Nat.le_of_eq HX.out), nval_take_all (by rw [HY.out]; exact hmn)]
    refine (trimmed_any _ (k + 1) (k + 1) (ds ++ [carry]) _ (by have := Rd.own HST.out; simpa using this) (HLD.out.append (Lim.cons (by omega) Lim.nil))).mono ?_
    rintro e w2 ⟨⟨r, hr, rfl, hlr⟩, rfl⟩
    have HLR := Lib.hid hlr
    clear hlr
    go_wp2_with fail
    refine hR'.out _ _ ⟨_, rfl, ?_, HBW.out.setCell (p := ⟨w.heap.size, k, none⟩) (Nat.le_of_eq HB.out) _⟩
    have h2 := HST.out
    rw [List.replicate_zero, List.append_nil] at h2
    have h3 := Own.limbs h2 hr HLR.out
    have e : (limbs (nval (ds ++ [carry]))).length = r := by rw [HLR.out, List.length_take, List.length_append, HDS.out]; simp; omega
    rw [hval.out] at h3 e
    rw [e]; exact h3

theorem add_any (va vb : Value) (n m : Nat) (xs ys : List Nat) (w : World) (hr : Rd w 1 va n (ints .u32 xs)) (hs : Rd w 1 vb m (ints .u32 ys)) (hx : Lim xs) (hy : Lim ys) (hn : n ≤ 1073741824) (hm : m ≤ 1073741824) :
  Calls Tryz.prog 99 #[va, vb] w fun e w' => ∃ v', e = .returned v' ∧ w'.ownsRow w.heap.size 107 1 v' (limbs (nval xs + nval ys)).length (ints .u32 (limbs (nval xs + nval ys))) ∧ Below w.heap.size w w' := by
 obtain ⟨p, c, rfl, _, _, _⟩ := hr.u32
 obtain ⟨q, d, rfl, _, _, _⟩ := hs.u32
 rcases Nat.lt_or_ge n m with h | h
 ·rw [Nat.add_comm (nval xs)]
  exact add_two q p m d n c ys xs w hs hr hy hx hm (by omega) _ (.inr ⟨h, rfl⟩)
 ·exact add_two p q n c m d xs ys w hr hs hx hy hn h _ (.inl rfl)
end Go.Proofs.YtofdiijioejljaaGreat
