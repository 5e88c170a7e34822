/- What the functions of the limb layer compute, part C: product and quotient with a limb, difference. -/
import Derived.Test.YtofdiijioejljaaGreatLimbB
set_option linter.all false
namespace Go.Proofs.YtofdiijioejljaaGreat
open Go.RowKit

def MulInv (w : World) (B g N m : Nat) (xs : List Nat) (cv iv : Value) (wr : World) : Prop :=
 ∃ (k carry : Nat) (ds : List Nat), k ≤ N ∧ ds.length = k ∧ iv = .int .i64 (k : Int) ∧ cv = .int .u32 (carry : Int) ∧ carry < 4294967296 ∧ Lim ds ∧
  nval ds + 4294967296 ^ k * carry = nval (xs.take k) * m ∧
  wr.ownsRow B 107 1 (.slice (some ⟨g, 0, none⟩) (N + 1) (N + 1)) (N + 1) (ints .u32 (ds ++ List.replicate (N + 1 - k) 0)) ∧ Below B w wr

theorem mul_carry (x m c : Nat) (hx : x < 4294967296) (hm : m < 4294967296) (hc : c < 4294967296) : (x * m + c) / 4294967296 < 4294967296 := by
 have h1 : x * m ≤ 4294967295 * 4294967295 := Nat.mul_le_mul (by omega) (by omega)
 omega
theorem mul_parts (x m c : Nat) : x * m / 4294967296 + (x * m % 4294967296 + c) / 4294967296 = (x * m + c) / 4294967296 ∧ (x * m % 4294967296 + c) % 4294967296 = (x * m + c) % 4294967296 := by
 generalize x * m = p; omega

theorem MulInv.step {w wr : World} {B g N k carry x m : Nat} {xs ds : List Nat} {c s : Int} (hk : k < N) (hds : ds.length = k) (hm : m < 4294967296) (hc : carry < 4294967296) (hl : Lim ds)
  (hv : nval ds + 4294967296 ^ k * carry = nval (xs.take k) * m) (hown : wr.ownsRow B 107 1 (.slice (some ⟨g, 0, none⟩) (N + 1) (N + 1)) (N + 1) (ints .u32 (ds ++ List.replicate (N + 1 - k) 0)))
  (hb : Below B w wr) (hx : xs[k]? = some x) (hx4 : x < 4294967296) (he : c = (((x * m + carry) / 4294967296 : Nat) : Int)) (hs : s = (((x * m % 4294967296 + carry) % 4294967296 : Nat) : Int)) :
  MulInv w B g N m xs (.int .u32 c) (.int .i64 ((k : Int) + 1)) (wr.setCell ⟨g, k, none⟩ (.int .u32 s)) := by
 subst hds
 subst he
 subst hs
 have e : N + 1 - ds.length = (N - ds.length) + 1 := by omega
 rw [e] at hown
 have h1 := Own.midStore (x := (x * m + carry) % 4294967296) hown
 rw [(mul_parts x m carry).2]
 refine ⟨ds.length + 1, (x * m + carry) / 4294967296, ds ++ [(x * m + carry) % 4294967296], by omega, by simp, rfl, rfl, mul_carry x m carry hx4 hm hc, ?_, ?_, ?_, ?_⟩
 ·exact hl.append (Lim.cons (Nat.mod_lt _ (by omega)) Lim.nil)
 ·rw [nval_snoc, nval_take_getD, Nat.pow_succ, List.getD, hx]
  exact mul_step _ x m carry _ _ hv
 ·rw [show N + 1 - (ds.length + 1) = N - ds.length by omega]; exact h1
 ·exact hb.setCell (Own.lt hown).1 _

set_option maxRecDepth 100000 in
set_option maxHeartbeats 1000000 in
theorem mulSmall_any (va : Value) (n m : Nat) (xs : List Nat) (w : World) (hr : Rd w 1 va n (ints .u32 xs)) (hx : Lim xs) (hn : n ≤ 1073741824) (hm : m < 4294967296) :
  Calls Tryz.prog 149 #[va, .int .u32 (m : Int)] w fun e w' => ∃ v', e = .returned v' ∧ w'.ownsRow w.heap.size 107 1 v' (limbs (nval xs * m)).length (ints .u32 (limbs (nval xs * m))) ∧ Below w.heap.size w w' := by
 obtain ⟨p, c, rfl, hnc, hcm, hxl⟩ := hr.u32
 have Hr := Lib.hid hr
 have HL := Lib.hid hx
 have HX := Lib.hid hxl
 obtain ⟨i0, hi, hz0, hz1, hz2⟩ := info_parts infoU32
 obtain ⟨B, hB⟩ : ∃ B, B = w.heap.size := ⟨_, rfl⟩
 have HB := Lib.hid hB
 rw [← hB]
 clear hxl hx hr hB
 refine walk_q fun R' hR' => ?_
 go_enter Tryz.func149, Tryz.ntmps149
 go_wp2_with (at_make; refine wpList_make_full _ rfl _ _ 23 rfl B 107 i0 (.int .u32 0) 1 Tryz.underlying23 hi hz0 hz1 .i64 .i64 _ _ (n + 1) rfl rfl (by omega) (by omega) (by rw [hz2]; omega) (by unfold maxLen; omega) (Nat.le_of_eq HB.out) ?_; intro w1 hown hgr)
 have Hown := Lib.hid (Own.made hown)
 have Hb1 : Hid (Below B w w1) := (Below.refl _ _).grown hgr (Nat.le_of_eq HB.out) (fun k hk => by cases hk)
 clear hown hgr
 go_loopw [6, 19] (fun cv iv wr => MulInv w B w.heap.size n m xs cv iv wr) (fun _ iv _ => n - (intOf iv).toNat)
 case atStart => exact ⟨0, 0, [], Nat.zero_le _, rfl, rfl, rfl, by omega, Lim.nil, by simp [nval_nil], Hown.out, Hb1.out⟩
 case round =>
  obtain ⟨k, carry, ds, hk, hds, rfl, rfl, hc1, hl, hv, hown, hb⟩ := hrel
  have HO := Lib.hid hown
  have HDS := Lib.hid hds
  have HV := Lib.hid hv
  have HLD := Lib.hid hl
  have HBW := Lib.hid hb
  clear hown hds hv hl hb
  by_cases hkn : k < n
  ·obtain ⟨b1, o1, x, rfl, hb1, hxk, hcx⟩ := (Hr.out.belowB HB.out HBW.out).cellAt hkn
   have HXK := Lib.hid hxk
   have hx4 := HL.out.at hxk
   have e : n + 1 - k = (n - k) + 1 := by omega
   have hmid := HO.out
   rw [e] at hmid
   obtain ⟨hcell, hfro⟩ := Own.midCell hmid
   rw [HDS.out] at hcell hfro
   clear e hmid hxk
   have h1 : (x * m + carry) / 4294967296 < 4294967296 := mul_carry x m carry hx4 hm hc1
   have h2 := (mul_parts x m carry).1
   have h3 : (0 : Int) ≤ ((x * m / 4294967296 : Nat) : Int) + (((x * m % 4294967296 + carry + 0) / 4294967296 : Nat) : Int) ∧ ((x * m / 4294967296 : Nat) : Int) + (((x * m % 4294967296 + carry + 0) / 4294967296 : Nat) : Int) < 4294967296 := by omega
   have H2 : Hid (((x * m / 4294967296 : Nat) : Int) + (((x * m % 4294967296 + carry + 0) / 4294967296 : Nat) : Int) = (((x * m + carry) / 4294967296 : Nat) : Int)) := by show _ = _; omega
   obtain ⟨h3a, h3b⟩ := h3
   clear h2 h1
   go_wp2_with fail
   refine (mul32_any x m _ hx4 hm).mono ?_
   rintro e w2 ⟨rfl, rfl⟩
   go_wp2_with fail
   refine (add32_any (x * m % 4294967296) carry 0 _ (Nat.mod_lt _ (by omega)) hc1 (by omega)).mono ?_
   rintro e w2 ⟨rfl, rfl⟩
   go_wp2_with fail
   go_roundw
   case rel => exact MulInv.step hkn HDS.out hm hc1 HLD.out HV.out HO.out HBW.out HXK.out hx4 (by have := H2.out; omega) (by omega)
   case measure => simp [intOf]; omega
  ·obtain rfl : k = n := by omega
   have e : k + 1 - k = 0 + 1 := by omega
   have hmid := HO.out
   rw [e] at hmid
   obtain ⟨hcell, hfro⟩ := Own.midCell hmid
   have hst := Own.midStore (x := carry) hmid
   rw [HDS.out] at hcell hfro hst
   have HST := Lib.hid hst
   clear e hmid hst
   go_wp2_with fail
   have hval : Hid (nval (ds ++ [carry]) = nval xs * m) := by
    show _ = _
    rw [nval_snoc, HDS.out, HV.out, nval_take_all (Nat.le_of_eq HX.out)]
   refine (trimmed_any _ (k + 1) (k + 1) (ds ++ [carry]) _ (by have := Rd.own HST.out; simpa using this) (HLD.out.append (Lim.cons (by omega) Lim.nil))).mono ?_
   rintro e w2 ⟨⟨r, hr, rfl, hlr⟩, rfl⟩
   have HLR := Lib.hid hlr
   clear hlr
   go_wp2_with fail
   refine hR'.out _ _ ⟨_, rfl, ?_, HBW.out.setCell (p := ⟨w.heap.size, k, none⟩) (Nat.le_of_eq HB.out) _⟩
   have h2 := HST.out
   rw [List.replicate_zero, List.append_nil] at h2
   have h3 := Own.limbs h2 hr HLR.out
   have e : (limbs (nval (ds ++ [carry]))).length = r := by rw [HLR.out, List.length_take, List.length_append, HDS.out]; simp; omega
   rw [hval.out] at h3 e
   rw [e]; exact h3

def DivInv (w : World) (B : Nat) (qv : Value) (n d : Nat) (xs : List Nat) (iv rv : Value) (wr : World) : Prop :=
 ∃ (k r : Nat) (qs : List Nat), k ≤ n ∧ qs.length = n - k ∧ iv = .int .i64 ((k : Int) - 1) ∧ rv = .int .u32 (r : Int) ∧ r < d ∧ Lim qs ∧
  nval qs * d + r = nval (xs.drop k) ∧ wr.ownsRow B 107 1 qv n (ints .u32 (xs.take k ++ qs)) ∧ Below B w wr

theorem div_step (d r x Q X : Nat) (h : Q * d + r = X) :
  ((r * 4294967296 + x) / d + 4294967296 * Q) * d + (r * 4294967296 + x) % d = x + 4294967296 * X := by
 subst h
 have h2 := Nat.mod_add_div (r * 4294967296 + x) d
 rw [Nat.mul_comm d] at h2
 rw [Nat.add_mul, Nat.mul_add, Nat.mul_assoc]
 omega
theorem div_lt (d r x : Nat) (hr : r < d) (hx : x < 4294967296) : (r * 4294967296 + x) / d < 4294967296 := by
 rw [Nat.div_lt_iff_lt_mul (by omega)]
 have : (r + 1) * 4294967296 ≤ d * 4294967296 := Nat.mul_le_mul_right _ hr
 rw [Nat.mul_comm 4294967296 d]; omega
theorem nval_drop_cons {xs : List Nat} {k x : Nat} (h : xs[k]? = some x) : nval (xs.drop k) = x + 4294967296 * nval (xs.drop (k + 1)) := by
 obtain ⟨hl, e⟩ := List.getElem?_eq_some_iff.1 h
 rw [List.drop_eq_getElem_cons hl, e, nval_cons]
theorem set_take_mid {xs qs : List Nat} {k x : Nat} (hk : k < xs.length) : (xs.take (k + 1) ++ qs).set k x = xs.take k ++ x :: qs := by
 have h1 : xs.take (k + 1) = xs.take k ++ [xs[k]] := take_succ_snoc (List.getElem?_eq_getElem hk)
 rw [h1, List.append_assoc, List.set_append_right _ _ (by rw [List.length_take]; omega)]
 congr 1
 rw [List.length_take, Nat.min_eq_left (by omega), Nat.sub_self]; rfl

theorem DivInv.step {w wr : World} {B g cap n d j r x dn : Nat} {xs qs : List Nat} {q s : Int} (hj : j + 1 ≤ n) (hn : xs.length = n) (hqs : qs.length = n - (j + 1)) (hr : r < d) (hl : Lim qs)
  (hv : nval qs * d + r = nval (xs.drop (j + 1))) (hown : wr.ownsRow B 107 1 (.slice (some ⟨g, 0, none⟩) n cap) n (ints .u32 (xs.take (j + 1) ++ qs))) (hb : Below B w wr)
  (hx : xs[j]? = some x) (hx4 : x < 4294967296) (he : q = (((r * 4294967296 + x) / d : Nat) : Int)) (hs : s = (((r * 4294967296 + x) % d : Nat) : Int)) :
  DivInv w B (.slice (some ⟨g, 0, none⟩) n cap) n d xs (.int .i64 ((j : Int) - 1)) (.int .u32 s) ((wr.drewN dn).setCell ⟨g, j, none⟩ (.int .u32 q)) := by
 subst he
 subst hs
 refine ⟨j, (r * 4294967296 + x) % d, (r * 4294967296 + x) / d :: qs, by omega, by simp; omega, rfl, rfl, Nat.mod_lt _ (by omega), Lim.cons (div_lt d r x hr hx4) hl, ?_, ?_, ?_⟩
 ·rw [nval_cons, nval_drop_cons hx, ← hv]
  exact div_step d r x _ _ rfl
 ·have h1 := Own.elemStore (j := j) (x := (r * 4294967296 + x) / d) (Own.drewN hown dn)
  rwa [set_take_mid (by omega)] at h1
 ·exact (Below.drewN hb dn).setCell (Own.lt hown).1 _

set_option maxRecDepth 100000 in
set_option maxHeartbeats 1000000 in
theorem divSmall_any (va : Value) (n d : Nat) (xs : List Nat) (w : World) (hr : Rd w 1 va n (ints .u32 xs)) (hx : Lim xs) (hn : n ≤ 1073741824) (hd : d < 4294967296) :
  Calls Tryz.prog 134 #[va, .int .u32 (d : Int)] w fun e w' => ((d = 0 ∧ e = .returned (.tuple #[.slice none 0 0, .int .u32 0, .int .i64 20])) ∨
   (d ≠ 0 ∧ ∃ v', e = .returned (.tuple #[v', .int .u32 ((nval xs % d : Nat) : Int), .int .i64 0]) ∧ w'.ownsRow w.heap.size 107 1 v' (limbs (nval xs / d)).length (ints .u32 (limbs (nval xs / d))))) ∧ Below w.heap.size w w' := by
 obtain ⟨p, c, rfl, hnc, hcm, hxl⟩ := hr.u32
 have Hr := Lib.hid hr
 have HL := Lib.hid hx
 have HX := Lib.hid hxl
 clear hxl hx hr
 by_cases hd0 : d = 0
 ·have hdb : ((d : Int) == 0) = true := by rw [beq_iff_eq]; omega
  have HD := Lib.hid hd0
  clear hd0
  refine walk_q fun R' hR' => ?_
  go_enter Tryz.func134, Tryz.ntmps134
  go_wp2
  go_ret3
  exact hR'.out _ _ ⟨.inl ⟨HD.out, rfl⟩, Below.refl _ _⟩
 ·obtain ⟨B, hB⟩ : ∃ B, B = w.heap.size := ⟨_, rfl⟩
  have HB := Lib.hid hB
  rw [← hB]
  clear hB
  have hdb : ((d : Int) == 0) = false := by rw [beq_eq_false_iff_ne]; omega
  refine walk_q fun R' hR' => ?_
  go_enter Tryz.func134, Tryz.ntmps134
  go_wp2_with fail
  refine (clone_any _ n xs _ Hr.out hn).mono ?_
  rintro e w1 ⟨qv, rfl, hown, hb⟩
  rw [← HB.out] at hown hb
  obtain ⟨qp, qc, rfl, _, _, _⟩ := Own.form hown
  have HO := Lib.hid hown
  have HBW := Lib.hid hb
  clear hown hb
  go_wp2_with fail
  go_loopw [7, 5] (fun iv rv wr => DivInv w B (.slice qp n qc) n d xs iv rv wr) (fun iv _ _ => (intOf iv + 1).toNat)
  case atStart => exact ⟨n, 0, [], Nat.le_refl _, by simp, rfl, rfl, by omega, Lim.nil, by rw [List.drop_of_length_le (Nat.le_of_eq HX.out)]; simp [nval_nil], by rw [List.take_of_length_le (Nat.le_of_eq HX.out), List.append_nil]; exact HO.out, HBW.out⟩
  case round =>
   obtain ⟨k, r, qs, hk, hqs, rfl, rfl, hrd, hl, hv, hown, hb⟩ := hrel
   have HO2 := Lib.hid hown
   have HQS := Lib.hid hqs
   have HV := Lib.hid hv
   have HLD := Lib.hid hl
   have HBW2 := Lib.hid hb
   clear hown hqs hv hl hb
   by_cases h0 : k = 0
   ·subst h0
    go_wp2_with fail
    refine (trimmed_any _ n qc qs _ (by have := Rd.own HO2.out; simpa using this) HLD.out).mono ?_
    rintro e w2 ⟨⟨m, hm, rfl, hlm⟩, rfl⟩
    have HLM := Lib.hid hlm
    clear hlm
    go_wp2_with fail
    go_ret3
    have hv := HV.out
    rw [List.drop_zero] at hv
    have hq : nval xs / d = nval qs := by rw [← hv, Nat.add_comm, Nat.add_mul_div_right _ _ (by omega), Nat.div_eq_of_lt hrd, Nat.zero_add]
    have hm' : nval xs % d = r := by rw [← hv, Nat.add_comm, Nat.add_mul_mod_self_right, Nat.mod_eq_of_lt hrd]
    refine hR'.out _ _ ⟨.inr ⟨hd0, .slice qp m qc, by rw [hm']; rfl, ?_⟩, HBW2.out⟩
    have h2 := HO2.out
    rw [List.take_zero, List.nil_append] at h2
    have h3 := Own.limbs h2 hm HLM.out
    have e : (limbs (nval qs)).length = m := by rw [HLM.out, List.length_take, HQS.out]; omega
    rw [hq, e]; exact h3
   ·obtain ⟨j, rfl⟩ : ∃ j, k = j + 1 := ⟨k - 1, by omega⟩
    obtain ⟨g, qc', hv, hbg, hgl⟩ := Own.formPos HO2.out (by omega)
    simp only [Value.slice.injEq, true_and] at hv
    obtain ⟨rfl, rfl⟩ := hv
    obtain ⟨x, hx, hcell, hfro⟩ := Own.elemCell HO2.out (j := j) (by omega)
    have hxk : xs[j]? = some x := by
     rw [List.getElem?_append_left (by rw [List.length_take, HX.out]; omega), List.getElem?_take] at hx
     simpa using hx
    have HXK := Lib.hid hxk
    have hx4 := HL.out.at hxk
    have hjj : ((j + 1 : Nat) : Int) - 1 = (j : Int) := by omega
    rw [hjj]
    clear hx hxk h0 hjj
    go_wp2_with fail
    refine (div32_any r x d _ hrd hx4 hd).mono ?_
    rintro e w2 ⟨rfl, dn, rfl⟩
    go_wp2_with fail
    go_roundw
    case rel => exact DivInv.step (by omega) HX.out HQS.out hrd HLD.out HV.out HO2.out HBW2.out HXK.out hx4 (by simp) (by simp)
    case measure => simp [intOf]

def SubInv (w : World) (B : Nat) (ov : Value) (n : Nat) (xs ys : List Nat) (bv iv : Value) (wr : World) : Prop :=
 ∃ (k r : Nat) (ds : List Nat), k ≤ n ∧ ds.length = k ∧ iv = .int .i64 (k : Int) ∧ bv = .int .u32 (r : Int) ∧ r ≤ 1 ∧ Lim ds ∧
  nval ds + nval (ys.take k) = nval (xs.take k) + 4294967296 ^ k * r ∧ wr.ownsRow B 107 1 ov n (ints .u32 (ds ++ xs.drop k)) ∧ Below B w wr

theorem set_drop_mid {xs ds : List Nat} {x : Nat} (hk : ds.length < xs.length) : (ds ++ xs.drop ds.length).set ds.length x = (ds ++ [x]) ++ xs.drop (ds.length + 1) := by
 rw [List.set_append_right _ _ (Nat.le_refl _), Nat.sub_self, List.drop_eq_getElem_cons hk, List.set_cons_zero, List.append_assoc]; rfl

theorem sub_step (p x y r d r' X Y D : Nat) (h : D + Y = X + p * r) (hs : x + 4294967296 * r' = d + y + r) : (D + p * d) + (Y + p * y) = (X + p * x) + p * 4294967296 * r' := by
 have h2 : p * (x + 4294967296 * r') = p * (d + y + r) := by rw [hs]
 rw [Nat.mul_add, Nat.mul_add, Nat.mul_add, ← Nat.mul_assoc] at h2
 omega

theorem SubInv.step {w wr : World} {B g cap n k r x y d r' : Nat} {xs ys ds : List Nat} (hk : k < n) (hn : xs.length = n) (hds : ds.length = k) (hl : Lim ds)
  (hv : nval ds + nval (ys.take k) = nval (xs.take k) + 4294967296 ^ k * r) (hown : wr.ownsRow B 107 1 (.slice (some ⟨g, 0, none⟩) n cap) n (ints .u32 (ds ++ xs.drop k))) (hb : Below B w wr)
  (hx : xs.getD k 0 = x) (hy : ys.getD k 0 = y) (hd : d < 4294967296) (hr' : r' ≤ 1) (he : x + 4294967296 * r' = d + y + r) :
  SubInv w B (.slice (some ⟨g, 0, none⟩) n cap) n xs ys (.int .u32 (r' : Int)) (.int .i64 ((k : Int) + 1)) (wr.setCell ⟨g, k, none⟩ (.int .u32 (d : Int))) := by
 subst hds
 have h1 := Own.elemStore (j := ds.length) (x := d) hown
 rw [set_drop_mid (by omega)] at h1
 refine ⟨ds.length + 1, r', ds ++ [d], by omega, by simp, rfl, rfl, hr', hl.append (Lim.cons hd Lim.nil), ?_, h1, hb.setCell (Own.lt hown).1 _⟩
 rw [nval_snoc, nval_take_getD, nval_take_getD, hx, hy, Nat.pow_succ]
 exact sub_step _ x y r d r' _ _ _ hv he

set_option maxRecDepth 100000 in
set_option maxHeartbeats 1000000 in
theorem sub_any (va vb : Value) (n m : Nat) (xs ys : List Nat) (w : World) (hr : Rd w 1 va n (ints .u32 xs)) (hs : Rd w 1 vb m (ints .u32 ys)) (hx : Lim xs) (hy : Lim ys) (hn : n ≤ 1073741824) :
  Calls Tryz.prog 101 #[va, vb] w fun e w' => ((nval xs < nval ys ∧ e = .returned (.tuple #[.slice none 0 0, .int .i64 2])) ∨
   (nval ys ≤ nval xs ∧ ∃ v', e = .returned (.tuple #[v', .int .i64 0]) ∧ w'.ownsRow w.heap.size 107 1 v' (limbs (nval xs - nval ys)).length (ints .u32 (limbs (nval xs - nval ys))))) ∧ Below w.heap.size w w' := by
 obtain ⟨p, c, rfl, hnc, hcm, hxl⟩ := hr.u32
 obtain ⟨q, d, rfl, hmd, hdm, hyl⟩ := hs.u32
 obtain ⟨a, ha⟩ : ∃ a, a = nval xs := ⟨_, rfl⟩
 obtain ⟨b, hb⟩ : ∃ b, b = nval ys := ⟨_, rfl⟩
 have Hr := Lib.hid hr
 have Hs := Lib.hid hs
 have HL := Lib.hid hx
 have HM := Lib.hid hy
 have HX := Lib.hid hxl
 have HY := Lib.hid hyl
 rw [← ha, ← hb]
 have HA := Lib.hid ha
 have HB := Lib.hid hb
 clear hxl hyl hx hy hr hs ha hb
 refine walk_q fun R' hR' => ?_
 go_enter Tryz.func101, Tryz.ntmps101
 go_wp2_with fail
 refine (trimmed_any p n c xs _ Hr.out HL.out).mono ?_
 rintro e w1 ⟨⟨n', hn', rfl, hln⟩, rfl⟩
 have HLN := Lib.hid hln
 clear hln
 go_wp2_with fail
 refine (trimmed_any q m d ys _ Hs.out HM.out).mono ?_
 rintro e w1 ⟨⟨m', hm', rfl, hlm⟩, rfl⟩
 have HLM := Lib.hid hlm
 clear hlm
 have HN : Hid ((limbs a).length = n') := by show _ = _; rw [HA.out, HLN.out, List.length_take, HX.out]; omega
 have HMM : Hid ((limbs b).length = m') := by show _ = _; rw [HB.out, HLM.out, List.length_take, HY.out]; omega
 have hra := Hr.out.limbs hn' HLN.out
 have hrb := Hs.out.limbs hm' HLM.out
 rw [← HA.out] at hra
 rw [← HB.out] at hrb
 have Hra := Lib.hid hra
 have Hrb := Lib.hid hrb
 clear hra hrb
 go_wp2_with fail
 refine (cmp_any _ _ n' m' (limbs a) (limbs b) _ Hra.out Hrb.out (limbs_lim a) (limbs_lim b)).mono ?_
 rintro e w1 ⟨rfl, dn, rfl⟩
 rw [nval_limbs, nval_limbs]
 by_cases hab : a < b
 ·have hc : ncmp a b < 0 := ncmp_neg.2 hab
  generalize ncmp a b = cv at hc ⊢
  go_wp2_with fail
  exact hR'.out _ _ ⟨.inl ⟨hab, rfl⟩, Below.drewN (Below.refl _ _) _⟩
 ·have hc : 0 ≤ ncmp a b := by have := mt (@ncmp_neg a b).1 hab; omega
  generalize ncmp a b = cv at hc ⊢
  have hmn : m' ≤ n' := by rw [← HN.out, ← HMM.out]; exact limbs_len_mono (by omega)
  obtain ⟨B, hB⟩ : ∃ B, B = w.heap.size := ⟨_, rfl⟩
  have HBB := Lib.hid hB
  rw [← hB] at hR'
  clear hB
  go_wp2_with fail
  refine (clone_any _ n' (limbs a) _ (Rd.drewN Hra.out dn) (by omega)).mono ?_
  rintro e w1 ⟨qv, rfl, hown, hb⟩
  have hb : Below B w w1 := by rw [HBB.out]; exact (Below.drewN (Below.refl _ _) dn).trans hb
  have hown : w1.ownsRow B 107 1 qv n' (ints .u32 (limbs a)) := by rw [HBB.out]; exact hown
  obtain ⟨qp, qc, rfl, _, _, _⟩ := Own.form hown
  have HO := Lib.hid hown
  have HBW := Lib.hid hb
  clear hown hb
  go_wp2_with fail
  go_loopw [7, 22] (fun bv iv wr => SubInv w B (.slice qp n' qc) n' (limbs a) (limbs b) bv iv wr) (fun _ iv _ => n' - (intOf iv).toNat)
  case atStart => exact ⟨0, 0, [], Nat.zero_le _, rfl, rfl, rfl, by omega, Lim.nil, by simp [nval_nil], by simpa using HO.out, HBW.out⟩
  case round =>
   obtain ⟨k, r, ds, hk, hds, rfl, rfl, hr1, hl, hv, hown, hb⟩ := hrel
   have HO2 := Lib.hid hown
   have HDS := Lib.hid hds
   have HV := Lib.hid hv
   have HLD := Lib.hid hl
   have HBW2 := Lib.hid hb
   clear hown hds hv hl hb
   by_cases hkn : k < n'
   ·obtain ⟨g, qc', hv, hbg, hgl⟩ := Own.formPos HO2.out (by omega)
    simp only [Value.slice.injEq, true_and] at hv
    obtain ⟨rfl, rfl⟩ := hv
    obtain ⟨x, hx, hcell, hfro⟩ := Own.elemCell HO2.out (j := k) (by omega)
    have hxk : (limbs a)[k]? = some x := by
     rw [List.getElem?_append_right (by rw [HDS.out]; omega), HDS.out, List.getElem?_drop] at hx
     simpa using hx
    have HXK := Lib.hid hxk
    have hx4 := (limbs_lim a).at hxk
    clear hx hxk
    by_cases hkm : k < m'
    ·obtain ⟨b2, o2, y, rfl, hb2, hyk, hcy⟩ := (Hrb.out.belowB HBB.out HBW2.out).cellAt hkm
     have HYK := Lib.hid hyk
     have hy4 := (limbs_lim b).at hyk
     clear hyk
     go_wp2_with fail
     refine (sub32_any x y r _ hx4 hy4 (by omega)).mono ?_
     rintro e w2 ⟨⟨dd, rr, rfl, hdd, hrr, heq⟩, rfl⟩
     have HEQ := Lib.hid heq
     clear heq
     go_wp2_with fail
     go_roundw
     case rel => exact SubInv.step hkn HN.out HDS.out HLD.out HV.out HO2.out HBW2.out (by simp [List.getD, HXK.out]) (by simp [List.getD, HYK.out]) hdd hrr HEQ.out
     case measure => simp [intOf]; omega
    ·have hy0 : Hid ((limbs b).getD k 0 = 0) := by show _ = _; rw [List.getD, List.getElem?_eq_none (by rw [HMM.out]; omega)]; rfl
     go_wp2_with fail
     refine (sub32_any x 0 r _ hx4 (by omega) (by omega)).mono ?_
     rintro e w2 ⟨⟨dd, rr, rfl, hdd, hrr, heq⟩, rfl⟩
     have HEQ := Lib.hid heq
     clear heq
     go_wp2_with fail
     go_roundw
     case rel => exact SubInv.step hkn HN.out HDS.out HLD.out HV.out HO2.out HBW2.out (by simp [List.getD, HXK.out]) hy0.out hdd hrr HEQ.out
     case measure => simp [intOf]; omega
   ·obtain rfl : k = n' := by omega
    go_wp2_with fail
    have h2 := HO2.out
    rw [List.drop_of_length_le (Nat.le_of_eq HN.out), List.append_nil] at h2
    refine (trimmed_any _ k qc ds _ (Rd.own h2) HLD.out).mono ?_
    rintro e w2 ⟨⟨s, hs, rfl, hls⟩, rfl⟩
    have HLS := Lib.hid hls
    clear hls
    go_wp2_with fail
    have hval : nval ds = a - b := by
     have h1 := HV.out
     rw [nval_take_all (Nat.le_of_eq HN.out), nval_take_all (by rw [HMM.out]; exact hmn), nval_limbs, nval_limbs] at h1
     have h3 := nval_lt HLD.out
     rw [HDS.out] at h3
     have : r = 0 := by
      rcases Nat.eq_zero_or_pos r with h | h
      ·exact h
      ·have : r = 1 := by omega
       subst this
       omega
     subst this
     omega
    refine hR'.out _ _ ⟨.inr ⟨by omega, .slice qp s qc, rfl, ?_⟩, HBW2.out⟩
    have h3 := Own.limbs h2 hs HLS.out
    have e : (limbs (nval ds)).length = s := by rw [HLS.out, List.length_take, HDS.out]; omega
    rw [hval] at h3 e
    rw [e]; exact h3

end Go.Proofs.YtofdiijioejljaaGreat
