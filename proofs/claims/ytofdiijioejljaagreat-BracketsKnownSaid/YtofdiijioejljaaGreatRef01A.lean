/- What the reference of the limb layer computes, part A: half limbs. -/
import Derived.Test.YtofdiijioejljaaGreatLimbB
import Derived.Deep.RegionHeld3
set_option linter.all false
namespace Go.Proofs.YtofdiijioejljaaGreat
open Go.RowKit

theorem infoInt : (Tryz.prog.info? 3).map (fun i => (i.zero, i.size, i.bytes)) = some (some (.int .i64 0), 1, 8) := by kernel_rfl

def hval (xs : List Nat) : Nat := val 65536 xs
def halves (n : Nat) : List Nat := digs 65536 n
def Half (xs : List Nat) : Prop := Dig 65536 xs
theorem halves_half (n : Nat) : Half (halves n) := digs_dig (by omega) n
theorem hval_halves (n : Nat) : hval (halves n) = n := val_digs (by omega) n
theorem Half.at {xs : List Nat} (h : Half xs) {k x : Nat} (hk : xs[k]? = some x) : x < 65536 := Dig.at h hk
theorem halves_zero : halves 0 = [] := digs_zero _
theorem halves_inj {m n : Nat} (h : halves m = halves n) : m = n := digs_inj (by omega) h
theorem hval_snoc (xs : List Nat) (x : Nat) : hval (xs ++ [x]) = hval xs + 65536 ^ xs.length * x := val_snoc _ xs x
theorem hval_lt {xs : List Nat} (h : Half xs) : hval xs < 65536 ^ xs.length := val_lt h
theorem halves_len_nval {xs : List Nat} (h : Lim xs) : (halves (nval xs)).length ≤ 2 * xs.length := by
 apply digs_length_le (by omega)
 have := nval_lt h
 rwa [Nat.pow_mul]

theorem Rd.i64 {w : World} {v : Value} {n : Nat} {xs : List Nat} (h : Rd w 1 v n (ints .i64 xs)) : ∃ p c, v = .slice p n c ∧ n ≤ c ∧ c ≤ 9223372036854775807 ∧ xs.length = n := by
 obtain ⟨p, c, hv, h1, h2, h3⟩ := h.form
 unfold maxLen at h2
 exact ⟨p, c, hv, h1, by omega, by simpa using h3⟩
theorem Rd.takeI {w : World} {n c m : Nat} {p : Option Addr} {xs : List Nat} {k : IntKind} (h : Rd w 1 (.slice p n c) n (ints k xs)) (hm : m ≤ n) : Rd w 1 (.slice p m c) m (ints k (xs.take m)) := by
 have := h.take hm
 rwa [Nat.mul_one, ints_take] at this
theorem Own.takeI {w : World} {B e n c m : Nat} {p : Option Addr} {xs : List Nat} {k : IntKind} (h : w.ownsRow B e 1 (.slice p n c) n (ints k xs)) (hm : m ≤ n) : w.ownsRow B e 1 (.slice p m c) m (ints k (xs.take m)) := by
 have := Own.take h hm
 rwa [Nat.mul_one, ints_take] at this

set_option maxRecDepth 100000 in
set_option maxHeartbeats 400000 in
theorem at01_any (va : Value) (n i : Nat) (xs : List Nat) (w : World) (hr : Rd w 1 va n (ints .i64 xs)) :
  Calls Tryz.prog 128 #[va, .int .i64 (i : Int)] w fun e w' => e = .returned (.int .i64 ((xs.getD i 0 : Nat) : Int)) ∧ w = w' := by
 obtain ⟨p, c, rfl, hnc, hcm, hxl⟩ := hr.i64
 have HX := Lib.hid hxl
 clear hxl
 by_cases hi : i < n
 ·obtain ⟨b, off, x, rfl, _, hx, hc⟩ := hr.cellAt hi
  have e : Hid (xs.getD i 0 = x) := by show _ = _; rw [List.getD, hx]; rfl
  clear hx
  refine walk_q fun R' hR' => ?_
  go_enter Tryz.func128, Tryz.ntmps128
  go_wp2
  exact hR'.out _ _ ⟨ret1 (by rw [e.out]), rfl⟩
 ·have e : Hid (xs.getD i 0 = 0) := by show _ = _; rw [List.getD, List.getElem?_eq_none (by rw [HX.out]; omega)]; rfl
  refine walk_q fun R' hR' => ?_
  go_enter Tryz.func128, Tryz.ntmps128
  go_wp2
  exact hR'.out _ _ ⟨ret1 (by rw [e.out]; rfl), rfl⟩

set_option maxRecDepth 100000 in
set_option maxHeartbeats 400000 in
theorem cut01_any (p : Option Addr) (n c : Nat) (xs : List Nat) (w : World) (hr : Rd w 1 (.slice p n c) n (ints .i64 xs)) (hl : Half xs) :
  Calls Tryz.prog 141 #[.slice p n c] w fun e w' => (∃ m, m ≤ n ∧ e = .returned (.slice p m c) ∧ halves (hval xs) = xs.take m) ∧ w = w' := by
 obtain ⟨p', c', hv, hnc, hcm, hxl⟩ := hr.i64
 simp only [Value.slice.injEq, true_and] at hv
 obtain ⟨rfl, rfl⟩ := hv
 have HX : Hid (xs.length = n) := hxl
 clear hxl
 refine walk_q fun R' hR' => ?_
 go_enter Tryz.func141, Tryz.ntmps141
 go_wp2
 go_loop [0] (fun v => ∃ m, m ≤ n ∧ v = .slice p m c ∧ hval (xs.take m) = hval xs) (fun v => match v with | .slice _ m _ => m | _ => 0)
 case atStart => exact ⟨n, Nat.le_refl _, rfl, by rw [List.take_of_length_le (Nat.le_of_eq HX.out)]⟩
 case round =>
  obtain ⟨m, hm, rfl, hv⟩ := hrel
  have HV : Hid (hval (xs.take m) = hval xs) := hv
  clear hv
  by_cases h0 : m = 0
  ·subst h0
   go_wp2
   exact hR'.out _ _ ⟨⟨0, Nat.zero_le _, rfl, digs_take (by omega) hl (Nat.zero_le _) HV.out (.inl rfl)⟩, rfl⟩
  ·obtain ⟨b, off, x, rfl, hb, hx, hc⟩ := hr.cellAt (k := m - 1) (by omega)
   have HX2 : Hid (xs[m-1]? = some x) := hx
   clear hx
   have h0' : 0 < m := by omega
   obtain ⟨j, rfl⟩ : ∃ j, m = j + 1 := ⟨m - 1, by omega⟩
   rw [Nat.add_sub_cancel] at hc
   by_cases hx0 : x = 0
   ·subst hx0
    go_wp2
    go_round
    case rel => exact ⟨j, by omega, rfl, (val_take_of HX2.out).symm.trans HV.out⟩
    case measure => simp
   ·have hx0' : ((x : Int) == 0) = false := by rw [beq_eq_false_iff_ne]; omega
    go_wp2
    exact hR'.out _ _ ⟨⟨j + 1, hm, rfl, digs_take (by omega) hl (by rw [HX.out]; exact hm) HV.out (.inr ⟨x, HX2.out, hx0⟩)⟩, rfl⟩

theorem Own.cut {w : World} {B e n c m : Nat} {p : Option Addr} {xs : List Nat} (h : w.ownsRow B e 1 (.slice p n c) n (ints .i64 xs)) (hm : m ≤ n) (hl : halves (hval xs) = xs.take m) :
  w.ownsRow B e 1 (.slice p m c) (halves (hval xs)).length (ints .i64 (halves (hval xs))) ∧ m = (halves (hval xs)).length := by
 have hx : xs.length = n := by have := h.1; simpa using this
 have e2 : (halves (hval xs)).length = m := by rw [hl, List.length_take]; omega
 have := Own.takeI h hm
 rw [← hl] at this
 rw [e2]
 exact ⟨this, rfl⟩

def HalfInv (w : World) (B : Nat) (xs : List Nat) (ov iv : Value) (wr : World) : Prop :=
 ∃ (k : Nat) (hs : List Nat), k ≤ xs.length ∧ iv = .int .i64 (k : Int) ∧ hs.length = 2 * k ∧ Half hs ∧ hval hs = nval (xs.take k) ∧
  wr.ownsRow B 3 1 ov (2 * k) (ints .i64 hs) ∧ Below B w wr

theorem half_lo {x : Nat} (h : x < 4294967296) : IntKind.i64.wrap ((x : Int).tmod 65536) = ((x % 65536 : Nat) : Int) := by
 rw [Int.tmod_eq_emod_of_nonneg (by omega), IntWalk.i64_in _ (by omega)]; simp
theorem half_hi {x : Nat} (h : x < 4294967296) : IntKind.i64.wrap (IntKind.u32.wrap ((x : Int) / 65536)) = ((x / 65536 : Nat) : Int) := by
 rw [IntKind.wrap_u32', Int.emod_eq_of_lt (by omega) (by omega), IntWalk.i64_in _ (by omega)]; simp
theorem half_step {k x : Nat} {xs hs : List Nat} (hx : xs[k]? = some x) (hx4 : x < 4294967296) (hl : hs.length = 2 * k) (hh : Half hs) (hv : hval hs = nval (xs.take k)) :
  Half (hs ++ [x % 65536, x / 65536]) ∧ hval (hs ++ [x % 65536, x / 65536]) = nval (xs.take (k + 1)) := by
 have hk : k < xs.length := (List.getElem?_eq_some_iff.1 hx).1
 refine ⟨Dig.append hh (Dig.cons (Nat.mod_lt _ (by omega)) (Dig.cons (by omega) (Dig.nil _))), ?_⟩
 rw [take_succ_snoc hx, nval_snoc, ← hv, List.length_take, Nat.min_eq_left (by omega)]
 show val 65536 _ = _
 rw [val_append, hl]
 show hval hs + _ = _
 congr 1
 rw [Nat.pow_mul]
 show (4294967296 : Nat) ^ k * (x % 65536 + 65536 * (x / 65536 + 65536 * 0)) = _
 congr 1
 omega

set_option maxRecDepth 100000 in
set_option maxHeartbeats 1000000 in
theorem halves01_any (va : Value) (n : Nat) (xs : List Nat) (w : World) (hr : Rd w 1 va n (ints .u32 xs)) (hl : Lim xs) (hn : n ≤ 1073741824) :
  Calls Tryz.prog 127 #[va] w fun e w' => ∃ v', e = .returned v' ∧ w'.ownsRow w.heap.size 3 1 v' (halves (nval xs)).length (ints .i64 (halves (nval xs))) ∧ Below w.heap.size w w' := by
 obtain ⟨p, c, rfl, hnc, hcm, hxl⟩ := hr.u32
 obtain ⟨i0, hi, hz0, hz1, hz2⟩ := info_parts infoInt
 obtain ⟨B, hB⟩ : ∃ B, B = w.heap.size := ⟨_, rfl⟩
 have HB := Lib.hid hB
 have Hr := Lib.hid hr
 have HL := Lib.hid hl
 have HX := Lib.hid hxl
 rw [← hB]
 clear hr hl hxl hB
 refine walk_q fun R' hR' => ?_
 go_enter Tryz.func127, Tryz.ntmps127
 go_wp2
 go_loopw [3, 4] (fun ov iv wr => HalfInv w B xs ov iv wr) (fun _ iv _ => n - (intOf iv).toNat)
 case atStart => exact ⟨0, [], Nat.zero_le _, rfl, rfl, Dig.nil _, rfl, World.ownsRow_nil _ _ _ _, Below.refl _ _⟩
 case round =>
  obtain ⟨k, hs, hk, rfl, hhl, hhh, hhv, hown, hb⟩ := hrel
  have HK := Lib.hid hk
  have HO := Lib.hid hown
  have HHL := Lib.hid hhl
  have HHH := Lib.hid hhh
  have HHV := Lib.hid hhv
  have HBW := Lib.hid hb
  have hbs : B ≤ wr.heap.size := by have := hb.size; have := HB.out; omega
  have hkn' : k ≤ n := by rw [← HX.out]; exact hk
  clear hk hown hhl hhh hhv hb
  by_cases hkn : k < n
  ·obtain ⟨b1, o1, x, rfl, hb1, hxk, hcw⟩ := Hr.out.cellAt hkn
   have hcx := (HBW.out.cell (p := ⟨b1, o1 + k, none⟩) (by rw [HB.out]; exact hb1)).trans hcw
   have hne := own_ne HO.out (b := b1) (by rw [HB.out]; exact hb1)
   have HXK := Lib.hid hxk
   have hx4 := HL.out.at hxk
   have HNE := Lib.hid hne
   have hk0 : (0 : Int) ≤ (k : Int) := by omega
   have hk1 : (k : Int) < (n : Int) := by omega
   clear hxk hcw hne
   go_wp2_with fail
   go_region_held3 (fun w' => w'.cell? ⟨b1, o1 + k, none⟩ = some (.int .u32 (x : Int))) (first | exact hcx | go_keep | exact keep_cell hgrow hcx HNE.out)
    ((refine step_append_rd (by rfl) _ _ 135 (by rfl) B 3 i0 (.int .i64 0) 1 8 Tryz.underlying135 hi hz0 hz1 hz2 rfl (by omega) _ (2 * k) (ints .i64 hs) (by rfl) ((HO.out.alloc _).drew) _ 2 (ints .i64 [x % 65536, x / 65536]) (by rfl) (Rd.drew (Rd.lit2 (half_lo hx4) (half_hi hx4))) (ints_one .i64 [x % 65536, x / 65536]) (by unfold maxLen; omega) (by omega) (by simp; omega) ?_; intro v1 w1 hown1 hgrow))
   have HO1 := Lib.hid hown1
   have HG1 := Lib.hid hgrow
   clear hown1 hgrow
   go_wp2_with fail
   go_roundw
   case rel =>
    have hst := half_step HXK.out hx4 HHL.out HHH.out HHV.out
    exact ⟨k + 1, hs ++ [x % 65536, x / 65536], by rw [HX.out]; omega, by go_num, by simp [HHL.out]; omega, hst.1, hst.2, by rw [ints_append]; exact HO1.out, Below.behind HBW.out hbs HG1.out HO.out (Nat.le_refl _)⟩
   case measure => simp [intOf]; omega
  ·obtain rfl : k = n := by omega
   obtain ⟨p1, c1, hv1, _, _, _⟩ := Own.form HO.out
   have HV1 := Lib.hid hv1
   have hall : Hid (hval hs = nval xs) := by show _ = _; rw [HHV.out, nval_take_all (Nat.le_of_eq HX.out)]
   subst hv1
   go_wp2_with fail
   refine (cut01_any p1 (2 * k) c1 hs _ (Rd.own HO.out) HHH.out).mono ?_
   rintro e w2 ⟨⟨m, hm, rfl, hlm⟩, rfl⟩
   have HC := Own.cut HO.out hm hlm
   rw [hall.out] at HC
   have HC1 := Lib.hid HC.1
   have HC2 := Lib.hid HC.2
   clear HC hlm
   go_wp2_with fail
   refine hR'.out _ _ ⟨_, rfl, ?_, HBW.out⟩
   have := HC1.out
   rw [← HC2.out] at this ⊢
   exact this

end Go.Proofs.YtofdiijioejljaaGreat
