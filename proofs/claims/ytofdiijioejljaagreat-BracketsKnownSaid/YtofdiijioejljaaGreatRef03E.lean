/- What the reference's number layer computes: times. -/
import Derived.Test.YtofdiijioejljaaGreatHalfMath
set_option linter.all false
set_option maxRecDepth 4000
namespace Go.Proofs.YtofdiijioejljaaGreat
open Go.RowKit
attribute [local irreducible] vcOps VS

theorem read1 {w : World} {b off k : Nat} {u : Value} {z : Int} (hz : z = (k : Int)) (h : w.cell? ⟨b, off + k, none⟩ = some u) : ∀ j v, [u][j]? = some v → w.cell? ((⟨b, off + z.toNat * 1, none⟩ : Addr).add j) = some v := by
 subst hz
 intro j v hj
 rw [Addr.add_mid, Int.toNat_natCast, Nat.mul_one]
 cases j with
 | zero => cases hj; exact h
 | succ j => cases hj
theorem times_end {i k : Nat} {os xs ys : List Nat} {x : Nat} (hx : xs[i]? = some x) (hk : ys.length ≤ k) (h : hval os + 65536 ^ (i + k) * 0 = hval (xs.take i) * hval ys + 65536 ^ i * (x * hval (ys.take k))) : hval os = hval (xs.take (i + 1)) * hval ys := by
 have e : hval (xs.take (i + 1)) = hval (xs.take i) + 65536 ^ i * x := by
  rw [take_succ_snoc hx, hval_snoc, List.length_take, Nat.min_eq_left (by have := (List.getElem?_eq_some_iff.1 hx).1; omega)]
 rw [Nat.mul_zero, Nat.add_zero, List.take_of_length_le hk] at h
 rw [e, Nat.add_mul, h, Nat.mul_assoc]
theorem times_room {i k n m c : Nat} {os xs ys : List Nat} {x : Nat} (hxh : Half xs) (hyh : Half ys) (hx : xs[i]? = some x) (hn : xs.length = n) (hm : ys.length = m) (hk : m ≤ k) (hc : 0 < c) (h : hval os + 65536 ^ (i + k) * c = hval (xs.take i) * hval ys + 65536 ^ i * (x * hval (ys.take k))) : i + k < n + m + 1 := by
 have hi := (List.getElem?_eq_some_iff.1 hx).1
 have e : hval (xs.take (i + 1)) = hval (xs.take i) + 65536 ^ i * x := by
  rw [take_succ_snoc hx, hval_snoc, List.length_take, Nat.min_eq_left (by omega)]
 have e3 : ys.take k = ys := List.take_of_length_le (by omega)
 have e2 : hval os + 65536 ^ (i + k) * c = hval (xs.take (i + 1)) * hval ys := by
  rw [e, Nat.add_mul, h, e3, Nat.mul_assoc]
 have b1 : hval (xs.take (i + 1)) < 65536 ^ (i + 1) := by
  have := hval_lt (xs := xs.take (i + 1)) (Dig.take hxh _)
  rwa [List.length_take, Nat.min_eq_left (by omega)] at this
 have b2 : hval ys < 65536 ^ m := by have := hval_lt hyh; rwa [hm] at this
 have b3 : hval (xs.take (i + 1)) * hval ys < 65536 ^ (i + 1 + m) := by
  rw [Nat.pow_add]; exact Nat.mul_lt_mul'' b1 b2
 have b4 : 65536 ^ (i + k) ≤ 65536 ^ (i + k) * c := Nat.le_mul_of_pos_right _ hc
 have : 65536 ^ (i + k) < 65536 ^ (i + 1 + m) := by omega
 have := (Nat.pow_lt_pow_iff_right (show 1 < 65536 by omega)).1 this
 omega
theorem half_bound {x y o c : Nat} (hx : x < 65536) (hy : y < 65536) (ho : o < 65536) (hc : c < 65536) : x * y + o + c < 4294967296 := by
 have h1 : x * y ≤ 65535 * 65535 := Nat.mul_le_mul (by omega) (by omega)
 omega

set_option maxHeartbeats 1000000 in
theorem times03_any (va vb : Value) (n m : Nat) (xs ys : List Nat) (w : World) (hr : Rd w 1 va n (ints .i64 xs)) (hs : Rd w 1 vb m (ints .i64 ys)) (hx : Half xs) (hy : Half ys) (hn : n ≤ 2147483656) (hm : m ≤ 2147483656) :
  Calls Tryz.prog 113 #[va, vb] w fun e w' => ∃ v', e = .returned v' ∧ IntRow w' w.heap.size v' (halves (hval xs * hval ys)).length (halves (hval xs * hval ys)) ∧ Beh w w' := by
 obtain ⟨p, c, rfl, hnc, hcm, hxl⟩ := hr.i64
 obtain ⟨q, d, rfl, hmd, hdm, hyl⟩ := hs.i64
 obtain ⟨N, hN⟩ : ∃ N, N = n + m + 1 := ⟨_, rfl⟩
 have hwN : IntKind.i64.wrap (IntKind.i64.wrap ((n : Int) + (m : Int)) + 1) = (N : Int) := by
  rw [IntWalk.i64_in ((n : Int) + (m : Int)) (by omega), IntWalk.i64_in _ (by omega)]; omega
 refine calm_enter (C := cxOf Tryz.prog w _) (args := [_, _]) Tryz.func113 rfl Tryz.ntmps113 (Nat.le_of_ble_eq_true rfl) ?_
 (repeat first|refine wN ?_|refine wP rfl ?_|refine cx_r rfl ?_|refine cx_d rfl ?_|refine wO rfl rfl ?_)
 refine VO.fix 15 rfl (congrArg (fun z => AV.val (.int .i64 z)) hwN) ?_
 refine VO.cond rfl ⟨rfl, by omega, by show (N : Int) * (24 * 1) ≤ _; omega⟩ (VO.fixH 16 rfl (iv_zeros _) (wV rfl ?_))
 rw [Int.toNat_natCast]
 (repeat first|refine wN ?_|refine wP rfl ?_|refine cx_r rfl ?_|refine cx_d rfl ?_|refine wO rfl rfl ?_)
 refine VS.loop (J := fun ms L M w' => ∃ (i : Nat) (os : List Nat), i ≤ n ∧ ms = n - i ∧ L = [(0, .val (.slice p n c)), (1, .val (.slice q m d)), (5, .row 16 0 N N), (6, .val (.int .i64 (i : Int)))] ∧ M = [(16, (3, iv os))] ∧
  os.length = N ∧ Half os ∧ hval os = hval (xs.take i) * hval ys) n ⟨_, _, ?_, ?_, ?_, ?_, ⟨0, List.replicate N 0, by omega, by omega, rfl, rfl, by simp, Dig.replicate (by omega) _, by rw [List.take_zero]; show val 65536 _ = val 65536 [] * _; rw [val_replicate_zero, val_nil, Nat.zero_mul]⟩⟩ ?_
 ·(repeat first|exact trivial|refine ⟨rfl, ?_⟩)
 ·(repeat first|exact trivial|refine ⟨rfl, ?_⟩)
 ·rfl
 ·exact ⟨.none (iv_lids _), trivial⟩
 rintro ms L M w' ⟨i, os, hi, rfl, rfl, rfl, hol, hoh, hov⟩
 (repeat first|refine wN ?_|refine wP rfl ?_|refine cx_r rfl ?_|refine cx_d rfl ?_|refine wO rfl rfl ?_)
 by_cases hin : i < n
 ·refine VS.condY rfl (decide_eq_true (Int.ofNat_lt.2 hin)) ?_
  (repeat first|refine wN ?_|refine wP rfl ?_|refine cx_r rfl ?_|refine cx_d rfl ?_|refine wO rfl rfl ?_)
  obtain ⟨b1, o1, x, rfl, hb1, hxk, hcx⟩ := hr.cellAt hin
  have hx4 := hx.at hxk
  refine VS.loop (J := fun ms L M w' => ∃ (k c' : Nat) (os' : List Nat), ms = N - (i + k) ∧ L = [(0, .val (.slice (some ⟨b1, o1, none⟩) n c)), (1, .val (.slice q m d)), (5, .row 16 0 N N), (6, .val (.int .i64 (i : Int))), (7, .val (.int .i64 (c' : Int))), (8, .val (.int .i64 (k : Int)))] ∧ M = [(16, (3, iv os'))] ∧
   os'.length = N ∧ Half os' ∧ c' < 65536 ∧ k ≤ N ∧ hval os' + 65536 ^ (i + k) * c' = hval (xs.take i) * hval ys + 65536 ^ i * (x * hval (ys.take k))) (N - i) ⟨_, _, ?_, ?_, ?_, ?_, ⟨0, 0, os, by omega, rfl, rfl, hol, hoh, by omega, by omega, by rw [List.take_zero, Nat.mul_zero, hov]; show _ = _ + 65536 ^ i * (x * 0); simp⟩⟩ ?_
  ·(repeat first|exact trivial|refine ⟨rfl, ?_⟩)
  ·(repeat first|exact trivial|refine ⟨rfl, ?_⟩)
  ·rfl
  ·exact ⟨.none (iv_lids _), trivial⟩
  rintro ms L M w'' ⟨k, c', os', rfl, rfl, rfl, hol', hoh', hc', hkN, hv⟩
  (repeat first|refine wN ?_|refine wP rfl ?_|refine cx_r rfl ?_|refine cx_d rfl ?_|refine wO rfl rfl ?_)
  have step : ∀ (hik : i + k < N), True := fun _ => trivial
  by_cases hgo : k < m ∨ 0 < c'
  ·have hik : i + k < N := by
    rcases Nat.lt_or_ge k m with e | e
    ·omega
    ·rw [hN]; exact times_room hx hy hxk hxl hyl e (by omega) hv
   obtain ⟨o, ho⟩ : ∃ o, os'[i + k]? = some o := ⟨_, List.getElem?_eq_getElem (by omega)⟩
   have ho4 := hoh'.at ho
   have hwik : IntKind.i64.wrap ((i : Int) + (k : Int)) = ((i + k : Nat) : Int) := by rw [IntWalk.i64_in _ (by omega)]; omega
   have hwk1 : IntKind.i64.wrap ((k : Int) + 1) = ((k + 1 : Nat) : Int) := by rw [IntWalk.i64_in _ (by omega)]; omega
   have hwoc : IntKind.i64.wrap ((o : Int) + (c' : Int)) = ((o + c' : Nat) : Int) := by rw [IntWalk.i64_in _ (by omega)]; omega
   by_cases hkm : k < m
   ·obtain ⟨b2, o2, y, rfl, hb2, hyk, hcy⟩ := hs.cellAt hkm
    have hy4 := hy.at hyk
    have hbd := half_bound hx4 hy4 ho4 hc'
    obtain ⟨s, hsd⟩ : ∃ s, s = x * y + o + c' := ⟨_, rfl⟩
    have hxy : (x : Int) * (y : Int) = ((x * y : Nat) : Int) := by simp
    have hws : IntKind.i64.wrap (IntKind.i64.wrap ((o : Int) + (c' : Int)) + IntKind.i64.wrap ((x : Int) * (y : Int))) = (s : Int) := by
     rw [hwoc, hxy, IntWalk.i64_in ((x * y : Nat) : Int) (by omega), IntWalk.i64_in _ (by omega)]; omega
    have hst := mulhalf_step ho hsd hv
    have hyt : hval (ys.take (k + 1)) = hval (ys.take k) + 65536 ^ k * y := by
     rw [take_succ_snoc hyk, hval_snoc, List.length_take, Nat.min_eq_left (by have := (List.getElem?_eq_some_iff.1 hyk).1; omega)]
    rw [← hyt] at hst
    have hwc : IntKind.i64.wrap ((s : Int).tdiv 65536) = ((s / 65536 : Nat) : Int) := by
     rw [Int.tdiv_eq_ediv_of_nonneg (by omega), IntWalk.i64_in _ (by omega)]; simp
    have hwm : (s : Int).tmod 65536 = ((s % 65536 : Nat) : Int) := by rw [Int.tmod_eq_emod_of_nonneg (by omega)]; simp
    refine VO.fix 27 rfl (congrArg (fun b => AV.val (.bool b)) (decide_eq_true (Int.ofNat_lt.2 hkm))) ?_
    (repeat first|refine wN ?_|refine wP rfl ?_|refine cx_r rfl ?_|refine cx_d rfl ?_|refine wO rfl rfl ?_)
    refine VO.fix 36 rfl (congrArg (fun z => AV.val (.int .i64 z)) hwik) ?_
    refine VO.cond rfl ⟨by omega, by omega⟩ (wV rfl ?_)
    refine VO.peek rfl [.val (.int .i64 (o : Int))] rfl (iv_peek0 ho (by rw [Int.toNat_natCast]; omega)) (wV rfl ?_)
    (repeat first|refine wN ?_|refine wP rfl ?_|refine cx_r rfl ?_|refine cx_d rfl ?_|refine wO rfl rfl ?_)
    refine VS.condY rfl (decide_eq_true (Int.ofNat_lt.2 hkm)) ?_
    (repeat first|refine wN ?_|refine wP rfl ?_|refine cx_r rfl ?_|refine cx_d rfl ?_|refine wO rfl rfl ?_)
    refine VO.cond rfl ⟨by omega, by omega⟩ (wV rfl ?_)
    refine VO.read rfl [.int .i64 (x : Int)] rfl (read1 rfl hcx) (wV rfl ?_)
    refine VO.cond rfl ⟨by omega, by omega⟩ (wV rfl ?_)
    refine VO.read rfl [.int .i64 (y : Int)] rfl (read1 rfl hcy) (wV rfl ?_)
    (repeat first|refine wN ?_|refine wP rfl ?_|refine cx_r rfl ?_|refine cx_d rfl ?_|refine wO rfl rfl ?_)
    refine VO.fix 59 rfl (congrArg (fun z => AV.val (.int .i64 z)) hwik) ?_
    refine VO.fix 61 rfl (congrArg (fun z => AV.val (.int .i64 z)) (by rw [hws, hwm])) ?_
    refine VO.cond rfl ⟨by omega, by omega⟩ (wV rfl ?_)
    refine VO.cond rfl (by show 0 + ((i + k : Nat) : Int).toNat * 1 + 1 ≤ _; rw [Int.toNat_natCast, iv_length]; omega) (wV rfl ?_)
    (repeat first|refine wN ?_|refine wP rfl ?_|refine cx_r rfl ?_|refine cx_d rfl ?_|refine wO rfl rfl ?_)
    refine VS.back (N - (i + (k + 1))) (by omega) ⟨_, _, ?_, ?_, ?_, ?_, ⟨k + 1, s / 65536, os'.set (i + k) (s % 65536), rfl, rfl, rfl, by simp [hol'], hoh'.set (Nat.mod_lt _ (by omega)) _, by omega, by omega, hst⟩⟩
    ·refine ⟨rfl, rfl, rfl, rfl, congrArg (fun z => some (AV.val (.int .i64 z))) (by rw [hws, hwc]), congrArg (fun z => some (AV.val (.int .i64 z))) hwk1, trivial⟩
    ·exact ⟨congrArg (fun l => some (_, l)) (iv_poke (by omega) (by rw [Int.toNat_natCast]; omega)), trivial⟩
    ·rfl
    ·exact ⟨.none (iv_lids _), trivial⟩
   ·have hc0 : 0 < c' := by omega
    obtain ⟨s, hsd⟩ : ∃ s, s = x * 0 + o + c' := ⟨_, rfl⟩
    have hws : IntKind.i64.wrap ((o : Int) + (c' : Int)) = (s : Int) := by rw [hwoc]; omega
    have hst := mulhalf_step ho hsd hv
    have hyt : hval (ys.take k) + 65536 ^ k * 0 = hval (ys.take (k + 1)) := by rw [List.take_of_length_le (by omega), List.take_of_length_le (by omega)]; rfl
    rw [hyt] at hst
    have hwc : IntKind.i64.wrap ((s : Int).tdiv 65536) = ((s / 65536 : Nat) : Int) := by
     rw [Int.tdiv_eq_ediv_of_nonneg (by omega), IntWalk.i64_in _ (by omega)]; simp
    have hwm : (s : Int).tmod 65536 = ((s % 65536 : Nat) : Int) := by rw [Int.tmod_eq_emod_of_nonneg (by omega)]; simp
    refine VO.fix 27 rfl (congrArg (fun b => AV.val (.bool b)) (decide_eq_false (fun e => hkm (Int.ofNat_lt.1 e)))) ?_
    (repeat first|refine wN ?_|refine wP rfl ?_|refine cx_r rfl ?_|refine cx_d rfl ?_|refine wO rfl rfl ?_)
    refine VS.condY rfl (decide_eq_true (by omega)) ?_
    (repeat first|refine wN ?_|refine wP rfl ?_|refine cx_r rfl ?_|refine cx_d rfl ?_|refine wO rfl rfl ?_)
    refine VO.fix 36 rfl (congrArg (fun z => AV.val (.int .i64 z)) hwik) ?_
    refine VO.cond rfl ⟨by omega, by omega⟩ (wV rfl ?_)
    refine VO.peek rfl [.val (.int .i64 (o : Int))] rfl (iv_peek0 ho (by rw [Int.toNat_natCast]; omega)) (wV rfl ?_)
    (repeat first|refine wN ?_|refine wP rfl ?_|refine cx_r rfl ?_|refine cx_d rfl ?_|refine wO rfl rfl ?_)
    refine VS.condN rfl (decide_eq_false (fun e => hkm (Int.ofNat_lt.1 e))) ?_
    (repeat first|refine wN ?_|refine wP rfl ?_|refine cx_r rfl ?_|refine cx_d rfl ?_|refine wO rfl rfl ?_)
    refine VO.fix 59 rfl (congrArg (fun z => AV.val (.int .i64 z)) hwik) ?_
    refine VO.fix 61 rfl (congrArg (fun z => AV.val (.int .i64 z)) (by rw [hws, hwm])) ?_
    refine VO.cond rfl ⟨by omega, by omega⟩ (wV rfl ?_)
    refine VO.cond rfl (by show 0 + ((i + k : Nat) : Int).toNat * 1 + 1 ≤ _; rw [Int.toNat_natCast, iv_length]; omega) (wV rfl ?_)
    (repeat first|refine wN ?_|refine wP rfl ?_|refine cx_r rfl ?_|refine cx_d rfl ?_|refine wO rfl rfl ?_)
    refine VS.back (N - (i + (k + 1))) (by omega) ⟨_, _, ?_, ?_, ?_, ?_, ⟨k + 1, s / 65536, os'.set (i + k) (s % 65536), rfl, rfl, rfl, by simp [hol'], hoh'.set (Nat.mod_lt _ (by omega)) _, by omega, by omega, hst⟩⟩
    ·refine ⟨rfl, rfl, rfl, rfl, congrArg (fun z => some (AV.val (.int .i64 z))) (by rw [hws, hwc]), congrArg (fun z => some (AV.val (.int .i64 z))) hwk1, trivial⟩
    ·exact ⟨congrArg (fun l => some (_, l)) (iv_poke (by omega) (by rw [Int.toNat_natCast]; omega)), trivial⟩
    ·rfl
    ·exact ⟨.none (iv_lids _), trivial⟩
  ·have hkm : ¬ (k < m) := by omega
   have hc0 : c' = 0 := by omega
   subst hc0
   refine VO.fix 27 rfl (congrArg (fun b => AV.val (.bool b)) (decide_eq_false (fun e => hkm (Int.ofNat_lt.1 e)))) ?_
   (repeat first|refine wN ?_|refine wP rfl ?_|refine cx_r rfl ?_|refine cx_d rfl ?_|refine wO rfl rfl ?_)
   have hwi1 : IntKind.i64.wrap ((i : Int) + 1) = ((i + 1 : Nat) : Int) := by rw [IntWalk.i64_in _ (by omega)]; omega
   refine VS.back (n - (i + 1)) (by omega) ⟨_, _, ?_, ?_, ?_, ?_, ⟨i + 1, os', by omega, rfl, rfl, rfl, hol', hoh', times_end hxk (by omega) hv⟩⟩
   ·exact ⟨rfl, rfl, rfl, congrArg (fun z => some (AV.val (.int .i64 z))) hwi1, trivial⟩
   ·(repeat first|exact trivial|refine ⟨rfl, ?_⟩)
   ·rfl
   ·exact ⟨.none (iv_lids _), trivial⟩
 ·obtain rfl : i = n := by omega
  refine VS.condN rfl (decide_eq_false (fun e => hin (Int.ofNat_lt.1 e))) ?_
  (repeat first|refine wN ?_|refine wP rfl ?_|refine cx_r rfl ?_|refine cx_d rfl ?_|refine wO rfl rfl ?_)
  rw [List.take_of_length_le (by omega)] at hov
  refine VO.callV rfl (fk Tryz.func131) (fun w1 β k1 b1 ho => (cut03_any (some ⟨β 16, 0, none⟩) N N os w1 (ownV_rd (spare := []) (by rw [List.append_nil]; exact ho.own 16 (.base (List.mem_singleton.2 rfl)) _ _ rfl) hol (Nat.le_refl _) (by simp only [maxLen]; omega)) hoh).mono ?_)
  rintro e w2 ⟨⟨mm, hmm, rfl, hcut⟩, rfl⟩
  refine ⟨.row 16 0 mm N, rfl, fun i hi => ⟨hi, by cases List.mem_singleton.1 hi; exact Option.some_ne_none _⟩, Beh.refl _, fun k2 _ b2 => wV rfl ?_⟩
  (repeat first|refine wN ?_|refine wP rfl ?_|refine cx_r rfl ?_|refine cx_d rfl ?_|refine wO rfl rfl ?_)
  refine VS.retA (cx_ok _ _) rfl (fun wz β kz bz he => ?_)
  have hml := cut_row hcut hmm hol
  rw [hov] at hcut hml
  refine ⟨_, rfl, ?_, bz⟩
  have := ownV_row (spare := []) (by rw [List.append_nil]; exact he.own 16 _ _ rfl) hol hmm (Nat.le_refl _) (by simp only [maxLen]; omega) (by simpa using hol)
  rw [← hcut] at this
  show IntRow wz w.heap.size (.slice (some ⟨β 16, 0, none⟩) mm N) _ _
  rw [← hml]
  exact this
end Go.Proofs.YtofdiijioejljaaGreat
