/- What the reference's number layer computes: less, take. -/
import Derived.Test.YtofdiijioejljaaGreatRef03E
set_option linter.all false
set_option maxRecDepth 4000
namespace Go.Proofs.YtofdiijioejljaaGreat
open Go.RowKit
attribute [local irreducible] vcOps VS

theorem halves_lt_len {A B : Nat} (h : (halves A).length < (halves B).length) : A < B := by
 rcases Nat.lt_or_ge A B with e | e
 ·exact e
 ·have : (halves B).length ≤ (halves A).length := digs_len_mono (by omega) e
  omega
theorem halves_lt_dig {A B k a b : Nat} (ha : (halves A)[k]? = some a) (hb : (halves B)[k]? = some b) (hab : a < b) (hh : (halves A).drop (k + 1) = (halves B).drop (k + 1)) : A < B := by
 have := val_lt_of_high (B := 65536) (halves_half A) ha hb hab hh
 have e1 : val 65536 (halves A) = A := hval_halves A
 have e2 : val 65536 (halves B) = B := hval_halves B
 omega
theorem drop_same {xs ys : List Nat} {k x : Nat} (hx : xs[k]? = some x) (hy : ys[k]? = some x) (h : xs.drop (k + 1) = ys.drop (k + 1)) : xs.drop k = ys.drop k := by
 obtain ⟨l1, e1⟩ := List.getElem?_eq_some_iff.1 hx
 obtain ⟨l2, e2⟩ := List.getElem?_eq_some_iff.1 hy
 rw [List.drop_eq_getElem_cons l1, List.drop_eq_getElem_cons l2, e1, e2, h]

set_option maxHeartbeats 1000000 in
theorem less03_any (va vb : Value) (n m A B : Nat) (w : World) (hr : Rd w 1 va n (ints .i64 (halves A))) (hs : Rd w 1 vb m (ints .i64 (halves B))) :
  Calls Tryz.prog 142 #[va, vb] w fun e w' => e = .returned (.bool (decide (A < B))) ∧ Beh w w' := by
 obtain ⟨p, c, rfl, hnc, hcm, hxl⟩ := hr.i64
 obtain ⟨q, d, rfl, hmd, hdm, hyl⟩ := hs.i64
 refine calm_enter (C := cxOf Tryz.prog w _) (args := [_, _]) Tryz.func142 rfl Tryz.ntmps142 (Nat.le_of_ble_eq_true rfl) ?_
 (repeat first|refine wN ?_|refine wP rfl ?_|refine cx_r rfl ?_|refine cx_d rfl ?_|refine wO rfl rfl ?_)
 by_cases hnm : n = m
 ·subst hnm
  refine VS.condN rfl (by simp) ?_
  (repeat first|refine wN ?_|refine wP rfl ?_|refine cx_r rfl ?_|refine cx_d rfl ?_|refine wO rfl rfl ?_)
  have hw0 : IntKind.i64.wrap ((n : Int) - 1) = (n : Int) - 1 := IntWalk.i64_in _ (by omega)
  refine VS.loop (J := fun ms L M w' => ∃ (k : Nat), k ≤ n ∧ ms = k ∧ L = [(0, .val (.slice p n c)), (1, .val (.slice q n d)), (5, .val (.int .i64 ((k : Int) - 1)))] ∧ M = [] ∧ (halves A).drop k = (halves B).drop k) n ⟨_, _, ?_, ?_, ?_, ?_, ⟨n, Nat.le_refl _, rfl, rfl, rfl, by rw [List.drop_of_length_le (by omega), List.drop_of_length_le (by omega)]⟩⟩ ?_
  ·exact ⟨rfl, rfl, congrArg (fun z => some (AV.val (.int .i64 z))) hw0, trivial⟩
  ·(repeat first|exact trivial|refine ⟨rfl, ?_⟩)
  ·rfl
  ·exact trivial
  rintro ms L M w' ⟨k, hk, hms, rfl, rfl, hd⟩
  (repeat first|refine wN ?_|refine wP rfl ?_|refine cx_r rfl ?_|refine cx_d rfl ?_|refine wO rfl rfl ?_)
  by_cases hk0 : k = 0
  ·subst hk0
   refine VS.condN rfl (decide_eq_false (by omega)) ?_
   (repeat first|refine wN ?_|refine wP rfl ?_|refine cx_r rfl ?_|refine cx_d rfl ?_|refine wO rfl rfl ?_)
   refine VS.ret (cx_ok _ _) rfl rfl (fun wz kz bz => ?_)
   have : A = B := halves_inj (by simpa using hd)
   exact ⟨by rw [this, decide_eq_false (Nat.lt_irrefl _)]; rfl, bz⟩
  ·obtain ⟨j, rfl⟩ : ∃ j, k = j + 1 := ⟨k - 1, by omega⟩
   have hj : ((j + 1 : Nat) : Int) - 1 = (j : Int) := by omega
   refine VS.condY rfl (decide_eq_true (by omega)) ?_
   refine VS.fix 5 rfl (congrArg (fun z => AV.val (.int .i64 z)) hj) ?_
   (repeat first|refine wN ?_|refine wP rfl ?_|refine cx_r rfl ?_|refine cx_d rfl ?_|refine wO rfl rfl ?_)
   obtain ⟨b1, o1, x, rfl, hb1, hxk, hcx⟩ := hr.cellAt (show j < n by omega)
   obtain ⟨b2, o2, y, rfl, hb2, hyk, hcy⟩ := hs.cellAt (show j < n by omega)
   refine VO.cond rfl ⟨by omega, by omega⟩ (wV rfl ?_)
   refine VO.read rfl [.int .i64 (x : Int)] rfl (read1 rfl hcx) (wV rfl ?_)
   refine VO.cond rfl ⟨by omega, by omega⟩ (wV rfl ?_)
   refine VO.read rfl [.int .i64 (y : Int)] rfl (read1 rfl hcy) (wV rfl ?_)
   (repeat first|refine wN ?_|refine wP rfl ?_|refine cx_r rfl ?_|refine cx_d rfl ?_|refine wO rfl rfl ?_)
   by_cases hxy : x = y
   ·subst hxy
    refine VS.condN rfl (by simp) ?_
    (repeat first|refine wN ?_|refine wP rfl ?_|refine cx_r rfl ?_|refine cx_d rfl ?_|refine wO rfl rfl ?_)
    have hw1 : IntKind.i64.wrap ((j : Int) - 1) = (j : Int) - 1 := IntWalk.i64_in _ (by omega)
    refine VS.back j (by omega) ⟨_, _, ?_, ?_, ?_, ?_, ⟨j, by omega, rfl, rfl, rfl, drop_same hxk hyk hd⟩⟩
    ·exact ⟨rfl, rfl, congrArg (fun z => some (AV.val (.int .i64 z))) hw1, trivial⟩
    ·(repeat first|exact trivial|refine ⟨rfl, ?_⟩)
    ·rfl
    ·exact trivial
   ·refine VS.condY rfl (by rw [bne_iff_ne]; omega) ?_
    (repeat first|refine wN ?_|refine wP rfl ?_|refine cx_r rfl ?_|refine cx_d rfl ?_|refine wO rfl rfl ?_)
    refine VO.cond rfl ⟨by omega, by omega⟩ (wV rfl ?_)
    refine VO.read rfl [.int .i64 (x : Int)] rfl (read1 rfl hcx) (wV rfl ?_)
    refine VO.cond rfl ⟨by omega, by omega⟩ (wV rfl ?_)
    refine VO.read rfl [.int .i64 (y : Int)] rfl (read1 rfl hcy) (wV rfl ?_)
    (repeat first|refine wN ?_|refine wP rfl ?_|refine cx_r rfl ?_|refine cx_d rfl ?_|refine wO rfl rfl ?_)
    refine VS.ret (cx_ok _ _) rfl rfl (fun wz kz bz => ?_)
    refine ⟨?_, bz⟩
    rcases Nat.lt_or_gt_of_ne hxy with e | e
    ·rw [decide_eq_true (halves_lt_dig hxk hyk e hd)]
     exact congrArg (fun b => Ending.returned (.bool b)) (decide_eq_true (Int.ofNat_lt.2 e))
    ·have := halves_lt_dig hyk hxk e hd.symm
     have hAB : decide (A < B) = false := decide_eq_false (by omega)
     rw [hAB]
     exact congrArg (fun b => Ending.returned (.bool b)) (decide_eq_false (by omega))
 ·refine VS.condY rfl (by rw [bne_iff_ne]; omega) ?_
  (repeat first|refine wN ?_|refine wP rfl ?_|refine cx_r rfl ?_|refine cx_d rfl ?_|refine wO rfl rfl ?_)
  refine VS.ret (cx_ok _ _) rfl rfl (fun wz kz bz => ?_)
  refine ⟨?_, bz⟩
  rcases Nat.lt_or_gt_of_ne hnm with e | e
  ·rw [decide_eq_true (halves_lt_len (by omega))]
   exact congrArg (fun b => Ending.returned (.bool b)) (decide_eq_true (Int.ofNat_lt.2 e))
  ·have := halves_lt_len (A := B) (B := A) (by omega)
   have hAB : decide (A < B) = false := decide_eq_false (by omega)
   rw [hAB]
   exact congrArg (fun b => Ending.returned (.bool b)) (decide_eq_false (by omega))

theorem take_step {ds us bs : List Nat} {i t br a b d br' : Nat} (hl : ds.length = i) (ha : us.getD i 0 = a) (hb : bs.getD i 0 = b) (hs : d + (t * b + br) = a + 65536 * br')
  (h : hval ds + t * hval (bs.take i) = hval (us.take i) + 65536 ^ i * br) : hval (ds ++ [d]) + t * hval (bs.take (i + 1)) = hval (us.take (i + 1)) + 65536 ^ (i + 1) * br' := by
 have e1 : hval (us.take (i + 1)) = hval (us.take i) + 65536 ^ i * a := by rw [← ha]; exact val_take_getD _ _ _
 have e2 : hval (bs.take (i + 1)) = hval (bs.take i) + 65536 ^ i * b := by rw [← hb]; exact val_take_getD _ _ _
 have e3 : 65536 ^ i * d + (65536 ^ i * (t * b) + 65536 ^ i * br) = 65536 ^ i * a + 65536 ^ i * (65536 * br') := by rw [← Nat.mul_add, ← Nat.mul_add, hs, Nat.mul_add]
 have e4 : t * (65536 ^ i * b) = 65536 ^ i * (t * b) := Nat.mul_left_comm _ _ _
 rw [hval_snoc, hl, e1, e2, Nat.mul_add t, e4, Nat.pow_succ, Nat.mul_assoc]
 omega
theorem take_end {ds us bs : List Nat} {n t br : Nat} (hh : Half ds) (hl : ds.length = n) (ha : us.length = n) (hle : t * hval bs ≤ hval us) (hb : t = 0 ∨ bs.length ≤ n)
  (h : hval ds + t * hval (bs.take n) = hval (us.take n) + 65536 ^ n * br) : hval ds = hval us - t * hval bs := by
 have e1 : us.take n = us := List.take_of_length_le (by omega)
 have e2 : t * hval (bs.take n) = t * hval bs := by
  rcases hb with e | e
  ·rw [e, Nat.zero_mul, Nat.zero_mul]
  ·rw [List.take_of_length_le e]
 rw [e1, e2] at h
 have hlt := hval_lt hh
 rw [hl] at hlt
 have : br = 0 := by
  rcases Nat.eq_zero_or_pos br with e | e
  ·exact e
  ·have := Nat.le_mul_of_pos_right (65536 ^ n) e
   omega
 rw [this, Nat.mul_zero] at h
 omega
def RowAt (d : Nat) (xs : List Nat) (v : AV) (M : List (Nat × (TypeId × List AV))) : Prop :=
 (xs = [] ∧ v = .val (.slice none 0 0) ∧ M = []) ∨ ∃ cap spare, v = .row d 0 xs.length cap ∧ M = [(d, (3, iv xs ++ spare))] ∧ xs.length ≤ cap ∧ cap ≤ 9223372036854775807 ∧ xs.length + spare.length = cap ∧ spare.all okLeaf = true ∧ lidsOf spare = []

set_option maxHeartbeats 1000000 in
theorem take03_any (va vb : Value) (n m t A B : Nat) (w : World) (hr : Rd w 1 va n (ints .i64 (halves A))) (hs : Rd w 1 vb m (ints .i64 (halves B))) (ht : t < 65536) (hle : t * B ≤ A) (hn : n ≤ 2147483656) :
  Calls Tryz.prog 133 #[va, vb, .int .i64 (t : Int)] w fun e w' => ∃ v', e = .returned v' ∧ IntRow w' w.heap.size v' (halves (A - t * B)).length (halves (A - t * B)) ∧ Beh w w' := by
 obtain ⟨p, c, rfl, hnc, hcm, hxl⟩ := hr.i64
 obtain ⟨q, d, rfl, hmd, hdm, hyl⟩ := hs.i64
 refine calm_enter (C := cxOf Tryz.prog w _) (args := [_, _, _]) Tryz.func133 rfl Tryz.ntmps133 (Nat.le_of_ble_eq_true rfl) ?_
 (repeat first|refine wN ?_|refine wP rfl ?_|refine cx_r rfl ?_|refine cx_d rfl ?_|refine wO rfl rfl ?_)
 refine VS.loop (J := fun ms L M w' => ∃ (i br : Nat) (ds : List Nat) (v : AV), i ≤ n ∧ ms = n - i ∧ L = [(0, .val (.slice p n c)), (1, .val (.slice q m d)), (2, .val (.int .i64 (t : Int))), (7, v), (8, .val (.int .i64 (br : Int))), (9, .val (.int .i64 (i : Int)))] ∧
  RowAt 47 ds v M ∧ ds.length = i ∧ Half ds ∧ br ≤ t ∧ hval ds + t * hval ((halves B).take i) = hval ((halves A).take i) + 65536 ^ i * br) n ⟨_, _, ?_, ?_, ?_, ?_, ⟨0, 0, [], .val (.slice none 0 0), by omega, by omega, rfl, .inl ⟨rfl, rfl, rfl⟩, rfl, Dig.nil _, by omega, by simp [hval, val]⟩⟩ ?_
 ·(repeat first|exact trivial|refine ⟨rfl, ?_⟩)
 ·(repeat first|exact trivial|refine ⟨rfl, ?_⟩)
 ·rfl
 ·exact trivial
 rintro ms L M w' ⟨i, br, ds, v, hi, rfl, rfl, hrow, hdl, hdh, hbr, hv⟩
 by_cases hin : i < n
 ·obtain ⟨b1, o1, x, rfl, hb1, hxk, hcx⟩ := hr.cellAt hin
  have hx4 := (halves_half A).at hxk
  have hxg : (halves A).getD i 0 = x := by rw [List.getD_eq_getElem?_getD, hxk]; rfl
  obtain ⟨y, hyg⟩ : ∃ y, (halves B).getD i 0 = y := ⟨_, rfl⟩
  have hy4 : y < 65536 := hyg ▸ getD_half (halves_half B) i
  have hty : t * y ≤ 65535 * 65535 := Nat.mul_le_mul (by omega) (by omega)
  obtain ⟨X, hX⟩ : ∃ X : Int, X = (x : Int) - br - (t * y : Nat) := ⟨_, rfl⟩
  obtain ⟨br', hbr'⟩ : ∃ br' : Nat, (br' : Int) = (if X < 0 then (65535 - X) / 65536 else 0) ∧ br' ≤ t := by
   by_cases h0 : X < 0
   ·refine ⟨((65535 - X) / 65536).toNat, by rw [if_pos h0]; omega, ?_⟩
    have : t * y ≤ t * 65535 := Nat.mul_le_mul_left _ (by omega)
    omega
   ·exact ⟨0, by rw [if_neg h0]; rfl, by omega⟩
  obtain ⟨dg, hdg⟩ : ∃ dg : Nat, (dg : Int) = X + 65536 * br' ∧ dg < 65536 := by
   refine ⟨(X + 65536 * br').toNat, ?_, ?_⟩
   ·by_cases h0 : X < 0
    ·rw [if_pos h0] at hbr'; omega
    ·omega
   ·by_cases h0 : X < 0
    ·rw [if_pos h0] at hbr'; omega
    ·rw [if_neg h0] at hbr'; omega
  have hsum : dg + (t * y + br) = x + 65536 * br' := by omega
  have hst := take_step hdl hxg hyg hsum hv
  have hw1 : IntKind.i64.wrap ((x : Int) - (br : Int)) = (x : Int) - br := IntWalk.i64_in _ (by omega)
  have hwi1 : IntKind.i64.wrap ((i : Int) + 1) = ((i + 1 : Nat) : Int) := by rw [IntWalk.i64_in _ (by omega)]; omega
  have hti : t * y ≤ t * 65535 := Nat.mul_le_mul_left _ (by omega)
  rcases hrow with ⟨rfl, rfl, rfl⟩ | ⟨cap, spare, rfl, rfl, h1, h2, h3, h4, h5⟩
  all_goals (repeat first|refine wN ?_|refine wP rfl ?_|refine cx_r rfl ?_|refine cx_d rfl ?_|refine wO rfl rfl ?_)
  ·by_cases him : i < m
   ·obtain ⟨b2, o2, y', rfl, hb2, hyk, hcy⟩ := hs.cellAt him
    obtain rfl : y' = y := by rw [List.getD_eq_getElem?_getD, hyk] at hyg; exact hyg
    have hwX : IntKind.i64.wrap (IntKind.i64.wrap ((x : Int) - (br : Int)) - IntKind.i64.wrap ((t : Int) * (y' : Int))) = X := by
     rw [hw1, show (t : Int) * (y' : Int) = ((t * y' : Nat) : Int) by simp, IntWalk.i64_in ((t * y' : Nat) : Int) (by omega), IntWalk.i64_in _ (by omega)]; omega
    refine VS.condY rfl (decide_eq_true (Int.ofNat_lt.2 hin)) ?_
    (repeat first|refine wN ?_|refine wP rfl ?_|refine cx_r rfl ?_|refine cx_d rfl ?_|refine wO rfl rfl ?_)
    refine VO.cond rfl ⟨by omega, by omega⟩ (wV rfl ?_)
    refine VO.read rfl [.int .i64 (x : Int)] rfl (read1 rfl hcx) (wV rfl ?_)
    (repeat first|refine wN ?_|refine wP rfl ?_|refine cx_r rfl ?_|refine cx_d rfl ?_|refine wO rfl rfl ?_)
    refine VS.condY rfl (decide_eq_true (Int.ofNat_lt.2 him)) ?_
    (repeat first|refine wN ?_|refine wP rfl ?_|refine cx_r rfl ?_|refine cx_d rfl ?_|refine wO rfl rfl ?_)
    refine VO.cond rfl ⟨by omega, by omega⟩ (wV rfl ?_)
    refine VO.read rfl [.int .i64 (y' : Int)] rfl (read1 rfl hcy) (wV rfl ?_)
    refine VO.fix 10 rfl (congrArg (fun z => AV.val (.int .i64 z)) hwX) ?_
    (repeat first|refine wN ?_|refine wP rfl ?_|refine cx_r rfl ?_|refine cx_d rfl ?_|refine wO rfl rfl ?_)
    by_cases h0 : X < 0
    ·rw [if_pos h0] at hbr'
     have hwb : IntKind.i64.wrap ((IntKind.i64.wrap (65535 - X)).tdiv 65536) = (br' : Int) := by
      rw [IntWalk.i64_in (65535 - X) (by omega), Int.tdiv_eq_ediv_of_nonneg (by omega), IntWalk.i64_in _ (by omega), hbr'.1]
     have hwd : IntKind.i64.wrap (X + IntKind.i64.wrap (65536 * (br' : Int))) = (dg : Int) := by
      rw [IntWalk.i64_in (65536 * (br' : Int)) (by omega), IntWalk.i64_in _ (by omega), hdg.1]
     refine VS.condY rfl (decide_eq_true h0) ?_
     (repeat first|refine wN ?_|refine wP rfl ?_|refine cx_r rfl ?_|refine cx_d rfl ?_|refine wO rfl rfl ?_)
     ·refine VO.fixH 46 rfl (congrArg (fun z => [AV.val (.int .i64 z)]) (show _ = (dg : Int) by rw [hwb, hwd])) ?_
      refine VO.app (cx_ok _ _) (t := 135) (e := 3) (sz := 1) (n := 0) (c := 0) (mm := 1) (known := []) (spare := []) (news := iv [dg]) (dst := 47) (del := none) rfl rfl rfl rfl rfl rfl rfl rfl (Nat.le_of_ble_eq_true rfl) rfl (.inl ⟨rfl, rfl, rfl, rfl, rfl, rfl, by omega⟩) (.inl rfl) rfl rfl (by omega) (by omega) ⟨rfl, rfl, iv_lids _⟩ ⟨rfl, rfl, iv_ok _⟩ rfl (by omega)
       (fun w1 β k1 b1 ho => ⟨_, _, rfl, .inr ⟨β 46, 0, rfl, own_src (rest := []) (ho.own 46 (.base (List.mem_append_right _ (List.mem_singleton.2 rfl))) _ _ rfl) rfl⟩⟩)
       (fun w2 cap' spare' ρ k2 b2 hρ hc1 hc2 hlen hok hlid => wV rfl ?_)
      (repeat first|refine wN ?_|refine wP rfl ?_|refine cx_r rfl ?_|refine cx_d rfl ?_|refine wO rfl rfl ?_)
      refine VS.back (n - (i + 1)) (by omega) ⟨_, _, ?_, ?_, ?_, ?_, ⟨i + 1, br', [dg], .row 47 0 ([dg]).length cap', by omega, rfl, rfl, .inr ⟨cap', spare', rfl, rfl, by simp; omega, hc2, ?_, hok, hlid⟩, by simp at hdl ⊢; omega, Dig.cons hdg.2 (Dig.nil _), hbr'.2, hst⟩⟩
      ·exact ⟨rfl, rfl, rfl, rfl, congrArg (fun z => some (AV.val (.int .i64 z))) hwb, congrArg (fun z => some (AV.val (.int .i64 z))) hwi1, trivial⟩
      ·exact ⟨rfl, trivial⟩
      ·rfl
      ·exact ⟨.append (.none (iv_lids _)) (.none hlid), trivial⟩
      ·simpa [iv_length, Nat.add_assoc] using hlen
    ·rw [if_neg h0] at hbr'
     have hb0 : br' = 0 := by omega
     subst hb0
     refine VS.condN rfl (decide_eq_false h0) ?_
     (repeat first|refine wN ?_|refine wP rfl ?_|refine cx_r rfl ?_|refine cx_d rfl ?_|refine wO rfl rfl ?_)
     ·refine VO.fixH 46 rfl (congrArg (fun z => [AV.val (.int .i64 z)]) (show X = (dg : Int) by omega)) ?_
      refine VO.app (cx_ok _ _) (t := 135) (e := 3) (sz := 1) (n := 0) (c := 0) (mm := 1) (known := []) (spare := []) (news := iv [dg]) (dst := 47) (del := none) rfl rfl rfl rfl rfl rfl rfl rfl (Nat.le_of_ble_eq_true rfl) rfl (.inl ⟨rfl, rfl, rfl, rfl, rfl, rfl, by omega⟩) (.inl rfl) rfl rfl (by omega) (by omega) ⟨rfl, rfl, iv_lids _⟩ ⟨rfl, rfl, iv_ok _⟩ rfl (by omega)
       (fun w1 β k1 b1 ho => ⟨_, _, rfl, .inr ⟨β 46, 0, rfl, own_src (rest := []) (ho.own 46 (.base (List.mem_append_right _ (List.mem_singleton.2 rfl))) _ _ rfl) rfl⟩⟩)
       (fun w2 cap' spare' ρ k2 b2 hρ hc1 hc2 hlen hok hlid => wV rfl ?_)
      (repeat first|refine wN ?_|refine wP rfl ?_|refine cx_r rfl ?_|refine cx_d rfl ?_|refine wO rfl rfl ?_)
      refine VS.back (n - (i + 1)) (by omega) ⟨_, _, ?_, ?_, ?_, ?_, ⟨i + 1, 0, [dg], .row 47 0 ([dg]).length cap', by omega, rfl, rfl, .inr ⟨cap', spare', rfl, rfl, by simp; omega, hc2, ?_, hok, hlid⟩, by simp at hdl ⊢; omega, Dig.cons hdg.2 (Dig.nil _), Nat.zero_le _, hst⟩⟩
      ·exact ⟨rfl, rfl, rfl, rfl, rfl, congrArg (fun z => some (AV.val (.int .i64 z))) hwi1, trivial⟩
      ·exact ⟨rfl, trivial⟩
      ·rfl
      ·exact ⟨.append (.none (iv_lids _)) (.none hlid), trivial⟩
      ·simpa [iv_length, Nat.add_assoc] using hlen
   ·have hy0 : y = 0 := by rw [getD_beyond (by omega)] at hyg; omega
    have hwX : IntKind.i64.wrap ((x : Int) - (br : Int)) = X := by rw [hw1, hX, hy0, Nat.mul_zero]; omega
    refine VS.condY rfl (decide_eq_true (Int.ofNat_lt.2 hin)) ?_
    (repeat first|refine wN ?_|refine wP rfl ?_|refine cx_r rfl ?_|refine cx_d rfl ?_|refine wO rfl rfl ?_)
    refine VO.cond rfl ⟨by omega, by omega⟩ (wV rfl ?_)
    refine VO.read rfl [.int .i64 (x : Int)] rfl (read1 rfl hcx) (wV rfl ?_)
    refine VO.fix 10 rfl (congrArg (fun z => AV.val (.int .i64 z)) hwX) ?_
    (repeat first|refine wN ?_|refine wP rfl ?_|refine cx_r rfl ?_|refine cx_d rfl ?_|refine wO rfl rfl ?_)
    refine VS.condN rfl (decide_eq_false (fun e => him (Int.ofNat_lt.1 e))) ?_
    (repeat first|refine wN ?_|refine wP rfl ?_|refine cx_r rfl ?_|refine cx_d rfl ?_|refine wO rfl rfl ?_)
    by_cases h0 : X < 0
    ·rw [if_pos h0] at hbr'
     have hwb : IntKind.i64.wrap ((IntKind.i64.wrap (65535 - X)).tdiv 65536) = (br' : Int) := by
      rw [IntWalk.i64_in (65535 - X) (by omega), Int.tdiv_eq_ediv_of_nonneg (by omega), IntWalk.i64_in _ (by omega), hbr'.1]
     have hwd : IntKind.i64.wrap (X + IntKind.i64.wrap (65536 * (br' : Int))) = (dg : Int) := by
      rw [IntWalk.i64_in (65536 * (br' : Int)) (by omega), IntWalk.i64_in _ (by omega), hdg.1]
     refine VS.condY rfl (decide_eq_true h0) ?_
     (repeat first|refine wN ?_|refine wP rfl ?_|refine cx_r rfl ?_|refine cx_d rfl ?_|refine wO rfl rfl ?_)
     ·refine VO.fixH 46 rfl (congrArg (fun z => [AV.val (.int .i64 z)]) (show _ = (dg : Int) by rw [hwb, hwd])) ?_
      refine VO.app (cx_ok _ _) (t := 135) (e := 3) (sz := 1) (n := 0) (c := 0) (mm := 1) (known := []) (spare := []) (news := iv [dg]) (dst := 47) (del := none) rfl rfl rfl rfl rfl rfl rfl rfl (Nat.le_of_ble_eq_true rfl) rfl (.inl ⟨rfl, rfl, rfl, rfl, rfl, rfl, by omega⟩) (.inl rfl) rfl rfl (by omega) (by omega) ⟨rfl, rfl, iv_lids _⟩ ⟨rfl, rfl, iv_ok _⟩ rfl (by omega)
       (fun w1 β k1 b1 ho => ⟨_, _, rfl, .inr ⟨β 46, 0, rfl, own_src (rest := []) (ho.own 46 (.base (List.mem_append_right _ (List.mem_singleton.2 rfl))) _ _ rfl) rfl⟩⟩)
       (fun w2 cap' spare' ρ k2 b2 hρ hc1 hc2 hlen hok hlid => wV rfl ?_)
      (repeat first|refine wN ?_|refine wP rfl ?_|refine cx_r rfl ?_|refine cx_d rfl ?_|refine wO rfl rfl ?_)
      refine VS.back (n - (i + 1)) (by omega) ⟨_, _, ?_, ?_, ?_, ?_, ⟨i + 1, br', [dg], .row 47 0 ([dg]).length cap', by omega, rfl, rfl, .inr ⟨cap', spare', rfl, rfl, by simp; omega, hc2, ?_, hok, hlid⟩, by simp at hdl ⊢; omega, Dig.cons hdg.2 (Dig.nil _), hbr'.2, hst⟩⟩
      ·exact ⟨rfl, rfl, rfl, rfl, congrArg (fun z => some (AV.val (.int .i64 z))) hwb, congrArg (fun z => some (AV.val (.int .i64 z))) hwi1, trivial⟩
      ·exact ⟨rfl, trivial⟩
      ·rfl
      ·exact ⟨.append (.none (iv_lids _)) (.none hlid), trivial⟩
      ·simpa [iv_length, Nat.add_assoc] using hlen
    ·rw [if_neg h0] at hbr'
     have hb0 : br' = 0 := by omega
     subst hb0
     refine VS.condN rfl (decide_eq_false h0) ?_
     (repeat first|refine wN ?_|refine wP rfl ?_|refine cx_r rfl ?_|refine cx_d rfl ?_|refine wO rfl rfl ?_)
     ·refine VO.fixH 46 rfl (congrArg (fun z => [AV.val (.int .i64 z)]) (show X = (dg : Int) by omega)) ?_
      refine VO.app (cx_ok _ _) (t := 135) (e := 3) (sz := 1) (n := 0) (c := 0) (mm := 1) (known := []) (spare := []) (news := iv [dg]) (dst := 47) (del := none) rfl rfl rfl rfl rfl rfl rfl rfl (Nat.le_of_ble_eq_true rfl) rfl (.inl ⟨rfl, rfl, rfl, rfl, rfl, rfl, by omega⟩) (.inl rfl) rfl rfl (by omega) (by omega) ⟨rfl, rfl, iv_lids _⟩ ⟨rfl, rfl, iv_ok _⟩ rfl (by omega)
       (fun w1 β k1 b1 ho => ⟨_, _, rfl, .inr ⟨β 46, 0, rfl, own_src (rest := []) (ho.own 46 (.base (List.mem_append_right _ (List.mem_singleton.2 rfl))) _ _ rfl) rfl⟩⟩)
       (fun w2 cap' spare' ρ k2 b2 hρ hc1 hc2 hlen hok hlid => wV rfl ?_)
      (repeat first|refine wN ?_|refine wP rfl ?_|refine cx_r rfl ?_|refine cx_d rfl ?_|refine wO rfl rfl ?_)
      refine VS.back (n - (i + 1)) (by omega) ⟨_, _, ?_, ?_, ?_, ?_, ⟨i + 1, 0, [dg], .row 47 0 ([dg]).length cap', by omega, rfl, rfl, .inr ⟨cap', spare', rfl, rfl, by simp; omega, hc2, ?_, hok, hlid⟩, by simp at hdl ⊢; omega, Dig.cons hdg.2 (Dig.nil _), Nat.zero_le _, hst⟩⟩
      ·exact ⟨rfl, rfl, rfl, rfl, rfl, congrArg (fun z => some (AV.val (.int .i64 z))) hwi1, trivial⟩
      ·exact ⟨rfl, trivial⟩
      ·rfl
      ·exact ⟨.append (.none (iv_lids _)) (.none hlid), trivial⟩
      ·simpa [iv_length, Nat.add_assoc] using hlen
  ·by_cases him : i < m
   ·obtain ⟨b2, o2, y', rfl, hb2, hyk, hcy⟩ := hs.cellAt him
    obtain rfl : y' = y := by rw [List.getD_eq_getElem?_getD, hyk] at hyg; exact hyg
    have hwX : IntKind.i64.wrap (IntKind.i64.wrap ((x : Int) - (br : Int)) - IntKind.i64.wrap ((t : Int) * (y' : Int))) = X := by
     rw [hw1, show (t : Int) * (y' : Int) = ((t * y' : Nat) : Int) by simp, IntWalk.i64_in ((t * y' : Nat) : Int) (by omega), IntWalk.i64_in _ (by omega)]; omega
    refine VS.condY rfl (decide_eq_true (Int.ofNat_lt.2 hin)) ?_
    (repeat first|refine wN ?_|refine wP rfl ?_|refine cx_r rfl ?_|refine cx_d rfl ?_|refine wO rfl rfl ?_)
    refine VO.cond rfl ⟨by omega, by omega⟩ (wV rfl ?_)
    refine VO.read rfl [.int .i64 (x : Int)] rfl (read1 rfl hcx) (wV rfl ?_)
    (repeat first|refine wN ?_|refine wP rfl ?_|refine cx_r rfl ?_|refine cx_d rfl ?_|refine wO rfl rfl ?_)
    refine VS.condY rfl (decide_eq_true (Int.ofNat_lt.2 him)) ?_
    (repeat first|refine wN ?_|refine wP rfl ?_|refine cx_r rfl ?_|refine cx_d rfl ?_|refine wO rfl rfl ?_)
    refine VO.cond rfl ⟨by omega, by omega⟩ (wV rfl ?_)
    refine VO.read rfl [.int .i64 (y' : Int)] rfl (read1 rfl hcy) (wV rfl ?_)
    refine VO.fix 10 rfl (congrArg (fun z => AV.val (.int .i64 z)) hwX) ?_
    (repeat first|refine wN ?_|refine wP rfl ?_|refine cx_r rfl ?_|refine cx_d rfl ?_|refine wO rfl rfl ?_)
    by_cases h0 : X < 0
    ·rw [if_pos h0] at hbr'
     have hwb : IntKind.i64.wrap ((IntKind.i64.wrap (65535 - X)).tdiv 65536) = (br' : Int) := by
      rw [IntWalk.i64_in (65535 - X) (by omega), Int.tdiv_eq_ediv_of_nonneg (by omega), IntWalk.i64_in _ (by omega), hbr'.1]
     have hwd : IntKind.i64.wrap (X + IntKind.i64.wrap (65536 * (br' : Int))) = (dg : Int) := by
      rw [IntWalk.i64_in (65536 * (br' : Int)) (by omega), IntWalk.i64_in _ (by omega), hdg.1]
     refine VS.condY rfl (decide_eq_true h0) ?_
     (repeat first|refine wN ?_|refine wP rfl ?_|refine cx_r rfl ?_|refine cx_d rfl ?_|refine wO rfl rfl ?_)
     ·refine VO.fixH 46 rfl (congrArg (fun z => [AV.val (.int .i64 z)]) (show _ = (dg : Int) by rw [hwb, hwd])) ?_
      refine VO.app (cx_ok _ _) (t := 135) (e := 3) (sz := 1) (n := ds.length) (c := cap) (mm := 1) (known := iv ds) (spare := spare) (news := iv [dg]) (dst := 47) (del := some 47) rfl rfl rfl rfl rfl rfl rfl rfl (Nat.le_of_ble_eq_true rfl) rfl (.inr ⟨47, rfl, rfl, rfl⟩) (.inr rfl) (by rw [iv_length]; omega) (by rw [List.length_append, iv_length]; omega) h1 h2 ⟨iv_lids _, h5, iv_lids _⟩ ⟨iv_ok _, h4, iv_ok _⟩ rfl (by omega)
       (fun w1 β k1 b1 ho => ⟨_, _, rfl, .inr ⟨β 46, 0, rfl, own_src (rest := []) (ho.own 46 (.base (List.mem_append_right _ (List.mem_singleton.2 rfl))) _ _ rfl) rfl⟩⟩)
       (fun w2 cap' spare' ρ k2 b2 hρ hc1 hc2 hlen hok hlid => wV rfl ?_)
      (repeat first|refine wN ?_|refine wP rfl ?_|refine cx_r rfl ?_|refine cx_d rfl ?_|refine wO rfl rfl ?_)
      refine VS.back (n - (i + 1)) (by omega) ⟨_, _, ?_, ?_, ?_, ?_, ⟨i + 1, br', ds ++ [dg], .row 47 0 (ds ++ [dg]).length cap', by omega, rfl, rfl, .inr ⟨cap', spare', rfl, rfl, by simp; omega, hc2, ?_, hok, hlid⟩, by simp [hdl], Dig.append hdh (Dig.cons hdg.2 (Dig.nil _)), hbr'.2, hst⟩⟩
      ·exact ⟨rfl, rfl, rfl, congrArg (fun z => some (AV.row 47 0 z cap')) (by simp), congrArg (fun z => some (AV.val (.int .i64 z))) hwb, congrArg (fun z => some (AV.val (.int .i64 z))) hwi1, trivial⟩
      ·exact ⟨congrArg (fun l => some (_, l ++ spare')) (iv_append _ _).symm, trivial⟩
      ·rfl
      ·exact ⟨.append (.none (iv_lids _)) (.none hlid), trivial⟩
      ·simpa [iv_length, Nat.add_assoc] using hlen
    ·rw [if_neg h0] at hbr'
     have hb0 : br' = 0 := by omega
     subst hb0
     refine VS.condN rfl (decide_eq_false h0) ?_
     (repeat first|refine wN ?_|refine wP rfl ?_|refine cx_r rfl ?_|refine cx_d rfl ?_|refine wO rfl rfl ?_)
     ·refine VO.fixH 46 rfl (congrArg (fun z => [AV.val (.int .i64 z)]) (show X = (dg : Int) by omega)) ?_
      refine VO.app (cx_ok _ _) (t := 135) (e := 3) (sz := 1) (n := ds.length) (c := cap) (mm := 1) (known := iv ds) (spare := spare) (news := iv [dg]) (dst := 47) (del := some 47) rfl rfl rfl rfl rfl rfl rfl rfl (Nat.le_of_ble_eq_true rfl) rfl (.inr ⟨47, rfl, rfl, rfl⟩) (.inr rfl) (by rw [iv_length]; omega) (by rw [List.length_append, iv_length]; omega) h1 h2 ⟨iv_lids _, h5, iv_lids _⟩ ⟨iv_ok _, h4, iv_ok _⟩ rfl (by omega)
       (fun w1 β k1 b1 ho => ⟨_, _, rfl, .inr ⟨β 46, 0, rfl, own_src (rest := []) (ho.own 46 (.base (List.mem_append_right _ (List.mem_singleton.2 rfl))) _ _ rfl) rfl⟩⟩)
       (fun w2 cap' spare' ρ k2 b2 hρ hc1 hc2 hlen hok hlid => wV rfl ?_)
      (repeat first|refine wN ?_|refine wP rfl ?_|refine cx_r rfl ?_|refine cx_d rfl ?_|refine wO rfl rfl ?_)
      refine VS.back (n - (i + 1)) (by omega) ⟨_, _, ?_, ?_, ?_, ?_, ⟨i + 1, 0, ds ++ [dg], .row 47 0 (ds ++ [dg]).length cap', by omega, rfl, rfl, .inr ⟨cap', spare', rfl, rfl, by simp; omega, hc2, ?_, hok, hlid⟩, by simp [hdl], Dig.append hdh (Dig.cons hdg.2 (Dig.nil _)), Nat.zero_le _, hst⟩⟩
      ·exact ⟨rfl, rfl, rfl, congrArg (fun z => some (AV.row 47 0 z cap')) (by simp), rfl, congrArg (fun z => some (AV.val (.int .i64 z))) hwi1, trivial⟩
      ·exact ⟨congrArg (fun l => some (_, l ++ spare')) (iv_append _ _).symm, trivial⟩
      ·rfl
      ·exact ⟨.append (.none (iv_lids _)) (.none hlid), trivial⟩
      ·simpa [iv_length, Nat.add_assoc] using hlen
   ·have hy0 : y = 0 := by rw [getD_beyond (by omega)] at hyg; omega
    have hwX : IntKind.i64.wrap ((x : Int) - (br : Int)) = X := by rw [hw1, hX, hy0, Nat.mul_zero]; omega
    refine VS.condY rfl (decide_eq_true (Int.ofNat_lt.2 hin)) ?_
    (repeat first|refine wN ?_|refine wP rfl ?_|refine cx_r rfl ?_|refine cx_d rfl ?_|refine wO rfl rfl ?_)
    refine VO.cond rfl ⟨by omega, by omega⟩ (wV rfl ?_)
    refine VO.read rfl [.int .i64 (x : Int)] rfl (read1 rfl hcx) (wV rfl ?_)
    refine VO.fix 10 rfl (congrArg (fun z => AV.val (.int .i64 z)) hwX) ?_
    (repeat first|refine wN ?_|refine wP rfl ?_|refine cx_r rfl ?_|refine cx_d rfl ?_|refine wO rfl rfl ?_)
    refine VS.condN rfl (decide_eq_false (fun e => him (Int.ofNat_lt.1 e))) ?_
    (repeat first|refine wN ?_|refine wP rfl ?_|refine cx_r rfl ?_|refine cx_d rfl ?_|refine wO rfl rfl ?_)
    by_cases h0 : X < 0
    ·rw [if_pos h0] at hbr'
     have hwb : IntKind.i64.wrap ((IntKind.i64.wrap (65535 - X)).tdiv 65536) = (br' : Int) := by
      rw [IntWalk.i64_in (65535 - X) (by omega), Int.tdiv_eq_ediv_of_nonneg (by omega), IntWalk.i64_in _ (by omega), hbr'.1]
     have hwd : IntKind.i64.wrap (X + IntKind.i64.wrap (65536 * (br' : Int))) = (dg : Int) := by
      rw [IntWalk.i64_in (65536 * (br' : Int)) (by omega), IntWalk.i64_in _ (by omega), hdg.1]
     refine VS.condY rfl (decide_eq_true h0) ?_
     (repeat first|refine wN ?_|refine wP rfl ?_|refine cx_r rfl ?_|refine cx_d rfl ?_|refine wO rfl rfl ?_)
     ·refine VO.fixH 46 rfl (congrArg (fun z => [AV.val (.int .i64 z)]) (show _ = (dg : Int) by rw [hwb, hwd])) ?_
      refine VO.app (cx_ok _ _) (t := 135) (e := 3) (sz := 1) (n := ds.length) (c := cap) (mm := 1) (known := iv ds) (spare := spare) (news := iv [dg]) (dst := 47) (del := some 47) rfl rfl rfl rfl rfl rfl rfl rfl (Nat.le_of_ble_eq_true rfl) rfl (.inr ⟨47, rfl, rfl, rfl⟩) (.inr rfl) (by rw [iv_length]; omega) (by rw [List.length_append, iv_length]; omega) h1 h2 ⟨iv_lids _, h5, iv_lids _⟩ ⟨iv_ok _, h4, iv_ok _⟩ rfl (by omega)
       (fun w1 β k1 b1 ho => ⟨_, _, rfl, .inr ⟨β 46, 0, rfl, own_src (rest := []) (ho.own 46 (.base (List.mem_append_right _ (List.mem_singleton.2 rfl))) _ _ rfl) rfl⟩⟩)
       (fun w2 cap' spare' ρ k2 b2 hρ hc1 hc2 hlen hok hlid => wV rfl ?_)
      (repeat first|refine wN ?_|refine wP rfl ?_|refine cx_r rfl ?_|refine cx_d rfl ?_|refine wO rfl rfl ?_)
      refine VS.back (n - (i + 1)) (by omega) ⟨_, _, ?_, ?_, ?_, ?_, ⟨i + 1, br', ds ++ [dg], .row 47 0 (ds ++ [dg]).length cap', by omega, rfl, rfl, .inr ⟨cap', spare', rfl, rfl, by simp; omega, hc2, ?_, hok, hlid⟩, by simp [hdl], Dig.append hdh (Dig.cons hdg.2 (Dig.nil _)), hbr'.2, hst⟩⟩
      ·exact ⟨rfl, rfl, rfl, congrArg (fun z => some (AV.row 47 0 z cap')) (by simp), congrArg (fun z => some (AV.val (.int .i64 z))) hwb, congrArg (fun z => some (AV.val (.int .i64 z))) hwi1, trivial⟩
      ·exact ⟨congrArg (fun l => some (_, l ++ spare')) (iv_append _ _).symm, trivial⟩
      ·rfl
      ·exact ⟨.append (.none (iv_lids _)) (.none hlid), trivial⟩
      ·simpa [iv_length, Nat.add_assoc] using hlen
    ·rw [if_neg h0] at hbr'
     have hb0 : br' = 0 := by omega
     subst hb0
     refine VS.condN rfl (decide_eq_false h0) ?_
     (repeat first|refine wN ?_|refine wP rfl ?_|refine cx_r rfl ?_|refine cx_d rfl ?_|refine wO rfl rfl ?_)
     ·refine VO.fixH 46 rfl (congrArg (fun z => [AV.val (.int .i64 z)]) (show X = (dg : Int) by omega)) ?_
      refine VO.app (cx_ok _ _) (t := 135) (e := 3) (sz := 1) (n := ds.length) (c := cap) (mm := 1) (known := iv ds) (spare := spare) (news := iv [dg]) (dst := 47) (del := some 47) rfl rfl rfl rfl rfl rfl rfl rfl (Nat.le_of_ble_eq_true rfl) rfl (.inr ⟨47, rfl, rfl, rfl⟩) (.inr rfl) (by rw [iv_length]; omega) (by rw [List.length_append, iv_length]; omega) h1 h2 ⟨iv_lids _, h5, iv_lids _⟩ ⟨iv_ok _, h4, iv_ok _⟩ rfl (by omega)
       (fun w1 β k1 b1 ho => ⟨_, _, rfl, .inr ⟨β 46, 0, rfl, own_src (rest := []) (ho.own 46 (.base (List.mem_append_right _ (List.mem_singleton.2 rfl))) _ _ rfl) rfl⟩⟩)
       (fun w2 cap' spare' ρ k2 b2 hρ hc1 hc2 hlen hok hlid => wV rfl ?_)
      (repeat first|refine wN ?_|refine wP rfl ?_|refine cx_r rfl ?_|refine cx_d rfl ?_|refine wO rfl rfl ?_)
      refine VS.back (n - (i + 1)) (by omega) ⟨_, _, ?_, ?_, ?_, ?_, ⟨i + 1, 0, ds ++ [dg], .row 47 0 (ds ++ [dg]).length cap', by omega, rfl, rfl, .inr ⟨cap', spare', rfl, rfl, by simp; omega, hc2, ?_, hok, hlid⟩, by simp [hdl], Dig.append hdh (Dig.cons hdg.2 (Dig.nil _)), Nat.zero_le _, hst⟩⟩
      ·exact ⟨rfl, rfl, rfl, congrArg (fun z => some (AV.row 47 0 z cap')) (by simp), rfl, congrArg (fun z => some (AV.val (.int .i64 z))) hwi1, trivial⟩
      ·exact ⟨congrArg (fun l => some (_, l ++ spare')) (iv_append _ _).symm, trivial⟩
      ·rfl
      ·exact ⟨.append (.none (iv_lids _)) (.none hlid), trivial⟩
      ·simpa [iv_length, Nat.add_assoc] using hlen
 ·obtain rfl : i = n := by omega
  have hend := take_end hdh hdl hxl (show t * hval (halves B) ≤ hval (halves A) by rw [hval_halves, hval_halves]; exact hle) (by
   rcases Nat.eq_zero_or_pos t with e | e
   ·exact .inl e
   ·right
    rw [← hxl]
    exact digs_len_mono (by omega) (Nat.le_trans (Nat.le_mul_of_pos_left B e) hle)) hv
  rw [hval_halves, hval_halves] at hend
  rcases hrow with ⟨rfl, rfl, rfl⟩ | ⟨cap, spare, rfl, rfl, h1, h2, h3, h4, h5⟩
  all_goals
   (repeat first|refine wN ?_|refine wP rfl ?_|refine cx_r rfl ?_|refine cx_d rfl ?_|refine wO rfl rfl ?_)
   refine VS.condN rfl (decide_eq_false (fun e => hin (Int.ofNat_lt.1 e))) ?_
   (repeat first|refine wN ?_|refine wP rfl ?_|refine cx_r rfl ?_|refine cx_d rfl ?_|refine wO rfl rfl ?_)
  ·refine VO.call rfl rfl (fk Tryz.func131) (fun wa1 ka1 ba1 => (cut03_any none 0 0 [] wa1 (Rd.own (World.ownsRow_nil _ 0 0 _)) (Dig.nil _)).mono ?_)
   rintro e w1 ⟨⟨mm, hmm, rfl, hcut⟩, rfl⟩
   obtain rfl : mm = 0 := by omega
   refine ⟨_, rfl, Beh.refl _, fun kb1 _ bb1 => wV rfl ?_⟩
   (repeat first|refine wN ?_|refine wP rfl ?_|refine cx_r rfl ?_|refine cx_d rfl ?_|refine wO rfl rfl ?_)
   refine VS.ret (cx_ok _ _) rfl rfl (fun wz kz bz => ?_)
   have e0 : A - t * B = 0 := by rw [← hend]; rfl
   exact ⟨_, rfl, by rw [e0, halves_zero]; exact IntRow.nil _ _, bz⟩
  ·refine VO.callV rfl (fk Tryz.func131) (fun w1 β k1 b1 ho => (cut03_any (some ⟨β 47, 0, none⟩) ds.length cap ds w1 (ownV_rd (ho.own 47 (.base (List.mem_singleton.2 rfl)) _ _ rfl) rfl h1 (by simpa [maxLen] using h2)) hdh).mono ?_)
   rintro e w2 ⟨⟨mm, hmm, rfl, hcut⟩, rfl⟩
   refine ⟨.row 47 0 mm cap, rfl, fun i hi => ⟨hi, by cases List.mem_singleton.1 hi; exact Option.some_ne_none _⟩, Beh.refl _, fun k2 _ b2 => wV rfl ?_⟩
   (repeat first|refine wN ?_|refine wP rfl ?_|refine cx_r rfl ?_|refine cx_d rfl ?_|refine wO rfl rfl ?_)
   refine VS.retA (cx_ok _ _) rfl (fun wz β kz bz he => ?_)
   have hml := cut_row hcut hmm rfl
   rw [hend] at hcut hml
   refine ⟨_, rfl, ?_, bz⟩
   have := ownV_row (he.own 47 _ _ rfl) rfl hmm h1 (by simpa [maxLen] using h2) h3
   rw [← hcut] at this
   show IntRow wz w.heap.size (.slice (some ⟨β 47, 0, none⟩) mm cap) _ _
   rw [← hml]
   exact this
end Go.Proofs.YtofdiijioejljaaGreat
