/- BracketsMore: what this statement's function answers. (Printed by gen28m.py.) -/
import Derived.Test.YtofdiijioejljaaGreatLaw28Q
set_option linter.all false
set_option maxRecDepth 4000
namespace Go.Proofs.YtofdiijioejljaaGreat
open Go.RowKit
attribute [local irreducible] vcOps VS

theorem ins_at {α : Type} {l : List α} {k : Nat} (hk : k ≤ l.length) (e : α) (i : Nat) : (l.take k ++ e :: l.drop k)[i]? = if i < k then l[i]? else if i = k then some e else l[i - 1]? := by
 have hl : (l.take k).length = k := by rw [List.length_take]; omega
 by_cases h : i < k
 ·rw [if_pos h, List.getElem?_append_left (by omega), List.getElem?_take, if_pos h]
 ·rw [if_neg h, List.getElem?_append_right (by omega), hl]
  by_cases h' : i = k
  ·rw [if_pos h', h', Nat.sub_self]; rfl
  ·rw [if_neg h']
   obtain ⟨j, rfl⟩ : ∃ j, i = k + 1 + j := ⟨i - k - 1, by omega⟩
   rw [show k + 1 + j - k = j + 1 by omega, List.getElem?_cons_succ, List.getElem?_drop, show k + 1 + j - 1 = k + j by omega]
theorem ok_inv {l : List RBr} (h : bright l = true) {i : Nat} {y : RBr} (hy : l[i]? = some y) : (y.1.ok = true ∧ y.2.ok = true) ∧ (decide (0 ≤ y.2.q) = true ∧ decide (y.2.q ≤ 1) = true) ∧ bord (bprev l i) y.1.q = true := by
 have := (bright_iff.1 h).2 i (List.getElem?_eq_some_iff.1 hy).1 y hy
 unfold bok at this
 simp only [Bool.and_eq_true] at this
 exact ⟨this.1, this.2.1, this.2.2⟩
theorem more_right {l : List RBr} (h : bright l = true) {k : Nat} (hk1 : 1 ≤ k) (hk : k ≤ l.length) {x : RBr} (hx : l[k - 1]? = some x) {f r : RR} (hf : f.ok = true) (hr : r.ok = true) (hq : r.q = x.2.q) (h1 : x.1.q < f.q) (h2 : ∀ y, l[k]? = some y → f.q < y.1.q) :
  bright (l.take k ++ (f, r) :: l.drop k) = true := by
 obtain ⟨⟨x1, x1'⟩, ⟨x2, x2'⟩, x3⟩ := ok_inv h hx
 refine bright_iff.2 ⟨by rw [List.length_append, List.length_cons]; omega, fun i _ y hy => ?_⟩
 have hprev : ∀ j, bprev (l.take k ++ (f, r) :: l.drop k) (j + 1) = if j < k then l[j]? else if j = k then some (f, r) else l[j - 1]? := fun j => ins_at hk (f, r) j
 rw [ins_at hk] at hy
 by_cases hik : i < k
 ·rw [if_pos hik] at hy
  obtain ⟨⟨y1, y1'⟩, ⟨y2, y2'⟩, y3⟩ := ok_inv h hy
  unfold bok
  rw [y1, y1', y2, y2']
  cases i with
  | zero => exact y3
  | succ j =>
   rw [hprev, if_pos (by omega)]
   exact y3
 ·rw [if_neg hik] at hy
  by_cases he : i = k
  ·rw [if_pos he] at hy
   cases hy
   unfold bok
   rw [hf, hr, hq, x2, x2']
   obtain ⟨j, rfl⟩ : ∃ j, i = j + 1 := ⟨i - 1, by omega⟩
   rw [hprev, if_pos (by omega), show l[j]? = some x by rw [← hx]; congr 1; omega]
   exact decide_eq_true h1
  ·rw [if_neg he] at hy
   obtain ⟨⟨y1, y1'⟩, ⟨y2, y2'⟩, y3⟩ := ok_inv h hy
   unfold bok
   rw [y1, y1', y2, y2']
   obtain ⟨j, rfl⟩ : ∃ j, i = j + 1 := ⟨i - 1, by omega⟩
   rw [hprev, if_neg (by omega)]
   by_cases hj : j = k
   ·rw [if_pos hj]
    exact decide_eq_true (h2 y (by rw [← hj]; exact hy))
   ·rw [if_neg hj]
    obtain ⟨m, rfl⟩ : ∃ m, j = m + 1 := ⟨j - 1, by omega⟩
    exact y3
theorem brs_ins (l : List RBr) (k : Nat) (e : RBr) : brs (l.take k ++ e :: l.drop k) = (brs l).take k ++ e.br :: (brs l).drop k := by
 unfold brs
 rw [List.map_append, List.map_cons, List.map_take, List.map_drop]
theorem split_at {l : List RBr} {k : Nat} (hk1 : 1 ≤ k) {x : RBr} (hx : l[k - 1]? = some x) : (brs l).take k = (brs l).take (k - 1) ++ [x.br] := by
 obtain ⟨j, rfl⟩ : ∃ j, k = j + 1 := ⟨k - 1, by omega⟩
 exact take_snoc_at (brs_at hx)
theorem more_tax {l : List RBr} (h : bright l = true) {k : Nat} (hk1 : 1 ≤ k) (hk : k ≤ l.length) {x : RBr} (hx : l[k - 1]? = some x) {f r : RR} (hf : f.ok = true) (hr : r.ok = true) (hq : r.q = x.2.q) (h1 : x.1.q < f.q) (h2 : ∀ y, l[k]? = some y → f.q < y.1.q) (a : Rat) :
  taxq (l.take k ++ (f, r) :: l.drop k) a = taxq l a := by
 unfold taxq
 rw [if_pos (more_right h hk1 hk hx hf hr hq h1 h2), if_pos h, brs_ins]
 have e : brs l = (brs l).take (k - 1) ++ x.br :: (brs l).drop k := by
  have := List.take_append_drop k (brs l)
  rw [split_at hk1 hx, List.append_assoc] at this
  exact this.symm
 have h3 := btax_split (a := a) (pre := (brs l).take (k - 1)) (post := (brs l).drop k) (x := x.br) (g := f.q) h1 (fun y hy => by
  rw [List.head?_drop] at hy
  unfold brs at hy
  rw [List.getElem?_map] at hy
  cases hz : l[k]? with
  | none => rw [hz] at hy; cases hy
  | some z => rw [hz] at hy; cases hy; exact h2 z hz)
 rw [← e] at h3
 rw [split_at hk1 hx, List.append_assoc]
 show btax a ((brs l).take (k - 1) ++ x.br :: (f.q, r.q) :: (brs l).drop k) = _
 rw [hq]
 exact h3
theorem rlt_trans {a b c : Rat} (h : a < b) (h' : b < c) : a < c := by grind
theorem more_rate {l : List RBr} (h : bright l = true) {k : Nat} (hk1 : 1 ≤ k) (hk : k ≤ l.length) {x : RBr} (hx : l[k - 1]? = some x) {g : Rat} (h1 : x.1.q < g) (h2 : ∀ y, l[k]? = some y → g < y.1.q) : rateq l g = x.2.q := by
 have hb := binc_right h
 unfold rateq
 rw [if_pos h]
 obtain ⟨j, rfl⟩ : ∃ j, k = j + 1 := ⟨k - 1, by omega⟩
 have e : brs l = (brs l).take (j + 1) ++ (brs l).drop (j + 1) := (List.take_append_drop _ _).symm
 have h3 : brate g (rate0 l) (brs l) = brate g (brate g (rate0 l) ((brs l).take (j + 1))) ((brs l).drop (j + 1)) := by
  conv => lhs; rw [e]
  unfold brate
  rw [List.foldl_append]
 rw [h3, brate_snoc (brs_at (show l[j]? = some x from hx)), if_pos (show x.br.1 ≤ g from Rat.le_of_lt h1)]
 refine brate_none fun y hy => ?_
 have hd := binc_drop (j + 1) hb
 cases hz : l[j + 1]? with
 | none =>
  rw [List.drop_of_length_le (by unfold brs; rw [List.length_map]; exact List.getElem?_eq_none_iff.1 hz)] at hy
  cases hy
 | some z =>
  have hzb := brs_at hz
  obtain ⟨hl, ez⟩ := List.getElem?_eq_some_iff.1 hzb
  rw [List.drop_eq_getElem_cons hl, ez] at hd hy
  have h4 := h2 z hz
  rcases List.mem_cons.1 hy with rfl | hy
  ·exact Rat.not_le.2 h4
  ·exact Rat.not_le.2 (rlt_trans h4 (binc_all hd y hy))
theorem src_old {w w1 : World} {β : Nat → Nat} {vs : List (List Value)} {b off : Nat} (hx : ∀ (j : Nat) (u : Value), vs.flatten[j]? = some u → w.cell? ⟨b, off + j, none⟩ = some u) (hb : Beh w w1) : ∀ (j : Nat) (u : Value), ((vs.flatten.map AV.val).map (AV.leaf β))[j]? = some u → w1.cell? ⟨b, off + j, none⟩ = some u := fun j u hj => by
 rw [leaf_vals] at hj
 exact hb.cell (hx j u hj)
theorem sl_take {b off n k c : Nat} (hc : c ≠ 0) : Value.slice (if c = ((none : Option Int).getD 0).toNat then some (⟨b, off, none⟩ : Addr) else (some (⟨b, off, none⟩ : Addr)).map (·.add (((none : Option Int).getD 0).toNat * 8))) (((some (k : Int)).getD (n : Int)).toNat - ((none : Option Int).getD 0).toNat) (c - ((none : Option Int).getD 0).toNat) = .slice (some ⟨b, off, none⟩) k c := by
 simp [Addr.add_mid, hc]
theorem sl_drop {b off n k c : Nat} {P : Option Addr} (hP : P = (if c = k then some (⟨b, off, none⟩ : Addr) else (some (⟨b, off, none⟩ : Addr)).map (·.add (k * 8)))) : Value.slice (if c = ((some (k : Int)).getD 0).toNat then some (⟨b, off, none⟩ : Addr) else (some (⟨b, off, none⟩ : Addr)).map (·.add (((some (k : Int)).getD 0).toNat * 8))) (((none : Option Int).getD (n : Int)).toNat - ((some (k : Int)).getD 0).toNat) (c - ((some (k : Int)).getD 0).toNat) = .slice P (n - k) (c - k) := by
 rw [hP]; simp
theorem pick_lo (i n : Int) (hn : 0 < n) (h2 : n ≤ 100) : ∀ k, k = (IntKind.i64.wrap (i.tmod n + n)).tmod n → 0 ≤ k ∧ k < n := by
 intro k hk
 have b1 := Int.tmod_lt_of_pos i hn
 have b2 : -n < i.tmod n := by
  have := Int.tmod_lt_of_pos (-i) hn
  rw [Int.neg_tmod] at this
  omega
 rw [IntWalk.i64_in (i.tmod n + n) (by omega)] at hk
 have b3 := Int.tmod_lt_of_pos (i.tmod n + n) hn
 have b4 : 0 ≤ (i.tmod n + n).tmod n := Int.tmod_nonneg _ (by omega)
 omega
theorem pick28_any (i : Int) (n : Nat) (w : World) (hn0 : 1 ≤ n) (hn : n ≤ 19) : Calls Tryz.prog 26 #[.int .i64 i, .int .i64 (n : Int)] w fun o w' => (∃ k : Nat, o = .returned (.int .i64 (k : Int)) ∧ k < n) ∧ Beh w w' := by
 rcases (by omega : n = 1 ∨ n = 2 ∨ n = 3 ∨ n = 4 ∨ n = 5 ∨ n = 6 ∨ n = 7 ∨ n = 8 ∨ n = 9 ∨ n = 10 ∨ n = 11 ∨ n = 12 ∨ n = 13 ∨ n = 14 ∨ n = 15 ∨ n = 16 ∨ n = 17 ∨ n = 18 ∨ n = 19) with rfl | rfl | rfl | rfl | rfl | rfl | rfl | rfl | rfl | rfl | rfl | rfl | rfl | rfl | rfl | rfl | rfl | rfl | rfl
 ·refine calm_enter (C := cxOf Tryz.prog w _) (args := [_, _]) Tryz.func26 rfl Tryz.ntmps26 (Nat.le_of_ble_eq_true rfl) ?_
  (repeat first|refine wN ?_|refine wP rfl ?_|refine cx_r rfl ?_|refine cx_d rfl ?_|refine wO rfl rfl ?_)
  refine VS.ret (cx_ok _ _) rfl rfl (fun wz kz bz => ?_)
  obtain ⟨h1, h2⟩ := pick_lo i 1 (by decide) (by decide) _ rfl
  exact ⟨⟨_, congrArg (fun z => Ending.returned (.int .i64 z)) (Int.toNat_of_nonneg h1).symm, by omega⟩, bz⟩
 ·refine calm_enter (C := cxOf Tryz.prog w _) (args := [_, _]) Tryz.func26 rfl Tryz.ntmps26 (Nat.le_of_ble_eq_true rfl) ?_
  (repeat first|refine wN ?_|refine wP rfl ?_|refine cx_r rfl ?_|refine cx_d rfl ?_|refine wO rfl rfl ?_)
  refine VS.ret (cx_ok _ _) rfl rfl (fun wz kz bz => ?_)
  obtain ⟨h1, h2⟩ := pick_lo i 2 (by decide) (by decide) _ rfl
  exact ⟨⟨_, congrArg (fun z => Ending.returned (.int .i64 z)) (Int.toNat_of_nonneg h1).symm, by omega⟩, bz⟩
 ·refine calm_enter (C := cxOf Tryz.prog w _) (args := [_, _]) Tryz.func26 rfl Tryz.ntmps26 (Nat.le_of_ble_eq_true rfl) ?_
  (repeat first|refine wN ?_|refine wP rfl ?_|refine cx_r rfl ?_|refine cx_d rfl ?_|refine wO rfl rfl ?_)
  refine VS.ret (cx_ok _ _) rfl rfl (fun wz kz bz => ?_)
  obtain ⟨h1, h2⟩ := pick_lo i 3 (by decide) (by decide) _ rfl
  exact ⟨⟨_, congrArg (fun z => Ending.returned (.int .i64 z)) (Int.toNat_of_nonneg h1).symm, by omega⟩, bz⟩
 ·refine calm_enter (C := cxOf Tryz.prog w _) (args := [_, _]) Tryz.func26 rfl Tryz.ntmps26 (Nat.le_of_ble_eq_true rfl) ?_
  (repeat first|refine wN ?_|refine wP rfl ?_|refine cx_r rfl ?_|refine cx_d rfl ?_|refine wO rfl rfl ?_)
  refine VS.ret (cx_ok _ _) rfl rfl (fun wz kz bz => ?_)
  obtain ⟨h1, h2⟩ := pick_lo i 4 (by decide) (by decide) _ rfl
  exact ⟨⟨_, congrArg (fun z => Ending.returned (.int .i64 z)) (Int.toNat_of_nonneg h1).symm, by omega⟩, bz⟩
 ·refine calm_enter (C := cxOf Tryz.prog w _) (args := [_, _]) Tryz.func26 rfl Tryz.ntmps26 (Nat.le_of_ble_eq_true rfl) ?_
  (repeat first|refine wN ?_|refine wP rfl ?_|refine cx_r rfl ?_|refine cx_d rfl ?_|refine wO rfl rfl ?_)
  refine VS.ret (cx_ok _ _) rfl rfl (fun wz kz bz => ?_)
  obtain ⟨h1, h2⟩ := pick_lo i 5 (by decide) (by decide) _ rfl
  exact ⟨⟨_, congrArg (fun z => Ending.returned (.int .i64 z)) (Int.toNat_of_nonneg h1).symm, by omega⟩, bz⟩
 ·refine calm_enter (C := cxOf Tryz.prog w _) (args := [_, _]) Tryz.func26 rfl Tryz.ntmps26 (Nat.le_of_ble_eq_true rfl) ?_
  (repeat first|refine wN ?_|refine wP rfl ?_|refine cx_r rfl ?_|refine cx_d rfl ?_|refine wO rfl rfl ?_)
  refine VS.ret (cx_ok _ _) rfl rfl (fun wz kz bz => ?_)
  obtain ⟨h1, h2⟩ := pick_lo i 6 (by decide) (by decide) _ rfl
  exact ⟨⟨_, congrArg (fun z => Ending.returned (.int .i64 z)) (Int.toNat_of_nonneg h1).symm, by omega⟩, bz⟩
 ·refine calm_enter (C := cxOf Tryz.prog w _) (args := [_, _]) Tryz.func26 rfl Tryz.ntmps26 (Nat.le_of_ble_eq_true rfl) ?_
  (repeat first|refine wN ?_|refine wP rfl ?_|refine cx_r rfl ?_|refine cx_d rfl ?_|refine wO rfl rfl ?_)
  refine VS.ret (cx_ok _ _) rfl rfl (fun wz kz bz => ?_)
  obtain ⟨h1, h2⟩ := pick_lo i 7 (by decide) (by decide) _ rfl
  exact ⟨⟨_, congrArg (fun z => Ending.returned (.int .i64 z)) (Int.toNat_of_nonneg h1).symm, by omega⟩, bz⟩
 ·refine calm_enter (C := cxOf Tryz.prog w _) (args := [_, _]) Tryz.func26 rfl Tryz.ntmps26 (Nat.le_of_ble_eq_true rfl) ?_
  (repeat first|refine wN ?_|refine wP rfl ?_|refine cx_r rfl ?_|refine cx_d rfl ?_|refine wO rfl rfl ?_)
  refine VS.ret (cx_ok _ _) rfl rfl (fun wz kz bz => ?_)
  obtain ⟨h1, h2⟩ := pick_lo i 8 (by decide) (by decide) _ rfl
  exact ⟨⟨_, congrArg (fun z => Ending.returned (.int .i64 z)) (Int.toNat_of_nonneg h1).symm, by omega⟩, bz⟩
 ·refine calm_enter (C := cxOf Tryz.prog w _) (args := [_, _]) Tryz.func26 rfl Tryz.ntmps26 (Nat.le_of_ble_eq_true rfl) ?_
  (repeat first|refine wN ?_|refine wP rfl ?_|refine cx_r rfl ?_|refine cx_d rfl ?_|refine wO rfl rfl ?_)
  refine VS.ret (cx_ok _ _) rfl rfl (fun wz kz bz => ?_)
  obtain ⟨h1, h2⟩ := pick_lo i 9 (by decide) (by decide) _ rfl
  exact ⟨⟨_, congrArg (fun z => Ending.returned (.int .i64 z)) (Int.toNat_of_nonneg h1).symm, by omega⟩, bz⟩
 ·refine calm_enter (C := cxOf Tryz.prog w _) (args := [_, _]) Tryz.func26 rfl Tryz.ntmps26 (Nat.le_of_ble_eq_true rfl) ?_
  (repeat first|refine wN ?_|refine wP rfl ?_|refine cx_r rfl ?_|refine cx_d rfl ?_|refine wO rfl rfl ?_)
  refine VS.ret (cx_ok _ _) rfl rfl (fun wz kz bz => ?_)
  obtain ⟨h1, h2⟩ := pick_lo i 10 (by decide) (by decide) _ rfl
  exact ⟨⟨_, congrArg (fun z => Ending.returned (.int .i64 z)) (Int.toNat_of_nonneg h1).symm, by omega⟩, bz⟩
 ·refine calm_enter (C := cxOf Tryz.prog w _) (args := [_, _]) Tryz.func26 rfl Tryz.ntmps26 (Nat.le_of_ble_eq_true rfl) ?_
  (repeat first|refine wN ?_|refine wP rfl ?_|refine cx_r rfl ?_|refine cx_d rfl ?_|refine wO rfl rfl ?_)
  refine VS.ret (cx_ok _ _) rfl rfl (fun wz kz bz => ?_)
  obtain ⟨h1, h2⟩ := pick_lo i 11 (by decide) (by decide) _ rfl
  exact ⟨⟨_, congrArg (fun z => Ending.returned (.int .i64 z)) (Int.toNat_of_nonneg h1).symm, by omega⟩, bz⟩
 ·refine calm_enter (C := cxOf Tryz.prog w _) (args := [_, _]) Tryz.func26 rfl Tryz.ntmps26 (Nat.le_of_ble_eq_true rfl) ?_
  (repeat first|refine wN ?_|refine wP rfl ?_|refine cx_r rfl ?_|refine cx_d rfl ?_|refine wO rfl rfl ?_)
  refine VS.ret (cx_ok _ _) rfl rfl (fun wz kz bz => ?_)
  obtain ⟨h1, h2⟩ := pick_lo i 12 (by decide) (by decide) _ rfl
  exact ⟨⟨_, congrArg (fun z => Ending.returned (.int .i64 z)) (Int.toNat_of_nonneg h1).symm, by omega⟩, bz⟩
 ·refine calm_enter (C := cxOf Tryz.prog w _) (args := [_, _]) Tryz.func26 rfl Tryz.ntmps26 (Nat.le_of_ble_eq_true rfl) ?_
  (repeat first|refine wN ?_|refine wP rfl ?_|refine cx_r rfl ?_|refine cx_d rfl ?_|refine wO rfl rfl ?_)
  refine VS.ret (cx_ok _ _) rfl rfl (fun wz kz bz => ?_)
  obtain ⟨h1, h2⟩ := pick_lo i 13 (by decide) (by decide) _ rfl
  exact ⟨⟨_, congrArg (fun z => Ending.returned (.int .i64 z)) (Int.toNat_of_nonneg h1).symm, by omega⟩, bz⟩
 ·refine calm_enter (C := cxOf Tryz.prog w _) (args := [_, _]) Tryz.func26 rfl Tryz.ntmps26 (Nat.le_of_ble_eq_true rfl) ?_
  (repeat first|refine wN ?_|refine wP rfl ?_|refine cx_r rfl ?_|refine cx_d rfl ?_|refine wO rfl rfl ?_)
  refine VS.ret (cx_ok _ _) rfl rfl (fun wz kz bz => ?_)
  obtain ⟨h1, h2⟩ := pick_lo i 14 (by decide) (by decide) _ rfl
  exact ⟨⟨_, congrArg (fun z => Ending.returned (.int .i64 z)) (Int.toNat_of_nonneg h1).symm, by omega⟩, bz⟩
 ·refine calm_enter (C := cxOf Tryz.prog w _) (args := [_, _]) Tryz.func26 rfl Tryz.ntmps26 (Nat.le_of_ble_eq_true rfl) ?_
  (repeat first|refine wN ?_|refine wP rfl ?_|refine cx_r rfl ?_|refine cx_d rfl ?_|refine wO rfl rfl ?_)
  refine VS.ret (cx_ok _ _) rfl rfl (fun wz kz bz => ?_)
  obtain ⟨h1, h2⟩ := pick_lo i 15 (by decide) (by decide) _ rfl
  exact ⟨⟨_, congrArg (fun z => Ending.returned (.int .i64 z)) (Int.toNat_of_nonneg h1).symm, by omega⟩, bz⟩
 ·refine calm_enter (C := cxOf Tryz.prog w _) (args := [_, _]) Tryz.func26 rfl Tryz.ntmps26 (Nat.le_of_ble_eq_true rfl) ?_
  (repeat first|refine wN ?_|refine wP rfl ?_|refine cx_r rfl ?_|refine cx_d rfl ?_|refine wO rfl rfl ?_)
  refine VS.ret (cx_ok _ _) rfl rfl (fun wz kz bz => ?_)
  obtain ⟨h1, h2⟩ := pick_lo i 16 (by decide) (by decide) _ rfl
  exact ⟨⟨_, congrArg (fun z => Ending.returned (.int .i64 z)) (Int.toNat_of_nonneg h1).symm, by omega⟩, bz⟩
 ·refine calm_enter (C := cxOf Tryz.prog w _) (args := [_, _]) Tryz.func26 rfl Tryz.ntmps26 (Nat.le_of_ble_eq_true rfl) ?_
  (repeat first|refine wN ?_|refine wP rfl ?_|refine cx_r rfl ?_|refine cx_d rfl ?_|refine wO rfl rfl ?_)
  refine VS.ret (cx_ok _ _) rfl rfl (fun wz kz bz => ?_)
  obtain ⟨h1, h2⟩ := pick_lo i 17 (by decide) (by decide) _ rfl
  exact ⟨⟨_, congrArg (fun z => Ending.returned (.int .i64 z)) (Int.toNat_of_nonneg h1).symm, by omega⟩, bz⟩
 ·refine calm_enter (C := cxOf Tryz.prog w _) (args := [_, _]) Tryz.func26 rfl Tryz.ntmps26 (Nat.le_of_ble_eq_true rfl) ?_
  (repeat first|refine wN ?_|refine wP rfl ?_|refine cx_r rfl ?_|refine cx_d rfl ?_|refine wO rfl rfl ?_)
  refine VS.ret (cx_ok _ _) rfl rfl (fun wz kz bz => ?_)
  obtain ⟨h1, h2⟩ := pick_lo i 18 (by decide) (by decide) _ rfl
  exact ⟨⟨_, congrArg (fun z => Ending.returned (.int .i64 z)) (Int.toNat_of_nonneg h1).symm, by omega⟩, bz⟩
 ·refine calm_enter (C := cxOf Tryz.prog w _) (args := [_, _]) Tryz.func26 rfl Tryz.ntmps26 (Nat.le_of_ble_eq_true rfl) ?_
  (repeat first|refine wN ?_|refine wP rfl ?_|refine cx_r rfl ?_|refine cx_d rfl ?_|refine wO rfl rfl ?_)
  refine VS.ret (cx_ok _ _) rfl rfl (fun wz kz bz => ?_)
  obtain ⟨h1, h2⟩ := pick_lo i 19 (by decide) (by decide) _ rfl
  exact ⟨⟨_, congrArg (fun z => Ending.returned (.int .i64 z)) (Int.toNat_of_nonneg h1).symm, by omega⟩, bz⟩
theorem tsz20m {n : Nat} (h : n ≤ 20) : tsz n 4 ≤ 400 := by unfold tsz; omega
theorem new_E {kk : Nat} {w : World} {r : Rat} {s t s' t' : Bool} {p u p' u' : Option Addr} {xs ys : List Nat} {c d a' c' b' d' : Nat} (h : RatRaw w (.agg #[.bool s, .slice p xs.length c, .bool t, .slice u ys.length d]) s xs t ys) (hx : xs.length ≤ kk) (hy : ys.length ≤ kk) (h' : RatRd w (.agg #[.bool s', .slice p' a' c', .bool t', .slice u' b' d']) r) (hs' : RSz r kk) :
  BrE kk w [.bool s, .slice p xs.length c, .bool t, .slice u ys.length d, .bool s', .slice p' a' c', .bool t', .slice u' b' d'] ((s, xs, t, ys), crr r) := by
 have hr' := h'.raw
 obtain ⟨_, _, _, _, hv', h1', h2'⟩ := hr'
 simp only [Value.agg.injEq, Array.mk.injEq, List.cons.injEq, Value.bool.injEq, Value.slice.injEq, and_true] at hv'
 obtain ⟨rfl, ⟨rfl, rfl, rfl⟩, rfl, rfl, rfl, rfl⟩ := hv'
 exact ⟨_, _, _, _, _, _, _, _, rfl, h, ⟨_, _, _, _, rfl, h1', h2'⟩, hx, hy, hs'.1, hs'.2⟩
theorem SlIn.takeK {α : Type} {E : World → List Value → α → Prop} {sz : Nat} {w : World} {p : Option Addr} {n c k : Nat} {es : List α} (h : SlIn E sz w (.slice p n c) es) (hk : k ≤ n) : SlIn E sz w (.slice p k c) (es.take k) := by
 obtain ⟨p', d, e, h1, h2, h3⟩ := h
 cases e
 have hl : (es.take k).length = k := by rw [List.length_take]; omega
 refine ⟨p, c, by rw [hl], by omega, h2, fun i q hq => ?_⟩
 rw [List.getElem?_take] at hq
 split at hq
 ·exact h3 i q hq
 ·cases hq
theorem SlIn.dropK {α : Type} {E : World → List Value → α → Prop} {sz : Nat} {w : World} {p : Option Addr} {n c k : Nat} {es : List α} (h : SlIn E sz w (.slice p n c) es) (hk : k ≤ n) : SlIn E sz w (.slice (if c = k then p else p.map (·.add (k * sz))) (n - k) (c - k)) (es.drop k) := by
 obtain ⟨p', d, e, h1, h2, h3⟩ := h
 cases e
 refine ⟨_, _, by rw [List.length_drop], by rw [List.length_drop]; omega, by omega, fun i q hq => ?_⟩
 have hlt := (List.getElem?_eq_some_iff.1 hq).1
 rw [List.length_drop] at hlt
 rw [List.getElem?_drop, Nat.add_comm] at hq
 obtain ⟨b', off', cs, rfl, h4, h5⟩ := h3 (i + k) q hq
 rw [if_neg (by omega)]
 refine ⟨b', off' + k * sz, cs, by rw [Option.map_some, Addr.add_mid], fun j u hj => ?_, h5⟩
 have := h4 j u hj
 rw [Nat.add_mul] at this
 rw [show off' + k * sz + i * sz + j = off' + (i * sz + k * sz) + j by omega]
 exact this
set_option maxRecDepth 4000 in
set_option maxHeartbeats 4000000 in
theorem more28_any (v va vb : Value) (l : List RBr) (s t s' t' : Bool) (xs ys xs' ys' : List Nat) (kk : Nat) (at' : Int) (w : World) (hv : SlIn (BrE kk) 8 w v l) (ha : RatRaw w va s xs t ys) (hb : RatRaw w vb s' xs' t' ys')  :
  Calls Tryz.prog 4 #[v, va, vb, .int .i64 at'] w fun o w' => o = .returned (.bool true) ∧ Beh w w' := by
 obtain ⟨p, c, rfl, hnc, hcm⟩ := hv.form
 obtain ⟨pa, ca, ya, da, rfl, -⟩ := ha.form'
 obtain ⟨pb, cb, yb, db, rfl, -⟩ := hb.form'
 obtain ⟨N, hN⟩ : ∃ N, N = l.length := ⟨_, rfl⟩
 rw [← hN] at hv hnc
 rw [← hN]
 refine calm_enter (C := cxOf Tryz.prog w _) (args := [_, _, _, _]) Tryz.func4 rfl Tryz.ntmps4 (Nat.le_of_ble_eq_true rfl) ?_
 (repeat first|refine wN ?_|refine wP rfl ?_|refine cx_r rfl ?_|refine cx_d rfl ?_|refine wO rfl rfl ?_)
 cases hfew : fewB l [(s, xs, t, ys), (s', xs', t', ys')] with
 | false =>
  refine VO.callF rfl (fk Tryz.func7) (fun wa1 β ka1 ba1 ho => (few28_ok _ (some ⟨β 20, 0, none⟩) 2 l [(s, xs, t, ys), (s', xs', t', ys')] kk wa1 (hv.beh (br_ok kk) ba1) (ownV_sl rr_ok (ho.own 20 (.base (List.mem_singleton.2 rfl)) _ _ rfl) [] (vs := [[.bool s, .slice pa xs.length ca, .bool t, .slice ya ys.length da], [.bool s', .slice pb xs'.length cb, .bool t', .slice yb ys'.length db]]) (by rfl) (RowE.cons ⟨_, _, _, _, rfl⟩ (RowE.cons ⟨_, _, _, _, rfl⟩ RowE.nil)) rfl (Nat.le_of_ble_eq_true rfl) (by decide)) (by omega) (by omega) false hfew).mono ?_)
  rintro e w1 ⟨rfl, hb1⟩
  refine ⟨_, rfl, hb1, fun kb1 _ bb1 => wV rfl ?_⟩
  (repeat first|refine wN ?_|refine wP rfl ?_|refine cx_r rfl ?_|refine cx_d rfl ?_|refine wO rfl rfl ?_)
  refine VO.call rfl rfl (fk Tryz.func8) (fun wa2 ka2 ba2 => (works28_any wa2).mono ?_)
  rintro e w2 ⟨rfl, hb2⟩
  skip
  refine ⟨_, rfl, hb2, fun kb2 _ bb2 => wV rfl ?_⟩
  (repeat first|refine wN ?_|refine wP rfl ?_|refine cx_r rfl ?_|refine cx_d rfl ?_|refine wO rfl rfl ?_)
  refine VS.ret (cx_ok _ _) rfl rfl (fun wz kz bz => ?_)
  exact ⟨rfl, bz⟩
 | true =>
  have hv4 := fewB_sl hfew hv
  have hln := fewB_len hfew
  obtain ⟨g1, g2⟩ := fewB_inc hfew (x := (s, xs, t, ys)) (by simp)
  obtain ⟨g3, g4⟩ := fewB_inc hfew (x := (s', xs', t', ys')) (by simp)
  replace g1 : xs.length ≤ 4 := g1
  replace g2 : ys.length ≤ 4 := g2
  replace g3 : xs'.length ≤ 4 := g3
  replace g4 : ys'.length ≤ 4 := g4
  have hts := tsz20m hln
  have hai : RatIn w _ (rq s xs t ys) 4 := ha.in g1 g2
  have hbi : RatIn w _ (rq s' xs' t' ys') 4 := hb.in g3 g4
  obtain ⟨G, hG⟩ : ∃ G, G = rq s xs t ys := ⟨_, rfl⟩
  obtain ⟨B, hB⟩ : ∃ B, B = rq s' xs' t' ys' := ⟨_, rfl⟩
  have hG' : G = RR.q (s, xs, t, ys) := hG
  rw [← hG] at hai
  rw [← hB] at hbi
  refine VO.callF rfl (fk Tryz.func7) (fun wa1 β ka1 ba1 ho => (few28_ok _ (some ⟨β 20, 0, none⟩) 2 l [(s, xs, t, ys), (s', xs', t', ys')] kk wa1 (hv.beh (br_ok kk) ba1) (ownV_sl rr_ok (ho.own 20 (.base (List.mem_singleton.2 rfl)) _ _ rfl) [] (vs := [[.bool s, .slice pa xs.length ca, .bool t, .slice ya ys.length da], [.bool s', .slice pb xs'.length cb, .bool t', .slice yb ys'.length db]]) (by rfl) (RowE.cons ⟨_, _, _, _, rfl⟩ (RowE.cons ⟨_, _, _, _, rfl⟩ RowE.nil)) rfl (Nat.le_of_ble_eq_true rfl) (by decide)) (by omega) (by omega) true hfew).mono ?_)
  rintro e w1 ⟨rfl, hb1⟩
  refine ⟨_, rfl, hb1, fun kb1 _ bb1 => wV rfl ?_⟩
  (repeat first|refine wN ?_|refine wP rfl ?_|refine cx_r rfl ?_|refine cx_d rfl ?_|refine wO rfl rfl ?_)
  by_cases h19 : N > 19
  ·refine VO.fix 28 rfl (congrArg (fun b => AV.val (.bool b)) (decide_eq_true (show (N : Int) > 19 by omega))) ?_
   (repeat first|refine wN ?_|refine wP rfl ?_|refine cx_r rfl ?_|refine cx_d rfl ?_|refine wO rfl rfl ?_)
   refine VO.call rfl rfl (fk Tryz.func8) (fun wa2 ka2 ba2 => (works28_any wa2).mono ?_)
   rintro e w2 ⟨rfl, hb2⟩
   skip
   refine ⟨_, rfl, hb2, fun kb2 _ bb2 => wV rfl ?_⟩
   (repeat first|refine wN ?_|refine wP rfl ?_|refine cx_r rfl ?_|refine cx_d rfl ?_|refine wO rfl rfl ?_)
   refine VS.ret (cx_ok _ _) rfl rfl (fun wz kz bz => ?_)
   exact ⟨rfl, bz⟩
  refine VO.fix 28 rfl (congrArg (fun b => AV.val (.bool b)) (decide_eq_false (show ¬ (N : Int) > 19 by omega))) ?_
  (repeat first|refine wN ?_|refine wP rfl ?_|refine cx_r rfl ?_|refine cx_d rfl ?_|refine wO rfl rfl ?_)
  cases hbr : bright l with
  | false =>
   refine VO.call rfl rfl (fk Tryz.func19) (fun wa2 ka2 ba2 => (bRight_ok _ l 4 wa2 (hv4.beh (br_ok 4) ba2) (by omega) false hbr).mono ?_)
   rintro e w2 ⟨rfl, hb2⟩
   skip
   refine ⟨_, rfl, hb2, fun kb2 _ bb2 => wV rfl ?_⟩
   (repeat first|refine wN ?_|refine wP rfl ?_|refine cx_r rfl ?_|refine cx_d rfl ?_|refine wO rfl rfl ?_)
   refine VO.call rfl rfl (fk Tryz.func8) (fun wa3 ka3 ba3 => (works28_any wa3).mono ?_)
   rintro e w3 ⟨rfl, hb3⟩
   skip
   refine ⟨_, rfl, hb3, fun kb3 _ bb3 => wV rfl ?_⟩
   (repeat first|refine wN ?_|refine wP rfl ?_|refine cx_r rfl ?_|refine cx_d rfl ?_|refine wO rfl rfl ?_)
   refine VS.ret (cx_ok _ _) rfl rfl (fun wz kz bz => ?_)
   exact ⟨rfl, bz⟩
  | true =>
  have hcd : tcode l = 0 := by unfold tcode; rw [hbr]; rfl
  have hN1 : 0 < N := by rw [hN]; exact (bright_iff.1 hbr).1
  refine VO.call rfl rfl (fk Tryz.func19) (fun wa2 ka2 ba2 => (bRight_ok _ l 4 wa2 (hv4.beh (br_ok 4) ba2) (by omega) true hbr).mono ?_)
  rintro e w2 ⟨rfl, hb2⟩
  skip
  refine ⟨_, rfl, hb2, fun kb2 _ bb2 => wV rfl ?_⟩
  (repeat first|refine wN ?_|refine wP rfl ?_|refine cx_r rfl ?_|refine cx_d rfl ?_|refine wO rfl rfl ?_)
  cases hrt : rtB s xs t ys with
  | false =>
   refine VO.call rfl rfl (fk Tryz.func25) (fun wa3 ka3 ba3 => (ratRight_ok s t xs ys _ wa3 (ha.kp (Kp.of (U := UU) ba3)) (by omega) (by omega) false hrt).mono ?_)
   rintro e w3 ⟨rfl, hb3⟩
   skip
   refine ⟨_, rfl, hb3, fun kb3 _ bb3 => wV rfl ?_⟩
   (repeat first|refine wN ?_|refine wP rfl ?_|refine cx_r rfl ?_|refine cx_d rfl ?_|refine wO rfl rfl ?_)
   refine VO.call rfl rfl (fk Tryz.func8) (fun wa4 ka4 ba4 => (works28_any wa4).mono ?_)
   rintro e w4 ⟨rfl, hb4⟩
   skip
   refine ⟨_, rfl, hb4, fun kb4 _ bb4 => wV rfl ?_⟩
   (repeat first|refine wN ?_|refine wP rfl ?_|refine cx_r rfl ?_|refine cx_d rfl ?_|refine wO rfl rfl ?_)
   refine VS.ret (cx_ok _ _) rfl rfl (fun wz kz bz => ?_)
   exact ⟨rfl, bz⟩
  | true =>
  refine VO.call rfl rfl (fk Tryz.func25) (fun wa3 ka3 ba3 => (ratRight_ok s t xs ys _ wa3 (ha.kp (Kp.of (U := UU) ba3)) (by omega) (by omega) true hrt).mono ?_)
  rintro e w3 ⟨rfl, hb3⟩
  skip
  refine ⟨_, rfl, hb3, fun kb3 _ bb3 => wV rfl ?_⟩
  (repeat first|refine wN ?_|refine wP rfl ?_|refine cx_r rfl ?_|refine cx_d rfl ?_|refine wO rfl rfl ?_)
  refine VO.call rfl rfl (fk Tryz.func26) (fun wa4 ka4 ba4 => (pick28_any at' N wa4 (by omega) (by omega)).mono ?_)
  rintro e w4 ⟨⟨j, rfl, hj⟩, hb4⟩
  skip
  refine ⟨_, rfl, hb4, fun kb4 _ bb4 => wV rfl ?_⟩
  (repeat first|refine wN ?_|refine wP rfl ?_|refine cx_r rfl ?_|refine cx_d rfl ?_|refine wO rfl rfl ?_)
  obtain ⟨k, hk⟩ : ∃ k, k = j + 1 := ⟨_, rfl⟩
  have e1 : IntKind.i64.wrap (1 + (j : Int)) = (k : Int) := by rw [IntWalk.i64_in _ (by omega)]; omega
  have e2 : IntKind.i64.wrap (IntKind.i64.wrap (1 + (j : Int)) - 1) = (j : Int) := by rw [e1, IntWalk.i64_in _ (by omega)]; omega
  obtain ⟨x, hx⟩ : ∃ x, l[j]? = some x := ⟨_, List.getElem?_eq_getElem (by omega)⟩
  obtain ⟨b, off, cs', hpp, hcs, hE⟩ := hv4.at hx
  have hE0 := hE
  obtain ⟨ap, ac, ar, ad, bp, bc, br, bd, rfl, -⟩ := hE
  subst hpp
  have hfr := hE0.from
  have hx' : l[k - 1]? = some x := by rw [hk]; exact hx
  have hk1 : 1 ≤ k := by omega
  have hkl : k ≤ l.length := by omega
  refine VO.fix 43 rfl (congrArg (fun z => AV.val (.int .i64 z)) (e1)) ?_
  refine VO.fix 9 rfl (congrArg (fun z => AV.val (.int .i64 z)) (e1)) ?_
  refine VO.fix 47 rfl (congrArg (fun z => AV.val (.int .i64 z)) (e2)) ?_
  refine VO.cond rfl ⟨by omega, by omega⟩ ?_
  refine wV rfl ?_
  (repeat first|refine wN ?_|refine wP rfl ?_|refine cx_r rfl ?_|refine cx_d rfl ?_|refine wO rfl rfl ?_)
  refine VO.read rfl [.bool x.1.1, .slice ap x.1.2.1.length ac, .bool x.1.2.2.1, .slice ar x.1.2.2.2.length ad] rfl (cells_at hcs 0 _ ⟨_, rfl⟩) (wV rfl ?_)
  (repeat first|refine wN ?_|refine wP rfl ?_|refine cx_r rfl ?_|refine cx_d rfl ?_|refine wO rfl rfl ?_)
  obtain ⟨c1, hc1⟩ : ∃ c1, rcmp G x.1.q = c1 := ⟨_, rfl⟩
  refine VO.call rfl rfl (fk Tryz.func27) (fun wa5 ka5 ba5 => (ratCmp_ok _ _ G x.1.q 4 4 wa5 (hai.kp (Kp.of (U := UU) ba5)) (hfr.kp (Kp.of (U := UU) ba5)) (by omega) (by omega) c1 hc1).mono ?_)
  rintro e w5 ⟨rfl, hb5⟩
  skip
  refine ⟨_, rfl, hb5, fun kb5 _ bb5 => wV rfl ?_⟩
  (repeat first|refine wN ?_|refine wP rfl ?_|refine cx_r rfl ?_|refine cx_d rfl ?_|refine wO rfl rfl ?_)
  by_cases h1c : c1 ≤ 0
  ·refine VO.fix 53 rfl (congrArg (fun b => AV.val (.bool b)) (decide_eq_true h1c)) ?_
   (repeat first|refine wN ?_|refine wP rfl ?_|refine cx_r rfl ?_|refine cx_d rfl ?_|refine wO rfl rfl ?_)
   refine VO.call rfl rfl (fk Tryz.func8) (fun wa6 ka6 ba6 => (works28_any wa6).mono ?_)
   rintro e w6 ⟨rfl, hb6⟩
   skip
   refine ⟨_, rfl, hb6, fun kb6 _ bb6 => wV rfl ?_⟩
   (repeat first|refine wN ?_|refine wP rfl ?_|refine cx_r rfl ?_|refine cx_d rfl ?_|refine wO rfl rfl ?_)
   refine VS.ret (cx_ok _ _) rfl rfl (fun wz kz bz => ?_)
   exact ⟨rfl, bz⟩
  refine VO.fix 53 rfl (congrArg (fun b => AV.val (.bool b)) (decide_eq_false h1c)) ?_
  (repeat first|refine wN ?_|refine wP rfl ?_|refine cx_r rfl ?_|refine cx_d rfl ?_|refine wO rfl rfl ?_)
  have h1 : x.1.q < G := Rat.not_le.1 fun e => h1c (by rw [← hc1]; exact rcmp_le.2 e)
  by_cases hkN : k < N
  ·obtain ⟨y, hy⟩ : ∃ y, l[k]? = some y := ⟨_, List.getElem?_eq_getElem (by omega)⟩
   obtain ⟨b2, off2, cs2, hq2, hc2, hY⟩ := hv4.at hy
   cases hq2
   have hY0 := hY
   obtain ⟨up, uc, ur, ud, vp, vc, vr, vd, rfl, -⟩ := hY
   have hfy := hY0.from
   refine VO.fix 58 rfl (congrArg (fun b => AV.val (.bool b)) (decide_eq_true (Int.ofNat_lt.2 hkN))) ?_
   (repeat first|refine wN ?_|refine wP rfl ?_|refine cx_r rfl ?_|refine cx_d rfl ?_|refine wO rfl rfl ?_)
   refine VO.cond rfl ⟨by omega, by omega⟩ ?_
   refine wV rfl ?_
   (repeat first|refine wN ?_|refine wP rfl ?_|refine cx_r rfl ?_|refine cx_d rfl ?_|refine wO rfl rfl ?_)
   refine VO.read rfl [.bool y.1.1, .slice up y.1.2.1.length uc, .bool y.1.2.2.1, .slice ur y.1.2.2.2.length ud] rfl (cells_at hc2 0 _ ⟨_, rfl⟩) (wV rfl ?_)
   (repeat first|refine wN ?_|refine wP rfl ?_|refine cx_r rfl ?_|refine cx_d rfl ?_|refine wO rfl rfl ?_)
   obtain ⟨c2, hc2'⟩ : ∃ c2, rcmp G y.1.q = c2 := ⟨_, rfl⟩
   refine VO.call rfl rfl (fk Tryz.func27) (fun wa6 ka6 ba6 => (ratCmp_ok _ _ G y.1.q 4 4 wa6 (hai.kp (Kp.of (U := UU) ba6)) (hfy.kp (Kp.of (U := UU) ba6)) (by omega) (by omega) c2 hc2').mono ?_)
   rintro e w6 ⟨rfl, hb6⟩
   skip
   refine ⟨_, rfl, hb6, fun kb6 _ bb6 => wV rfl ?_⟩
   (repeat first|refine wN ?_|refine wP rfl ?_|refine cx_r rfl ?_|refine cx_d rfl ?_|refine wO rfl rfl ?_)
   by_cases h2c : c2 ≥ 0
   ·refine VS.condY rfl (decide_eq_true h2c) ?_
    (repeat first|refine wN ?_|refine wP rfl ?_|refine cx_r rfl ?_|refine cx_d rfl ?_|refine wO rfl rfl ?_)
    refine VO.call rfl rfl (fk Tryz.func8) (fun wa7 ka7 ba7 => (works28_any wa7).mono ?_)
    rintro e w7 ⟨rfl, hb7⟩
    skip
    refine ⟨_, rfl, hb7, fun kb7 _ bb7 => wV rfl ?_⟩
    (repeat first|refine wN ?_|refine wP rfl ?_|refine cx_r rfl ?_|refine cx_d rfl ?_|refine wO rfl rfl ?_)
    refine VS.ret (cx_ok _ _) rfl rfl (fun wz kz bz => ?_)
    exact ⟨rfl, bz⟩
   refine VS.condN rfl (decide_eq_false h2c) ?_
   (repeat first|refine wN ?_|refine wP rfl ?_|refine cx_r rfl ?_|refine cx_d rfl ?_|refine wO rfl rfl ?_)
   have h2 : ∀ z, l[k]? = some z → G < z.1.q := fun z hz => by
    rw [hy] at hz; cases hz
    exact Rat.not_le.1 fun e => h2c (by rw [← hc2']; exact rcmp_ge.2 e)
   have hg := more_rate hbr hk1 hkl hx' h1 h2
   refine VO.call rfl rfl (fk Tryz.func13) (fun wa7 ka7 ba7 => (bRate_ok _ _ l 4 G wa7 (hv4.beh (br_ok 4) ba7) (hai.kp (Kp.of (U := UU) ba7)) (by omega) (by omega) (by omega) 0 hcd x.2.q hg).mono ?_)
   rintro e w7 ⟨r7, rfl, q7, z7, hb7⟩
   obtain ⟨s7, p7, n7, c7, t7, y7, m7, d7, rfl⟩ := q7.form
   refine ⟨_, rfl, hb7, fun kb7 _ bb7 => wV rfl ?_⟩
   (repeat first|refine wN ?_|refine wP rfl ?_|refine cx_r rfl ?_|refine cx_d rfl ?_|refine wO rfl rfl ?_)
   refine VO.cond rfl ⟨Int.le_refl _, show (0 : Int) ≤ (k : Int) by omega, show (k : Int) ≤ (c : Int) by omega, show (c : Int) ≤ 9223372036854775807 by omega⟩ (wV rfl ?_)
   refine VO.fix 79 rfl (congrArg AV.val (sl_take (b := b) (off := off) (n := N) (k := k) (c := c) (by omega))) ?_
   (repeat first|refine wN ?_|refine wP rfl ?_|refine cx_r rfl ?_|refine cx_d rfl ?_|refine wO rfl rfl ?_)
   have hT := hv4.takeK (show k ≤ N by omega)
   obtain ⟨vT, hrT, hnT, hsT⟩ := hT.src (br_ok 4)
   obtain ⟨hokT, hlT⟩ := hrT.ok (br_ok 4)
   have htl : (l.take k).length = k := by rw [List.length_take]; omega
   have hsrcT : ∀ w1, Beh w w1 → ∀ β : Nat → Nat, ∃ p cc, (Value.slice (some ⟨b, off, none⟩) k c) = .slice p k cc ∧ (k = 0 ∨ ∃ b off, p = some ⟨b, off, none⟩ ∧ ∀ (j : Nat) (u : Value), ((vT.flatten.map AV.val).map (AV.leaf β))[j]? = some u → w1.cell? ⟨b, off + j, none⟩ = some u) := fun w1 hb β => ⟨_, c, rfl, hsT.imp id fun ⟨b, off, hp, hx⟩ => ⟨b, off, hp, src_old hx hb⟩⟩
   refine VO.app (cx_ok _ _) (t := 22) (e := 59) (sz := 8) (n := 0) (c := 0) (mm := k) (known := []) (spare := []) (news := vT.flatten.map .val) (dst := 80) (del := none) rfl rfl rfl rfl rfl rfl rfl rfl (Nat.le_of_ble_eq_true rfl) rfl (.inl ⟨rfl, rfl, rfl, rfl, rfl, rfl, by omega⟩) (.inl rfl) rfl rfl (by omega) (by omega) ⟨rfl, rfl, lidsOf_vals _⟩ ⟨rfl, rfl, vals_ok hokT⟩ (by rw [List.length_map, hlT, htl]) (by omega)
    (fun w1 β k1 b1 ho => hsrcT w1 b1 β)
    (fun w8 cap8 sp8 ρ8 k8 b8 hρ8 hcap8 hmax8 hlen8 hok8 hlid8 => wV rfl ?_)
   (repeat first|refine wN ?_|refine wP rfl ?_|refine cx_r rfl ?_|refine cx_d rfl ?_|refine wO rfl rfl ?_)
   refine VO.app (cx_ok _ _) (t := 22) (e := 59) (sz := 8) (n := 0 + k) (c := cap8) (mm := 1) (known := vT.flatten.map .val) (spare := sp8) (news := ([.bool s, .slice pa xs.length ca, .bool t, .slice ya ys.length da, .bool s7, .slice p7 n7 c7, .bool t7, .slice y7 m7 d7] : List Value).map .val) (dst := 86) (del := some 80) rfl rfl rfl rfl rfl rfl rfl rfl (Nat.le_of_ble_eq_true rfl) rfl (.inr ⟨80, rfl, rfl, rfl⟩) (.inl rfl) (by rw [List.length_map, hlT, htl, Nat.zero_add]) hlen8 hcap8 hmax8 ⟨lidsOf_vals _, hlid8, rfl⟩ ⟨vals_ok hokT, hok8, rfl⟩ rfl (by omega)
    (fun w1 β k1 b1 ho => ⟨_, _, rfl, .inr ⟨β 85, 0, rfl, own_src (rest := []) (ho.own 85 (.base (List.mem_append_right _ (List.mem_singleton.2 rfl))) _ _ rfl) rfl⟩⟩)
    (fun w9 cap9 sp9 ρ9 k9 b9 hρ9 hcap9 hmax9 hlen9 hok9 hlid9 => wV rfl ?_)
   (repeat first|refine wN ?_|refine wP rfl ?_|refine cx_r rfl ?_|refine cx_d rfl ?_|refine wO rfl rfl ?_)
   obtain ⟨P, hP⟩ : ∃ P, P = (if c = k then some (⟨b, off, none⟩ : Addr) else (some (⟨b, off, none⟩ : Addr)).map (·.add (k * 8))) := ⟨_, rfl⟩
   have hD := hv4.dropK (show k ≤ N by omega)
   rw [← hP] at hD
   refine VO.cond rfl ⟨show (0 : Int) ≤ (k : Int) by omega, show (k : Int) ≤ (N : Int) by omega, show (N : Int) ≤ (c : Int) by omega, show (c : Int) ≤ 9223372036854775807 by omega⟩ (wV rfl ?_)
   refine VO.fix 90 rfl (congrArg AV.val (sl_drop (n := N) (k := k) (c := c) hP)) ?_
   (repeat first|refine wN ?_|refine wP rfl ?_|refine cx_r rfl ?_|refine cx_d rfl ?_|refine wO rfl rfl ?_)
   obtain ⟨vD, hrD, hnD, hsD⟩ := hD.src (br_ok 4)
   obtain ⟨hokD, hlD⟩ := hrD.ok (br_ok 4)
   have hdl : (l.drop k).length = N - k := by rw [List.length_drop]; omega
   have hsrcD : ∀ w1, Beh w w1 → ∀ β : Nat → Nat, ∃ p cc, (Value.slice P (N - k) (c - k)) = .slice p (N - k) cc ∧ (N - k = 0 ∨ ∃ b off, p = some ⟨b, off, none⟩ ∧ ∀ (j : Nat) (u : Value), ((vD.flatten.map AV.val).map (AV.leaf β))[j]? = some u → w1.cell? ⟨b, off + j, none⟩ = some u) := fun w1 hb β => ⟨_, c - k, rfl, hsD.imp id fun ⟨b, off, hp, hx⟩ => ⟨b, off, hp, src_old hx hb⟩⟩
   refine VO.app (cx_ok _ _) (t := 22) (e := 59) (sz := 8) (n := 0 + k + 1) (c := cap9) (mm := N - k) (known := vT.flatten.map .val ++ ([.bool s, .slice pa xs.length ca, .bool t, .slice ya ys.length da, .bool s7, .slice p7 n7 c7, .bool t7, .slice y7 m7 d7] : List Value).map .val) (spare := sp9) (news := vD.flatten.map .val) (dst := 91) (del := some 86) rfl rfl rfl rfl rfl rfl rfl rfl (Nat.le_of_ble_eq_true rfl) rfl (.inr ⟨86, rfl, rfl, rfl⟩) (.inl rfl) (by rw [List.length_append, List.length_map, List.length_map, hlT, htl, Nat.zero_add, Nat.add_mul]; rfl) hlen9 hcap9 hmax9 ⟨by rw [lidsOf_append, lidsOf_vals, lidsOf_vals]; rfl, hlid9, lidsOf_vals _⟩ ⟨by rw [List.all_append, vals_ok hokT]; rfl, hok9, vals_ok hokD⟩ (by rw [List.length_map, hlD, hdl]) (by omega)
    (fun w1 β k1 b1 ho => hsrcD w1 b1 β)
    (fun w10 cap10 sp10 ρ10 k10 b10 hρ10 hcap10 hmax10 hlen10 hok10 hlid10 => wV rfl ?_)
   (repeat first|refine wN ?_|refine wP rfl ?_|refine cx_r rfl ?_|refine cx_d rfl ?_|refine wO rfl rfl ?_)
   obtain ⟨m, hm⟩ : ∃ m, m = l.take k ++ ((s, xs, t, ys), crr x.2.q) :: l.drop k := ⟨_, rfl⟩
   have hml : m.length = N + 1 := by rw [hm, List.length_append, List.length_cons, htl, hdl]; omega
   have hmr : bright m = true := by rw [hm]; exact more_right hbr hk1 hkl hx' (f := (s, xs, t, ys)) (r := crr x.2.q) hrt (crr_ok _) (crr_q _) (by rw [← hG']; exact h1) (fun z hz => by rw [← hG']; exact h2 z hz)
   have hmt : taxq m B = taxq l B := by rw [hm]; exact more_tax hbr hk1 hkl hx' (f := (s, xs, t, ys)) (r := crr x.2.q) hrt (crr_ok _) (crr_q _) (by rw [← hG']; exact h1) (fun z hz => by rw [← hG']; exact h2 z hz) B
   have hmc : tcode m = 0 := by unfold tcode; rw [hmr]; rfl
   have htm : tsz m.length 4 ≤ 400 := tsz20m (by omega)
   have hE7 : BrE 4 w7 [.bool s, .slice pa xs.length ca, .bool t, .slice ya ys.length da, .bool s7, .slice p7 n7 c7, .bool t7, .slice y7 m7 d7] ((s, xs, t, ys), crr x.2.q) := new_E ha.k g1 g2 q7.kr z7
   refine VO.call rfl rfl (fk Tryz.func11) (fun wa11 ka11 ba11 => (bTax_ok _ _ l 4 400 B wa11 (hv4.beh (br_ok 4) ba11) (hbi.kp (Kp.of (U := UU) ba11)) (by omega) (by omega) (by omega) 0 hcd (taxq l B) rfl (by omega)).mono ?_)
   rintro e w11 ⟨r11, rfl, q11, z11, hb11⟩
   obtain ⟨s11, p11, n11, c11, t11, y11, m11, d11, rfl⟩ := q11.form
   refine ⟨_, rfl, hb11, fun kb11 _ bb11 => wV rfl ?_⟩
   (repeat first|refine wN ?_|refine wP rfl ?_|refine cx_r rfl ?_|refine cx_d rfl ?_|refine wO rfl rfl ?_)
   refine VO.callF rfl (fk Tryz.func11) (fun wa12 β ka12 ba12 ho => (bTax_ok _ _ m 4 400 B wa12 (ownV_sl (br_ok 4) (ho.own 91 (.base (List.mem_singleton.2 rfl)) _ _ rfl) sp10 (vs := vT ++ [[.bool s, .slice pa xs.length ca, .bool t, .slice ya ys.length da, .bool s7, .slice p7 n7 c7, .bool t7, .slice y7 m7 d7]] ++ vD) (by simp) (by rw [hm]; exact ((hrT.kp (br_ok 4) (Kp.of (U := UU) ba12)).append (.cons (hE7.kp (T := fun _ => false) (by (with_reducible (repeat (first | assumption | exact kU _ | exact kR _ | exact Kp.of (U := UU) (by assumption) | exact KpS.of (by assumption) | refine kT ?_ (by assumption)))))) .nil)).append (hrD.kp (br_ok 4) (Kp.of (U := UU) ba12)) |> fun h => by simpa using h) (by omega) hcap10 hmax10) (hbi.kp (Kp.of (U := UU) ba12)) (by omega) (by omega) (by omega) 0 hmc (taxq l B) hmt htm).mono ?_)
   rintro e w12 ⟨r12, rfl, q12, z12, hb12⟩
   obtain ⟨s12, p12, n12, c12, t12, y12, m12, d12, rfl⟩ := q12.form
   refine ⟨_, rfl, hb12, fun kb12 _ bb12 => wV rfl ?_⟩
   (repeat first|refine wN ?_|refine wP rfl ?_|refine cx_r rfl ?_|refine cx_d rfl ?_|refine wO rfl rfl ?_)
   refine VO.call rfl rfl (fk Tryz.func27) (fun wa13 ka13 ba13 => (ratCmp_ok _ _ (taxq l B) (taxq l B) 400 400 wa13 (q11.ki z11) (q12.ki z12) (by omega) (by omega) 0 (rcmp_eq rfl)).mono ?_)
   rintro e w13 ⟨rfl, hb13⟩
   skip
   refine ⟨_, rfl, hb13, fun kb13 _ bb13 => wV rfl ?_⟩
   (repeat first|refine wN ?_|refine wP rfl ?_|refine cx_r rfl ?_|refine cx_d rfl ?_|refine wO rfl rfl ?_)
   refine VO.call rfl rfl (fk Tryz.func8) (fun wa14 ka14 ba14 => (works28_any wa14).mono ?_)
   rintro e w14 ⟨rfl, hb14⟩
   skip
   refine ⟨_, rfl, hb14, fun kb14 _ bb14 => wV rfl ?_⟩
   (repeat first|refine wN ?_|refine wP rfl ?_|refine cx_r rfl ?_|refine cx_d rfl ?_|refine wO rfl rfl ?_)
   refine VS.ret (cx_ok _ _) rfl rfl (fun wz kz bz => ?_)
   exact ⟨rfl, bz⟩
  ·refine VO.fix 58 rfl (congrArg (fun b => AV.val (.bool b)) (decide_eq_false (fun e => hkN (Int.ofNat_lt.1 e)))) ?_
   (repeat first|refine wN ?_|refine wP rfl ?_|refine cx_r rfl ?_|refine cx_d rfl ?_|refine wO rfl rfl ?_)
   have h2 : ∀ z, l[k]? = some z → G < z.1.q := fun z hz => by
    have := (List.getElem?_eq_some_iff.1 hz).1; omega
   have hg := more_rate hbr hk1 hkl hx' h1 h2
   refine VO.call rfl rfl (fk Tryz.func13) (fun wa7 ka7 ba7 => (bRate_ok _ _ l 4 G wa7 (hv4.beh (br_ok 4) ba7) (hai.kp (Kp.of (U := UU) ba7)) (by omega) (by omega) (by omega) 0 hcd x.2.q hg).mono ?_)
   rintro e w7 ⟨r7, rfl, q7, z7, hb7⟩
   obtain ⟨s7, p7, n7, c7, t7, y7, m7, d7, rfl⟩ := q7.form
   refine ⟨_, rfl, hb7, fun kb7 _ bb7 => wV rfl ?_⟩
   (repeat first|refine wN ?_|refine wP rfl ?_|refine cx_r rfl ?_|refine cx_d rfl ?_|refine wO rfl rfl ?_)
   refine VO.cond rfl ⟨Int.le_refl _, show (0 : Int) ≤ (k : Int) by omega, show (k : Int) ≤ (c : Int) by omega, show (c : Int) ≤ 9223372036854775807 by omega⟩ (wV rfl ?_)
   refine VO.fix 79 rfl (congrArg AV.val (sl_take (b := b) (off := off) (n := N) (k := k) (c := c) (by omega))) ?_
   (repeat first|refine wN ?_|refine wP rfl ?_|refine cx_r rfl ?_|refine cx_d rfl ?_|refine wO rfl rfl ?_)
   have hT := hv4.takeK (show k ≤ N by omega)
   obtain ⟨vT, hrT, hnT, hsT⟩ := hT.src (br_ok 4)
   obtain ⟨hokT, hlT⟩ := hrT.ok (br_ok 4)
   have htl : (l.take k).length = k := by rw [List.length_take]; omega
   have hsrcT : ∀ w1, Beh w w1 → ∀ β : Nat → Nat, ∃ p cc, (Value.slice (some ⟨b, off, none⟩) k c) = .slice p k cc ∧ (k = 0 ∨ ∃ b off, p = some ⟨b, off, none⟩ ∧ ∀ (j : Nat) (u : Value), ((vT.flatten.map AV.val).map (AV.leaf β))[j]? = some u → w1.cell? ⟨b, off + j, none⟩ = some u) := fun w1 hb β => ⟨_, c, rfl, hsT.imp id fun ⟨b, off, hp, hx⟩ => ⟨b, off, hp, src_old hx hb⟩⟩
   refine VO.app (cx_ok _ _) (t := 22) (e := 59) (sz := 8) (n := 0) (c := 0) (mm := k) (known := []) (spare := []) (news := vT.flatten.map .val) (dst := 80) (del := none) rfl rfl rfl rfl rfl rfl rfl rfl (Nat.le_of_ble_eq_true rfl) rfl (.inl ⟨rfl, rfl, rfl, rfl, rfl, rfl, by omega⟩) (.inl rfl) rfl rfl (by omega) (by omega) ⟨rfl, rfl, lidsOf_vals _⟩ ⟨rfl, rfl, vals_ok hokT⟩ (by rw [List.length_map, hlT, htl]) (by omega)
    (fun w1 β k1 b1 ho => hsrcT w1 b1 β)
    (fun w8 cap8 sp8 ρ8 k8 b8 hρ8 hcap8 hmax8 hlen8 hok8 hlid8 => wV rfl ?_)
   (repeat first|refine wN ?_|refine wP rfl ?_|refine cx_r rfl ?_|refine cx_d rfl ?_|refine wO rfl rfl ?_)
   refine VO.app (cx_ok _ _) (t := 22) (e := 59) (sz := 8) (n := 0 + k) (c := cap8) (mm := 1) (known := vT.flatten.map .val) (spare := sp8) (news := ([.bool s, .slice pa xs.length ca, .bool t, .slice ya ys.length da, .bool s7, .slice p7 n7 c7, .bool t7, .slice y7 m7 d7] : List Value).map .val) (dst := 86) (del := some 80) rfl rfl rfl rfl rfl rfl rfl rfl (Nat.le_of_ble_eq_true rfl) rfl (.inr ⟨80, rfl, rfl, rfl⟩) (.inl rfl) (by rw [List.length_map, hlT, htl, Nat.zero_add]) hlen8 hcap8 hmax8 ⟨lidsOf_vals _, hlid8, rfl⟩ ⟨vals_ok hokT, hok8, rfl⟩ rfl (by omega)
    (fun w1 β k1 b1 ho => ⟨_, _, rfl, .inr ⟨β 85, 0, rfl, own_src (rest := []) (ho.own 85 (.base (List.mem_append_right _ (List.mem_singleton.2 rfl))) _ _ rfl) rfl⟩⟩)
    (fun w9 cap9 sp9 ρ9 k9 b9 hρ9 hcap9 hmax9 hlen9 hok9 hlid9 => wV rfl ?_)
   (repeat first|refine wN ?_|refine wP rfl ?_|refine cx_r rfl ?_|refine cx_d rfl ?_|refine wO rfl rfl ?_)
   obtain ⟨P, hP⟩ : ∃ P, P = (if c = k then some (⟨b, off, none⟩ : Addr) else (some (⟨b, off, none⟩ : Addr)).map (·.add (k * 8))) := ⟨_, rfl⟩
   have hD := hv4.dropK (show k ≤ N by omega)
   rw [← hP] at hD
   refine VO.cond rfl ⟨show (0 : Int) ≤ (k : Int) by omega, show (k : Int) ≤ (N : Int) by omega, show (N : Int) ≤ (c : Int) by omega, show (c : Int) ≤ 9223372036854775807 by omega⟩ (wV rfl ?_)
   refine VO.fix 90 rfl (congrArg AV.val (sl_drop (n := N) (k := k) (c := c) hP)) ?_
   (repeat first|refine wN ?_|refine wP rfl ?_|refine cx_r rfl ?_|refine cx_d rfl ?_|refine wO rfl rfl ?_)
   obtain ⟨vD, hrD, hnD, hsD⟩ := hD.src (br_ok 4)
   obtain ⟨hokD, hlD⟩ := hrD.ok (br_ok 4)
   have hdl : (l.drop k).length = N - k := by rw [List.length_drop]; omega
   have hsrcD : ∀ w1, Beh w w1 → ∀ β : Nat → Nat, ∃ p cc, (Value.slice P (N - k) (c - k)) = .slice p (N - k) cc ∧ (N - k = 0 ∨ ∃ b off, p = some ⟨b, off, none⟩ ∧ ∀ (j : Nat) (u : Value), ((vD.flatten.map AV.val).map (AV.leaf β))[j]? = some u → w1.cell? ⟨b, off + j, none⟩ = some u) := fun w1 hb β => ⟨_, c - k, rfl, hsD.imp id fun ⟨b, off, hp, hx⟩ => ⟨b, off, hp, src_old hx hb⟩⟩
   refine VO.app (cx_ok _ _) (t := 22) (e := 59) (sz := 8) (n := 0 + k + 1) (c := cap9) (mm := N - k) (known := vT.flatten.map .val ++ ([.bool s, .slice pa xs.length ca, .bool t, .slice ya ys.length da, .bool s7, .slice p7 n7 c7, .bool t7, .slice y7 m7 d7] : List Value).map .val) (spare := sp9) (news := vD.flatten.map .val) (dst := 91) (del := some 86) rfl rfl rfl rfl rfl rfl rfl rfl (Nat.le_of_ble_eq_true rfl) rfl (.inr ⟨86, rfl, rfl, rfl⟩) (.inl rfl) (by rw [List.length_append, List.length_map, List.length_map, hlT, htl, Nat.zero_add, Nat.add_mul]; rfl) hlen9 hcap9 hmax9 ⟨by rw [lidsOf_append, lidsOf_vals, lidsOf_vals]; rfl, hlid9, lidsOf_vals _⟩ ⟨by rw [List.all_append, vals_ok hokT]; rfl, hok9, vals_ok hokD⟩ (by rw [List.length_map, hlD, hdl]) (by omega)
    (fun w1 β k1 b1 ho => hsrcD w1 b1 β)
    (fun w10 cap10 sp10 ρ10 k10 b10 hρ10 hcap10 hmax10 hlen10 hok10 hlid10 => wV rfl ?_)
   (repeat first|refine wN ?_|refine wP rfl ?_|refine cx_r rfl ?_|refine cx_d rfl ?_|refine wO rfl rfl ?_)
   obtain ⟨m, hm⟩ : ∃ m, m = l.take k ++ ((s, xs, t, ys), crr x.2.q) :: l.drop k := ⟨_, rfl⟩
   have hml : m.length = N + 1 := by rw [hm, List.length_append, List.length_cons, htl, hdl]; omega
   have hmr : bright m = true := by rw [hm]; exact more_right hbr hk1 hkl hx' (f := (s, xs, t, ys)) (r := crr x.2.q) hrt (crr_ok _) (crr_q _) (by rw [← hG']; exact h1) (fun z hz => by rw [← hG']; exact h2 z hz)
   have hmt : taxq m B = taxq l B := by rw [hm]; exact more_tax hbr hk1 hkl hx' (f := (s, xs, t, ys)) (r := crr x.2.q) hrt (crr_ok _) (crr_q _) (by rw [← hG']; exact h1) (fun z hz => by rw [← hG']; exact h2 z hz) B
   have hmc : tcode m = 0 := by unfold tcode; rw [hmr]; rfl
   have htm : tsz m.length 4 ≤ 400 := tsz20m (by omega)
   have hE7 : BrE 4 w7 [.bool s, .slice pa xs.length ca, .bool t, .slice ya ys.length da, .bool s7, .slice p7 n7 c7, .bool t7, .slice y7 m7 d7] ((s, xs, t, ys), crr x.2.q) := new_E ha.k g1 g2 q7.kr z7
   refine VO.call rfl rfl (fk Tryz.func11) (fun wa11 ka11 ba11 => (bTax_ok _ _ l 4 400 B wa11 (hv4.beh (br_ok 4) ba11) (hbi.kp (Kp.of (U := UU) ba11)) (by omega) (by omega) (by omega) 0 hcd (taxq l B) rfl (by omega)).mono ?_)
   rintro e w11 ⟨r11, rfl, q11, z11, hb11⟩
   obtain ⟨s11, p11, n11, c11, t11, y11, m11, d11, rfl⟩ := q11.form
   refine ⟨_, rfl, hb11, fun kb11 _ bb11 => wV rfl ?_⟩
   (repeat first|refine wN ?_|refine wP rfl ?_|refine cx_r rfl ?_|refine cx_d rfl ?_|refine wO rfl rfl ?_)
   refine VO.callF rfl (fk Tryz.func11) (fun wa12 β ka12 ba12 ho => (bTax_ok _ _ m 4 400 B wa12 (ownV_sl (br_ok 4) (ho.own 91 (.base (List.mem_singleton.2 rfl)) _ _ rfl) sp10 (vs := vT ++ [[.bool s, .slice pa xs.length ca, .bool t, .slice ya ys.length da, .bool s7, .slice p7 n7 c7, .bool t7, .slice y7 m7 d7]] ++ vD) (by simp) (by rw [hm]; exact ((hrT.kp (br_ok 4) (Kp.of (U := UU) ba12)).append (.cons (hE7.kp (T := fun _ => false) (by (with_reducible (repeat (first | assumption | exact kU _ | exact kR _ | exact Kp.of (U := UU) (by assumption) | exact KpS.of (by assumption) | refine kT ?_ (by assumption)))))) .nil)).append (hrD.kp (br_ok 4) (Kp.of (U := UU) ba12)) |> fun h => by simpa using h) (by omega) hcap10 hmax10) (hbi.kp (Kp.of (U := UU) ba12)) (by omega) (by omega) (by omega) 0 hmc (taxq l B) hmt htm).mono ?_)
   rintro e w12 ⟨r12, rfl, q12, z12, hb12⟩
   obtain ⟨s12, p12, n12, c12, t12, y12, m12, d12, rfl⟩ := q12.form
   refine ⟨_, rfl, hb12, fun kb12 _ bb12 => wV rfl ?_⟩
   (repeat first|refine wN ?_|refine wP rfl ?_|refine cx_r rfl ?_|refine cx_d rfl ?_|refine wO rfl rfl ?_)
   refine VO.call rfl rfl (fk Tryz.func27) (fun wa13 ka13 ba13 => (ratCmp_ok _ _ (taxq l B) (taxq l B) 400 400 wa13 (q11.ki z11) (q12.ki z12) (by omega) (by omega) 0 (rcmp_eq rfl)).mono ?_)
   rintro e w13 ⟨rfl, hb13⟩
   skip
   refine ⟨_, rfl, hb13, fun kb13 _ bb13 => wV rfl ?_⟩
   (repeat first|refine wN ?_|refine wP rfl ?_|refine cx_r rfl ?_|refine cx_d rfl ?_|refine wO rfl rfl ?_)
   refine VO.call rfl rfl (fk Tryz.func8) (fun wa14 ka14 ba14 => (works28_any wa14).mono ?_)
   rintro e w14 ⟨rfl, hb14⟩
   skip
   refine ⟨_, rfl, hb14, fun kb14 _ bb14 => wV rfl ?_⟩
   (repeat first|refine wN ?_|refine wP rfl ?_|refine cx_r rfl ?_|refine cx_d rfl ?_|refine wO rfl rfl ?_)
   refine VS.ret (cx_ok _ _) rfl rfl (fun wz kz bz => ?_)
   exact ⟨rfl, bz⟩
end Go.Proofs.YtofdiijioejljaaGreat
