/- What the reference's number layer computes: often, parts. -/
import Derived.Test.YtofdiijioejljaaGreatRef03F
set_option linter.all false
set_option maxRecDepth 4000
namespace Go.Proofs.YtofdiijioejljaaGreat
open Go.RowKit
attribute [local irreducible] vcOps VS

theorem IntRow.kpI {w w' : World} {B : Nat} {v : Value} {n : Nat} {xs : List Nat} (h : IntRow w B v n xs) (k : KpS KI w w') : IntRow w' B v n xs := by
 obtain ⟨hn, e | ⟨b, c, spare, e, hb, hc, r⟩⟩ := h
 ·exact ⟨hn, .inl e⟩
 ·exact ⟨hn, .inr ⟨b, c, spare, e, hb, k.block _ b _ rfl trivial hc, r⟩⟩
theorem OwnI.kp {w w' : World} {B n : Nat} {v : Value} {cs : List Value} (h : w.ownsRow B 3 1 v n cs) (k : KpS KI w w') : w'.ownsRow B 3 1 v n cs := by
 refine ⟨h.1, ?_⟩
 rcases h.2 with h2 | ⟨g, cap, cur, hv, hb, hg, r⟩
 ·exact .inl h2
 ·exact .inr ⟨g, cap, cur, hv, hb, k.block _ g cur rfl trivial hg, r⟩
theorem IntRow.form {w : World} {B : Nat} {v : Value} {n : Nat} {xs : List Nat} (h : IntRow w B v n xs) : ∃ p c, v = .slice p n c := by
 obtain ⟨hn, ⟨rfl, rfl⟩ | ⟨b, c, spare, rfl, _⟩⟩ := h
 ·exact ⟨none, 0, rfl⟩
 ·exact ⟨_, c, rfl⟩
theorem hval_one (x : Nat) : hval [x] = x := by show x + 65536 * 0 = x; omega
set_option maxHeartbeats 1000000 in
theorem often03_any (va vb : Value) (n m A B : Nat) (w : World) (hr : Rd w 1 va n (ints .i64 (halves A))) (hs : Rd w 1 vb m (ints .i64 (halves B))) (hB : A < 65536 * B) (hm : m ≤ 2147483656) :
  Calls Tryz.prog 132 #[va, vb] w fun e w' => e = .returned (.int .i64 ((A / B : Nat) : Int)) ∧ Beh w w' := by
 obtain ⟨p, c, rfl, hnc, hcm, hxl⟩ := hr.i64
 obtain ⟨q, d, rfl, hmd, hdm, hyl⟩ := hs.i64
 refine calm_enter (C := cxI Tryz.prog w _) (args := [_, _]) Tryz.func132 rfl Tryz.ntmps132 (Nat.le_of_ble_eq_true rfl) ?_
 (repeat first|refine wN ?_|refine wP rfl ?_|refine cxI_r rfl ?_|refine cxI_d rfl ?_|refine wO rfl rfl ?_)
 refine VS.loop (J := fun ms L M w' => ∃ (lo hi : Nat), lo < hi ∧ hi ≤ 65536 ∧ ms = hi - lo ∧ L = [(0, .val (.slice p n c)), (1, .val (.slice q m d)), (5, .val (.int .i64 (lo : Int))), (6, .val (.int .i64 (hi : Int)))] ∧ M = [] ∧ lo * B ≤ A ∧ A < hi * B) 65536 ⟨_, _, ?_, ?_, ?_, ?_, ⟨0, 65536, by omega, by omega, rfl, rfl, rfl, by omega, hB⟩⟩ ?_
 ·(repeat first|exact trivial|refine ⟨rfl, ?_⟩)
 ·(repeat first|exact trivial|refine ⟨rfl, ?_⟩)
 ·rfl
 ·exact trivial
 rintro ms L M w' ⟨lo, hi, hlh, hh, rfl, rfl, rfl, h1, h2⟩
 have hw1 : IntKind.i64.wrap ((hi : Int) - (lo : Int)) = (hi : Int) - lo := IntWalk.i64_in _ (by omega)
 (repeat first|refine wN ?_|refine wP rfl ?_|refine cxI_r rfl ?_|refine cxI_d rfl ?_|refine wO rfl rfl ?_)
 by_cases hgo : 1 < hi - lo
 ·obtain ⟨mid, hmid⟩ : ∃ mid, mid = (lo + hi) / 2 := ⟨_, rfl⟩
  have hwm : IntKind.i64.wrap ((IntKind.i64.wrap ((lo : Int) + (hi : Int))).tdiv 2) = (mid : Int) := by
   rw [IntWalk.i64_in ((lo : Int) + (hi : Int)) (by omega), Int.tdiv_eq_ediv_of_nonneg (by omega), IntWalk.i64_in _ (by omega)]; omega
  refine VS.condY rfl (decide_eq_true (by rw [hw1]; omega)) ?_
  (repeat first|refine wN ?_|refine wP rfl ?_|refine cxI_r rfl ?_|refine cxI_d rfl ?_|refine wO rfl rfl ?_)
  refine VO.lit (cxI_ok _ _) [.int .i64 (mid : Int)] rfl (by rw [hwm]; rfl) rfl rfl rfl rfl rfl rfl rfl (by omega) (fun w2 b k2 b2 ho => wV rfl ?_)
  have hmid4 : mid < 65536 := by omega
  refine VO.call rfl rfl (fk Tryz.func113) (fun wa1 ka1 ba1 => (times03_any _ _ m 1 (halves B) [mid] wa1 (hs.below ba1) (Rd.own (OwnI.kp (cs := ints .i64 [mid]) ho ka1)) (halves_half B) (Dig.cons hmid4 (Dig.nil _)) hm (by omega)).mono ?_)
  rintro e w1 ⟨v1, rfl, q1, hb1⟩
  rw [hval_halves, hval_one] at q1
  obtain ⟨p1, c1, rfl⟩ := q1.form
  refine ⟨_, rfl, hb1, fun kb1 _ bb1 => wV rfl ?_⟩
  (repeat first|refine wN ?_|refine wP rfl ?_|refine cxI_r rfl ?_|refine cxI_d rfl ?_|refine wO rfl rfl ?_)
  refine VO.call rfl rfl (fk Tryz.func142) (fun wa3 ka3 ba3 => (less03_any _ _ n _ A (B * mid) wa3 (hr.below ba3) (Rd.own (q1.kpI ka3).own)).mono ?_)
  rintro e w3 ⟨rfl, hb3⟩
  refine ⟨_, rfl, hb3, fun kb3 _ bb3 => wV rfl ?_⟩
  (repeat first|refine wN ?_|refine wP rfl ?_|refine cxI_r rfl ?_|refine cxI_d rfl ?_|refine wO rfl rfl ?_)
  by_cases hlt : A < B * mid
  ·refine VS.condY rfl (decide_eq_true hlt) ?_
   (repeat first|refine wN ?_|refine wP rfl ?_|refine cxI_r rfl ?_|refine cxI_d rfl ?_|refine wO rfl rfl ?_)
   refine VS.back (mid - lo) (by omega) ⟨_, _, ?_, ?_, ?_, ?_, ⟨lo, mid, by omega, by omega, rfl, rfl, rfl, h1, by rw [Nat.mul_comm]; exact hlt⟩⟩
   ·exact ⟨rfl, rfl, rfl, congrArg (fun z => some (AV.val (.int .i64 z))) hwm, trivial⟩
   ·(repeat first|exact trivial|refine ⟨rfl, ?_⟩)
   ·rfl
   ·exact trivial
  ·refine VS.condN rfl (decide_eq_false hlt) ?_
   (repeat first|refine wN ?_|refine wP rfl ?_|refine cxI_r rfl ?_|refine cxI_d rfl ?_|refine wO rfl rfl ?_)
   refine VS.back (hi - mid) (by omega) ⟨_, _, ?_, ?_, ?_, ?_, ⟨mid, hi, by omega, by omega, rfl, rfl, rfl, by rw [Nat.mul_comm]; omega, h2⟩⟩
   ·exact ⟨rfl, rfl, congrArg (fun z => some (AV.val (.int .i64 z))) hwm, rfl, trivial⟩
   ·(repeat first|exact trivial|refine ⟨rfl, ?_⟩)
   ·rfl
   ·exact trivial
 ·refine VS.condN rfl (decide_eq_false (by rw [hw1]; omega)) ?_
  (repeat first|refine wN ?_|refine wP rfl ?_|refine cxI_r rfl ?_|refine cxI_d rfl ?_|refine wO rfl rfl ?_)
  refine VS.ret (cxI_ok _ _) rfl rfl (fun wz kz bz => ?_)
  refine ⟨?_, bz⟩
  have hBp : 0 < B := by
   rcases Nat.eq_zero_or_pos B with e | e
   ·rw [e] at hB; omega
   ·exact e
  have : A / B = lo := by
   have e1 : hi = lo + 1 := by omega
   rw [e1, Nat.add_mul] at h2
   exact Nat.div_eq_of_lt_le h1 (by rw [Nat.add_mul]; exact h2)
  rw [this]; rfl

theorem parts_step {A B k x R V : Nat} {qs : List Nat} (hx : (halves A)[k]? = some x) (hR : R < B) (hV : V = x + 65536 * R) (h : hval qs * B + R = hval ((halves A).drop (k + 1))) :
  hval ((V / B) :: qs) * B + (V - V / B * B) = hval ((halves A).drop k) ∧ V < 65536 * B ∧ V - V / B * B < B ∧ V / B < 65536 := by
 have hx4 := (halves_half A).at hx
 have e1 : hval ((halves A).drop k) = x + 65536 * hval ((halves A).drop (k + 1)) := val_drop_cons hx
 have e2 : hval ((V / B) :: qs) = V / B + 65536 * hval qs := rfl
 have e3 := Nat.div_add_mod V B
 have e4 := Nat.mod_lt V (show 0 < B by omega)
 rw [Nat.mul_comm] at e3
 have hlt : V < 65536 * B := by
  have : 65536 * R + 65536 ≤ 65536 * B := by
   have := Nat.mul_le_mul_left 65536 (show R + 1 ≤ B by omega)
   rw [Nat.mul_add] at this; omega
  omega
 refine ⟨?_, hlt, by omega, Nat.div_lt_of_lt_mul (by rw [Nat.mul_comm]; exact hlt)⟩
 rw [e1, ← h, e2, Nat.add_mul, Nat.mul_add, Nat.mul_assoc]
 omega
set_option maxHeartbeats 2000000 in
theorem parts03_any (va vb : Value) (n m A B : Nat) (w : World) (hr : Rd w 1 va n (ints .i64 (halves A))) (hs : Rd w 1 vb m (ints .i64 (halves B))) (hB : 0 < B) (hn : n ≤ 1073741824) (hm : m ≤ 1073741824) :
  Calls Tryz.prog 119 #[va, vb] w fun e w' => ∃ v u, e = .returned (.tuple #[v, u]) ∧ IntRow w' w.heap.size v (halves (A / B)).length (halves (A / B)) ∧ IntRow w' w.heap.size u (halves (A % B)).length (halves (A % B)) ∧ Beh w w' := by
 obtain ⟨p, c, rfl, hnc, hcm, hxl⟩ := hr.i64
 obtain ⟨q, d, rfl, hmd, hdm, hyl⟩ := hs.i64
 refine calm_enter (C := cxOf Tryz.prog w _) (args := [_, _]) Tryz.func119 rfl Tryz.ntmps119 (Nat.le_of_ble_eq_true rfl) ?_
 (repeat first|refine wN ?_|refine wP rfl ?_|refine cx_r rfl ?_|refine cx_d rfl ?_|refine wO rfl rfl ?_)
 refine VO.cond rfl ⟨rfl, by omega, by show (n : Int) * (24 * 1) ≤ _; omega⟩ (VO.fixH 12 rfl (iv_zeros _) (wV rfl ?_))
 rw [Int.toNat_natCast]
 (repeat first|refine wN ?_|refine wP rfl ?_|refine cx_r rfl ?_|refine cx_d rfl ?_|refine wO rfl rfl ?_)
 have hw0 : IntKind.i64.wrap ((n : Int) - 1) = (n : Int) - 1 := IntWalk.i64_in _ (by omega)
 refine VS.loop (J := fun ms L M w' => ∃ (k R : Nat) (qs : List Nat) (v : AV) (M1 : List (Nat × (TypeId × List AV))), k ≤ n ∧ ms = k ∧ L = [(0, .val (.slice p n c)), (1, .val (.slice q m d)), (6, .row 12 0 n n), (7, v), (8, .val (.int .i64 ((k : Int) - 1)))] ∧
  M = (12, (3, iv (List.replicate k 0 ++ qs))) :: M1 ∧ RowAt 41 (halves R) v M1 ∧ qs.length = n - k ∧ Half qs ∧ R < B ∧ hval qs * B + R = hval ((halves A).drop k)) n ⟨_, _, ?_, ?_, ?_, ?_, ⟨n, 0, [], .val (.slice none 0 0), [], Nat.le_refl _, rfl, rfl, rfl, .inl ⟨halves_zero, rfl, rfl⟩, by simp, Dig.nil _, hB, by rw [List.drop_of_length_le (by omega)]; simp [hval, val]⟩⟩ ?_
 ·exact ⟨rfl, rfl, rfl, rfl, congrArg (fun z => some (AV.val (.int .i64 z))) hw0, trivial⟩
 ·exact ⟨congrArg (fun l => some (_, l)) (by rw [List.append_nil]), trivial⟩
 ·rfl
 ·exact ⟨.none (iv_lids _), trivial⟩
 rintro ms L M w' ⟨k, R, qs, v, M1, hk, hms, rfl, rfl, hrow, hql, hqh, hRB, hv⟩
 have hz : (List.replicate k 0 ++ qs).length = n := by simp; omega
 rcases hrow with ⟨hR0, rfl, rfl⟩ | ⟨cap, spare, rfl, rfl, g1, g2, g3, g4, g5⟩
 all_goals
  by_cases hk0 : k = 0
 ·subst hk0
  (repeat first|refine wN ?_|refine wP rfl ?_|refine cx_r rfl ?_|refine cx_d rfl ?_|refine wO rfl rfl ?_)
  refine VO.callV rfl (fk Tryz.func131) (fun w1 β k1 bw ho => (cut03_any (some ⟨β 12, 0, none⟩) n n qs w1 (ownV_rd (spare := []) (by rw [List.append_nil]; exact ho.own 12 (.base (List.mem_singleton.2 rfl)) _ _ rfl) (by simpa using hz) (Nat.le_refl _) (by simp only [maxLen]; omega)) hqh).mono ?_)
  rintro e w2 ⟨⟨mm, hmm, rfl, hcut⟩, rfl⟩
  refine ⟨.row 12 0 mm n, rfl, fun i hi => ⟨hi, by cases List.mem_singleton.1 hi; exact Option.some_ne_none _⟩, Beh.refl _, fun k2 _ b2 => wV rfl ?_⟩
  (repeat first|refine wN ?_|refine wP rfl ?_|refine cx_r rfl ?_|refine cx_d rfl ?_|refine wO rfl rfl ?_)
  refine VS.retA (cx_ok _ _) rfl (fun wz β kz bz he => ?_)
  have hq0 : qs.length = n := by simpa using hz
  have hml := cut_row hcut hmm hq0
  rw [List.drop_zero, hval_halves] at hv
  have hA : A / B = hval qs := by rw [← hv, Nat.add_comm, Nat.add_mul_div_right _ _ hB, Nat.div_eq_of_lt hRB, Nat.zero_add]
  have hM : A % B = R := by rw [← hv, Nat.add_comm, Nat.add_mul_mod_self_right, Nat.mod_eq_of_lt hRB]
  rw [← hA] at hcut hml
  have e12 := ownV_row (spare := []) (by rw [List.append_nil]; exact he.own 12 _ _ rfl) hq0 hmm (Nat.le_refl _) (by simp only [maxLen]; omega) (by simpa using hq0)
  rw [← hcut] at e12
  refine ⟨.slice (some ⟨β 12, 0, none⟩) mm n, .slice none 0 0, rfl, by rw [← hml]; exact e12, ?_, bz⟩
  rw [hM, hR0]; exact IntRow.nil _ _
 ·obtain ⟨j, rfl⟩ : ∃ j, k = j + 1 := ⟨k - 1, by omega⟩
  have hj : ((j + 1 : Nat) : Int) - 1 = (j : Int) := by omega
  obtain ⟨b1, o1, x, rfl, hb1, hxk, hcx⟩ := hr.cellAt (show j < n by omega)
  have hx4 := (halves_half A).at hxk
  obtain ⟨V, hV⟩ : ∃ V, V = x + 65536 * R := ⟨_, rfl⟩
  obtain ⟨s1, s2, s3, s4⟩ := parts_step hxk hRB hV hv
  have hRl : (halves R).length ≤ m := by rw [← hyl]; exact digs_len_mono (by omega) (by omega)
  have hXS : hval [x] = V := by have hR0' : R = 0 := (by have := congrArg hval hR0; rw [hval_halves] at this; exact this); rw [hV, hR0']; exact hval_one x
  have hXH : Half [x] := Dig.cons hx4 (Dig.nil _)
  have hXL : [x].length = (1 + 0) := rfl
  refine VS.fix 8 rfl (congrArg (fun z => AV.val (.int .i64 z)) hj) ?_
  (repeat first|refine wN ?_|refine wP rfl ?_|refine cx_r rfl ?_|refine cx_d rfl ?_|refine wO rfl rfl ?_)
  refine VO.cond rfl ⟨by omega, by omega⟩ (wV rfl ?_)
  refine VO.read rfl [.int .i64 (x : Int)] rfl (read1 rfl hcx) (wV rfl ?_)
  (repeat first|refine wN ?_|refine wP rfl ?_|refine cx_r rfl ?_|refine cx_d rfl ?_|refine wO rfl rfl ?_)
  refine VO.app (cx_ok _ _) (t := 135) (e := 3) (sz := 1) (n := 1) (c := 1) (mm := 0) (known := iv [x]) (spare := []) (news := []) (dst := 27) (del := some 24) rfl rfl rfl rfl rfl rfl rfl rfl (Nat.le_of_ble_eq_true rfl) rfl (.inr ⟨24, rfl, rfl, rfl⟩) (.inl rfl) rfl rfl (by omega) (by omega) ⟨rfl, rfl, rfl⟩ ⟨rfl, rfl, rfl⟩ rfl (by omega)
   (fun w1 β k1 bw ho => ⟨_, _, rfl, .inl rfl⟩)
   (fun w2 cap' spare' ρ k2 b2 hρ hc1 hc2 hlen hok hlid => VO.fixH 12 rfl (fgl_iv 24 ρ _) (wV rfl ?_))
  have hcells : (iv [x] ++ []) ++ spare' = iv [x] ++ spare' := rfl
  refine VO.callV rfl (fk Tryz.func131) (fun w1 β k1 bw ho => (cut03_any (some ⟨β 27, 0, none⟩) (1 + 0) cap' [x] w1 (ownV_rd (ho.own 27 (.base (List.mem_singleton.2 rfl)) _ _ rfl) hXL hc1 (by simpa [maxLen] using hc2)) hXH).mono ?_)
  rintro e w3 ⟨⟨m', hm', rfl, hcut⟩, rfl⟩
  rw [hXS] at hcut
  have hm'l : m' = (halves V).length := by rw [hcut, List.length_take]; omega
  have hrd : ∀ {C : Cx} {β : Nat → Nat} {w : World}, OwnV C β w 27 3 (iv [x] ++ spare') → Rd w 1 (.slice (some ⟨β 27, 0, none⟩) m' cap') m' (ints .i64 (halves V)) := fun h => by
   have := Rd.takeI (ownV_rd h hXL hc1 (by simpa [maxLen] using hc2)) hm'
   rwa [← hcut] at this
  refine ⟨.row 27 0 m' cap', rfl, fun i hi => ⟨hi, by cases List.mem_singleton.1 hi; exact Option.some_ne_none _⟩, Beh.refl _, fun k3 _ b3 => wV rfl ?_⟩
  (repeat first|refine wN ?_|refine wP rfl ?_|refine cx_r rfl ?_|refine cx_d rfl ?_|refine wO rfl rfl ?_)
  refine VO.callF rfl (fk Tryz.func132) (fun w1 β k1 bw ho => (often03_any _ _ m' m V B w1 (hrd (ho.own 27 (.base (List.mem_append_left _ (List.mem_singleton.2 rfl))) _ _ rfl)) (hs.below bw) s2 (by omega)).mono ?_)
  rintro e w4 ⟨rfl, hb4⟩
  refine ⟨_, rfl, hb4, fun k4 _ b4 => wV rfl ?_⟩
  refine VO.cond rfl ⟨by omega, by omega⟩ (wV rfl ?_)
  refine VO.cond rfl (by show 0 + (j : Int).toNat * 1 + 1 ≤ _; rw [Int.toNat_natCast, iv_length]; omega) (wV rfl ?_)
  refine wN ?_
  refine VS.narrow [(0, .val (.slice (some ⟨b1, o1, none⟩) n c)), (1, .val (.slice q m d)), (6, .row 12 0 n n), (7, .row 27 0 m' cap'), (8, .val (.int .i64 (j : Int)))] [(12, (3, iv (List.replicate j 0 ++ (V / B) :: qs))), (27, (3, iv [x] ++ spare'))] ?_ ?_ rfl ?_ ?_
  ·(repeat first|exact trivial|refine ⟨rfl, ?_⟩)
  ·exact ⟨congrArg (fun l => some (_, l)) ((iv_poke (j := j) (x := V / B) (by rw [hz]; omega) (by rw [Int.toNat_natCast]; omega)).trans (by rw [set_rep_mid])), rfl, trivial⟩
  ·exact ⟨.none (iv_lids _), .append (.none (iv_lids _)) (.none hlid), trivial⟩
  (repeat first|refine wN ?_|refine wP rfl ?_|refine cx_r rfl ?_|refine cx_d rfl ?_|refine wO rfl rfl ?_)
  refine VO.cond rfl ⟨by omega, by omega⟩ (wV rfl ?_)
  refine VO.peek rfl [.val (.int .i64 ((V / B : Nat) : Int))] rfl (iv_peek0 (j := j) (by rw [List.getElem?_append_right (by simp)]; simp) (by rw [Int.toNat_natCast]; omega)) (wV rfl ?_)
  have hw1 : IntKind.i64.wrap ((j : Int) - 1) = (j : Int) - 1 := IntWalk.i64_in _ (by omega)
  refine VO.callN (dst := 41) (n := (halves (V - V / B * B)).length) (t := 3) (sz := 1) (xs := ints .i64 (halves (V - V / B * B))) rfl rfl rfl (Nat.le_of_ble_eq_true rfl) (by show 1 ≤ 2; omega) rfl (fun w1 β k1 bw ho => ⟨(fk Tryz.func133), (take03_any _ _ m' m (V / B) V B w1 (hrd (ho.own 27 (.base (List.mem_append_left _ (List.mem_singleton.2 rfl))) _ _ rfl)) (hs.below bw) s4 (Nat.div_mul_le_self _ _) (by omega)).mono ?_⟩)
  rintro e w5 ⟨v5, rfl, hrow5, hb5⟩
  refine ⟨v5, rfl, hb5, hrow5.new, fun _ _ _ hv5 => wV rfl ?_, fun c5 sp5 _ _ _ hv5 hok5 hl5 hc5 hln => wV rfl ?_⟩
  ·have hnil : halves (V - V / B * B) = [] := by
    subst hv5
    obtain ⟨e1, ⟨_, e2⟩ | ⟨_, _, _, e2, _⟩⟩ := hrow5
    ·exact List.eq_nil_of_length_eq_zero e2
    ·cases e2
   (repeat first|refine wN ?_|refine wP rfl ?_|refine cx_r rfl ?_|refine cx_d rfl ?_|refine wO rfl rfl ?_)
   refine VS.back j (by omega) ⟨_, _, ?_, ?_, ?_, ?_, ⟨j, V - V / B * B, (V / B) :: qs, .val (.slice none 0 0), [], by omega, rfl, rfl, rfl, .inl ⟨hnil, rfl, rfl⟩, by simp; omega, Dig.cons s4 hqh, s3, s1⟩⟩
   ·exact ⟨rfl, rfl, rfl, rfl, congrArg (fun z => some (AV.val (.int .i64 z))) hw1, trivial⟩
   ·exact ⟨rfl, trivial⟩
   ·rfl
   ·exact ⟨.none (iv_lids _), trivial⟩
  ·have hln' : (halves (V - V / B * B)).length + sp5.length = c5 := by simpa using hln
   (repeat first|refine wN ?_|refine wP rfl ?_|refine cx_r rfl ?_|refine cx_d rfl ?_|refine wO rfl rfl ?_)
   refine VS.back j (by omega) ⟨_, _, ?_, ?_, ?_, ?_, ⟨j, V - V / B * B, (V / B) :: qs, .row 41 0 _ c5, _, by omega, rfl, rfl, rfl, .inr ⟨c5, sp5.map .val, rfl, rfl, hl5, hc5, by simpa using hln', vals_ok hok5, lidsOf_vals _⟩, by simp; omega, Dig.cons s4 hqh, s3, s1⟩⟩
   ·exact ⟨rfl, rfl, rfl, rfl, congrArg (fun z => some (AV.val (.int .i64 z))) hw1, trivial⟩
   ·exact ⟨rfl, congrArg (fun l => some (_, l)) (List.map_append), trivial⟩
   ·rfl
   ·exact ⟨.none (iv_lids _), .append (.none (iv_lids _)) (.none (lidsOf_vals _)), trivial⟩
 ·subst hk0
  (repeat first|refine wN ?_|refine wP rfl ?_|refine cx_r rfl ?_|refine cx_d rfl ?_|refine wO rfl rfl ?_)
  refine VO.callV rfl (fk Tryz.func131) (fun w1 β k1 bw ho => (cut03_any (some ⟨β 12, 0, none⟩) n n qs w1 (ownV_rd (spare := []) (by rw [List.append_nil]; exact ho.own 12 (.base (List.mem_singleton.2 rfl)) _ _ rfl) (by simpa using hz) (Nat.le_refl _) (by simp only [maxLen]; omega)) hqh).mono ?_)
  rintro e w2 ⟨⟨mm, hmm, rfl, hcut⟩, rfl⟩
  refine ⟨.row 12 0 mm n, rfl, fun i hi => ⟨hi, by cases List.mem_singleton.1 hi; exact Option.some_ne_none _⟩, Beh.refl _, fun k2 _ b2 => wV rfl ?_⟩
  (repeat first|refine wN ?_|refine wP rfl ?_|refine cx_r rfl ?_|refine cx_d rfl ?_|refine wO rfl rfl ?_)
  refine VS.retA (cx_ok _ _) rfl (fun wz β kz bz he => ?_)
  have hq0 : qs.length = n := by simpa using hz
  have hml := cut_row hcut hmm hq0
  rw [List.drop_zero, hval_halves] at hv
  have hA : A / B = hval qs := by rw [← hv, Nat.add_comm, Nat.add_mul_div_right _ _ hB, Nat.div_eq_of_lt hRB, Nat.zero_add]
  have hM : A % B = R := by rw [← hv, Nat.add_comm, Nat.add_mul_mod_self_right, Nat.mod_eq_of_lt hRB]
  rw [← hA] at hcut hml
  have e12 := ownV_row (spare := []) (by rw [List.append_nil]; exact he.own 12 _ _ rfl) hq0 hmm (Nat.le_refl _) (by simp only [maxLen]; omega) (by simpa using hq0)
  rw [← hcut] at e12
  have e41 := ownV_row (he.own 41 _ _ rfl) rfl (Nat.le_refl _) g1 (by simpa [maxLen] using g2) g3
  rw [List.take_length] at e41
  refine ⟨.slice (some ⟨β 12, 0, none⟩) mm n, .slice (some ⟨β 41, 0, none⟩) (halves R).length cap, rfl, by rw [← hml]; exact e12, ?_, bz⟩
  rw [hM]; exact e41
 ·obtain ⟨j, rfl⟩ : ∃ j, k = j + 1 := ⟨k - 1, by omega⟩
  have hj : ((j + 1 : Nat) : Int) - 1 = (j : Int) := by omega
  obtain ⟨b1, o1, x, rfl, hb1, hxk, hcx⟩ := hr.cellAt (show j < n by omega)
  have hx4 := (halves_half A).at hxk
  obtain ⟨V, hV⟩ : ∃ V, V = x + 65536 * R := ⟨_, rfl⟩
  obtain ⟨s1, s2, s3, s4⟩ := parts_step hxk hRB hV hv
  have hRl : (halves R).length ≤ m := by rw [← hyl]; exact digs_len_mono (by omega) (by omega)
  have hXS : hval (x :: halves R) = V := by rw [hV]; show x + 65536 * hval (halves R) = _; rw [hval_halves]
  have hXH : Half (x :: halves R) := Dig.cons hx4 (halves_half R)
  have hXL : (x :: halves R).length = (1 + (halves R).length) := by simp; omega
  refine VS.fix 8 rfl (congrArg (fun z => AV.val (.int .i64 z)) hj) ?_
  (repeat first|refine wN ?_|refine wP rfl ?_|refine cx_r rfl ?_|refine cx_d rfl ?_|refine wO rfl rfl ?_)
  refine VO.cond rfl ⟨by omega, by omega⟩ (wV rfl ?_)
  refine VO.read rfl [.int .i64 (x : Int)] rfl (read1 rfl hcx) (wV rfl ?_)
  (repeat first|refine wN ?_|refine wP rfl ?_|refine cx_r rfl ?_|refine cx_d rfl ?_|refine wO rfl rfl ?_)
  refine VO.app (cx_ok _ _) (t := 135) (e := 3) (sz := 1) (n := 1) (c := 1) (mm := (halves R).length) (known := iv [x]) (spare := []) (news := iv (halves R)) (dst := 27) (del := some 24) rfl rfl rfl rfl rfl rfl rfl rfl (Nat.le_of_ble_eq_true rfl) rfl (.inr ⟨24, rfl, rfl, rfl⟩) (.inl rfl) rfl rfl (by omega) (by omega) ⟨rfl, rfl, iv_lids _⟩ ⟨rfl, rfl, iv_ok _⟩ (by rw [iv_length]; omega) (by omega)
   (fun w1 β k1 bw ho => ⟨_, _, rfl, .inr ⟨β 41, 0, rfl, own_src (rest := spare) (ho.own 41 (.base (List.mem_append_right _ (List.mem_singleton.2 rfl))) _ _ rfl) rfl⟩⟩)
   (fun w2 cap' spare' ρ k2 b2 hρ hc1 hc2 hlen hok hlid => VO.fixH 12 rfl (fgl_iv 24 ρ _) (wV rfl ?_))
  have hcells : (iv [x] ++ iv (halves R)) ++ spare' = iv (x :: halves R) ++ spare' := rfl
  refine VO.callV rfl (fk Tryz.func131) (fun w1 β k1 bw ho => (cut03_any (some ⟨β 27, 0, none⟩) (1 + (halves R).length) cap' (x :: halves R) w1 (ownV_rd (ho.own 27 (.base (List.mem_singleton.2 rfl)) _ _ rfl) hXL hc1 (by simpa [maxLen] using hc2)) hXH).mono ?_)
  rintro e w3 ⟨⟨m', hm', rfl, hcut⟩, rfl⟩
  rw [hXS] at hcut
  have hm'l : m' = (halves V).length := by rw [hcut, List.length_take]; omega
  have hrd : ∀ {C : Cx} {β : Nat → Nat} {w : World}, OwnV C β w 27 3 (iv (x :: halves R) ++ spare') → Rd w 1 (.slice (some ⟨β 27, 0, none⟩) m' cap') m' (ints .i64 (halves V)) := fun h => by
   have := Rd.takeI (ownV_rd h hXL hc1 (by simpa [maxLen] using hc2)) hm'
   rwa [← hcut] at this
  refine ⟨.row 27 0 m' cap', rfl, fun i hi => ⟨hi, by cases List.mem_singleton.1 hi; exact Option.some_ne_none _⟩, Beh.refl _, fun k3 _ b3 => wV rfl ?_⟩
  (repeat first|refine wN ?_|refine wP rfl ?_|refine cx_r rfl ?_|refine cx_d rfl ?_|refine wO rfl rfl ?_)
  refine VO.callF rfl (fk Tryz.func132) (fun w1 β k1 bw ho => (often03_any _ _ m' m V B w1 (hrd (ho.own 27 (.base (List.mem_append_left _ (List.mem_singleton.2 rfl))) _ _ rfl)) (hs.below bw) s2 (by omega)).mono ?_)
  rintro e w4 ⟨rfl, hb4⟩
  refine ⟨_, rfl, hb4, fun k4 _ b4 => wV rfl ?_⟩
  refine VO.cond rfl ⟨by omega, by omega⟩ (wV rfl ?_)
  refine VO.cond rfl (by show 0 + (j : Int).toNat * 1 + 1 ≤ _; rw [Int.toNat_natCast, iv_length]; omega) (wV rfl ?_)
  refine wN ?_
  refine VS.narrow [(0, .val (.slice (some ⟨b1, o1, none⟩) n c)), (1, .val (.slice q m d)), (6, .row 12 0 n n), (7, .row 27 0 m' cap'), (8, .val (.int .i64 (j : Int)))] [(12, (3, iv (List.replicate j 0 ++ (V / B) :: qs))), (27, (3, iv (x :: halves R) ++ spare'))] ?_ ?_ rfl ?_ ?_
  ·(repeat first|exact trivial|refine ⟨rfl, ?_⟩)
  ·exact ⟨congrArg (fun l => some (_, l)) ((iv_poke (j := j) (x := V / B) (by rw [hz]; omega) (by rw [Int.toNat_natCast]; omega)).trans (by rw [set_rep_mid])), rfl, trivial⟩
  ·exact ⟨.none (iv_lids _), .append (.none (iv_lids _)) (.none hlid), trivial⟩
  (repeat first|refine wN ?_|refine wP rfl ?_|refine cx_r rfl ?_|refine cx_d rfl ?_|refine wO rfl rfl ?_)
  refine VO.cond rfl ⟨by omega, by omega⟩ (wV rfl ?_)
  refine VO.peek rfl [.val (.int .i64 ((V / B : Nat) : Int))] rfl (iv_peek0 (j := j) (by rw [List.getElem?_append_right (by simp)]; simp) (by rw [Int.toNat_natCast]; omega)) (wV rfl ?_)
  have hw1 : IntKind.i64.wrap ((j : Int) - 1) = (j : Int) - 1 := IntWalk.i64_in _ (by omega)
  refine VO.callN (dst := 41) (n := (halves (V - V / B * B)).length) (t := 3) (sz := 1) (xs := ints .i64 (halves (V - V / B * B))) rfl rfl rfl (Nat.le_of_ble_eq_true rfl) (by show 1 ≤ 2; omega) rfl (fun w1 β k1 bw ho => ⟨(fk Tryz.func133), (take03_any _ _ m' m (V / B) V B w1 (hrd (ho.own 27 (.base (List.mem_append_left _ (List.mem_singleton.2 rfl))) _ _ rfl)) (hs.below bw) s4 (Nat.div_mul_le_self _ _) (by omega)).mono ?_⟩)
  rintro e w5 ⟨v5, rfl, hrow5, hb5⟩
  refine ⟨v5, rfl, hb5, hrow5.new, fun _ _ _ hv5 => wV rfl ?_, fun c5 sp5 _ _ _ hv5 hok5 hl5 hc5 hln => wV rfl ?_⟩
  ·have hnil : halves (V - V / B * B) = [] := by
    subst hv5
    obtain ⟨e1, ⟨_, e2⟩ | ⟨_, _, _, e2, _⟩⟩ := hrow5
    ·exact List.eq_nil_of_length_eq_zero e2
    ·cases e2
   (repeat first|refine wN ?_|refine wP rfl ?_|refine cx_r rfl ?_|refine cx_d rfl ?_|refine wO rfl rfl ?_)
   refine VS.back j (by omega) ⟨_, _, ?_, ?_, ?_, ?_, ⟨j, V - V / B * B, (V / B) :: qs, .val (.slice none 0 0), [], by omega, rfl, rfl, rfl, .inl ⟨hnil, rfl, rfl⟩, by simp; omega, Dig.cons s4 hqh, s3, s1⟩⟩
   ·exact ⟨rfl, rfl, rfl, rfl, congrArg (fun z => some (AV.val (.int .i64 z))) hw1, trivial⟩
   ·exact ⟨rfl, trivial⟩
   ·rfl
   ·exact ⟨.none (iv_lids _), trivial⟩
  ·have hln' : (halves (V - V / B * B)).length + sp5.length = c5 := by simpa using hln
   (repeat first|refine wN ?_|refine wP rfl ?_|refine cx_r rfl ?_|refine cx_d rfl ?_|refine wO rfl rfl ?_)
   refine VS.back j (by omega) ⟨_, _, ?_, ?_, ?_, ?_, ⟨j, V - V / B * B, (V / B) :: qs, .row 41 0 _ c5, _, by omega, rfl, rfl, rfl, .inr ⟨c5, sp5.map .val, rfl, rfl, hl5, hc5, by simpa using hln', vals_ok hok5, lidsOf_vals _⟩, by simp; omega, Dig.cons s4 hqh, s3, s1⟩⟩
   ·exact ⟨rfl, rfl, rfl, rfl, congrArg (fun z => some (AV.val (.int .i64 z))) hw1, trivial⟩
   ·exact ⟨rfl, congrArg (fun l => some (_, l)) (List.map_append), trivial⟩
   ·rfl
   ·exact ⟨.none (iv_lids _), .append (.none (iv_lids _)) (.none (lidsOf_vals _)), trivial⟩
end Go.Proofs.YtofdiijioejljaaGreat
