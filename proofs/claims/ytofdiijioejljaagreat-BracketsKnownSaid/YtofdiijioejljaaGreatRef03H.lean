/- What the reference's number layer computes: Mul, DivMod, Gcd. -/
import Derived.Test.YtofdiijioejljaaGreatRef03G
set_option linter.all false
set_option maxRecDepth 4000
namespace Go.Proofs.YtofdiijioejljaaGreat
open Go.RowKit
attribute [local irreducible] vcOps VS

theorem IntIn.kpI {w w' : World} {v : Value} {X : Int} {j : Nat} (h : IntIn w v X j) (k : KpS KI w w') : IntIn w' v X j := h.kp (U := UU) k.weak
theorem IntRd.kpI {w w' : World} {v : Value} {X : Int} (h : IntRd w v X) (k : KpS KI w w') : IntRd w' v X := h.kp (U := UU) k.weak
theorem IntOwn.kpI {w w' : World} {B : Nat} {v : Value} {X : Int} (h : IntOwn w B v X) (k : KpS KI w w') : IntOwn w' B v X := h.kp k.weak
theorem Rd.kpI {w w' : World} {v : Value} {n : Nat} {xs : List Nat} (h : Rd w 1 v n (ints .u32 xs)) (k : KpS KI w w') : Rd w' 1 v n (ints .u32 xs) := h.kp (U := UU) k.weak
theorem OwnU.kpI {w w' : World} {B n : Nat} {v : Value} {cs : List Value} (h : w.ownsRow B UU 1 v n cs) (k : KpS KI w w') : w'.ownsRow B UU 1 v n cs := Own.kp h k.weak
theorem halves_len2 (a : Nat) : (halves a).length ≤ 2 * (limbs a).length := by
 have := halves_len_nval (limbs_lim a)
 rwa [nval_limbs] at this
theorem halvesI_any (va : Value) (n a : Nat) (w : World) (hr : Rd w 1 va n (ints .u32 (limbs a))) (hn : n ≤ 1073741824) :
  Calls Tryz.prog 114 #[va] w fun e w' => ∃ p c, e = .returned (.slice p (halves a).length c) ∧ w'.ownsRow w.heap.size 3 1 (.slice p (halves a).length c) (halves a).length (ints .i64 (halves a)) ∧ Beh w w' :=
 (halves03_any va n _ w hr (limbs_lim a) hn).mono fun e w' ⟨v', he, ho, hb⟩ => by
  rw [nval_limbs] at ho
  obtain ⟨p, c, rfl, _⟩ := Own.form ho
  exact ⟨p, c, he, ho, hb⟩
theorem limbsI_any (va : Value) (n a : Nat) (w : World) (hr : Rd w 1 va n (ints .i64 (halves a))) (hn : n ≤ 2147483646) :
  Calls Tryz.prog 112 #[va] w fun e w' => ∃ p c xs, e = .returned (.slice p ((n + 1) / 2) c) ∧ w'.ownsRow w.heap.size UU 1 (.slice p ((n + 1) / 2) c) ((n + 1) / 2) (ints .u32 xs) ∧ nval xs = a ∧ Lim xs ∧ Beh w w' :=
 (limbs03_any va n _ w hr (halves_half a) (by omega)).mono fun e w' ⟨v', xs, he, hl, ho, hv, hx, hb⟩ => by
  obtain ⟨p, c, rfl, _⟩ := Own.form ho
  exact ⟨p, c, xs, he, ho, by rw [hv, hval_halves], hx, hb⟩
theorem partsI_any (va vb : Value) (n m A B : Nat) (w : World) (hr : Rd w 1 va n (ints .i64 (halves A))) (hs : Rd w 1 vb m (ints .i64 (halves B))) (hB : 0 < B) (hn : n ≤ 1073741824) (hm : m ≤ 1073741824) :
  Calls Tryz.prog 119 #[va, vb] w fun e w' => ∃ p c q d, e = .returned (.tuple #[.slice p (halves (A / B)).length c, .slice q (halves (A % B)).length d]) ∧ w'.ownsRow w.heap.size 3 1 (.slice p (halves (A / B)).length c) (halves (A / B)).length (ints .i64 (halves (A / B))) ∧ w'.ownsRow w.heap.size 3 1 (.slice q (halves (A % B)).length d) (halves (A % B)).length (ints .i64 (halves (A % B))) ∧ Beh w w' :=
 (parts03_any va vb n m A B w hr hs hB hn hm).mono fun e w' ⟨v, u, he, h1, h2, hb⟩ => by
  obtain ⟨p, c, rfl⟩ := h1.form
  obtain ⟨q, d, rfl⟩ := h2.form
  exact ⟨p, c, q, d, he, h1.own, h2.own, hb⟩
theorem prod_sgn {X Y : Int} {s t : Bool} (hX : X = if s = true then -(X.natAbs : Int) else X.natAbs) (hY : Y = if t = true then -(Y.natAbs : Int) else Y.natAbs) : (if (!(s == t)) = true then -((X.natAbs * Y.natAbs : Nat) : Int) else ((X.natAbs * Y.natAbs : Nat) : Int)) = X * Y := by
 generalize X.natAbs = a at *
 generalize Y.natAbs = b at *
 subst hX hY
 cases s <;> cases t <;> simp [Int.neg_mul, Int.mul_neg]

set_option maxHeartbeats 1000000 in
theorem rmul_any (v u : Value) (X Y : Int) (j k : Nat) (w : World) (hv : IntIn w v X j) (hu : IntIn w u Y k) (hj : j ≤ 268435456) (hk : k ≤ 268435456) :
  Calls Tryz.prog 83 #[v, u] w fun e w' => ∃ r, e = .returned r ∧ IntOwn w' w.heap.size r (X * Y) ∧ Beh w w' := by
 obtain ⟨s, p, n, c, rfl⟩ := hv.form
 obtain ⟨t, q, m, d, rfl⟩ := hu.form
 have hlx := hv.len
 have hly := hu.len
 refine calm_enter (C := cxI Tryz.prog w _) (args := [_, _]) Tryz.func83 rfl Tryz.ntmps83 (Nat.le_of_ble_eq_true rfl) ?_
 (repeat first|refine wN ?_|refine wP rfl ?_|refine cxI_r rfl ?_|refine cxI_d rfl ?_|refine wO rfl rfl ?_)
 refine VO.call rfl rfl (fk Tryz.func109) (fun wa1 ka1 ba1 => (rpl_any _ X j wa1 (hv.kpI ka1)).mono ?_)
 rintro e w1 ⟨r1, rfl, h1, hb1⟩
 obtain ⟨s1, p1, n1, c1, rfl⟩ := h1.form4
 refine ⟨_, rfl, hb1, fun kb1 _ bb1 => wV rfl ?_⟩
 (repeat first|refine wN ?_|refine wP rfl ?_|refine cxI_r rfl ?_|refine cxI_d rfl ?_|refine wO rfl rfl ?_)
 refine VO.call rfl rfl (fk Tryz.func109) (fun wa2 ka2 ba2 => (rpl_any _ Y k wa2 (hu.kpI (kb1.thn ka2))).mono ?_)
 rintro e w2 ⟨r2, rfl, h2, hb2⟩
 obtain ⟨s2, p2, n2, c2, rfl⟩ := h2.form4
 refine ⟨_, rfl, hb2, fun kb2 _ bb2 => wV rfl ?_⟩
 (repeat first|refine wN ?_|refine wP rfl ?_|refine cxI_r rfl ?_|refine cxI_d rfl ?_|refine wO rfl rfl ?_)
 have e1 := sgn_val h1.sgn
 have e2 := sgn_val h2.sgn
 have l1 := halves_len2 X.natAbs
 have l2 := halves_len2 Y.natAbs
 refine VO.call rfl rfl (fk Tryz.func114) (fun wa3 ka3 ba3 => (halvesI_any _ n1 X.natAbs wa3 (h1.row.kpI (ka2.thn ((KpS.of hb2).thn ka3))) (by rw [h1.n]; omega)).mono ?_)
 rintro e w3 ⟨p3, c3, rfl, h3, hb3⟩
 skip
 refine ⟨_, rfl, hb3, fun kb3 _ bb3 => wV rfl ?_⟩
 (repeat first|refine wN ?_|refine wP rfl ?_|refine cxI_r rfl ?_|refine cxI_d rfl ?_|refine wO rfl rfl ?_)
 refine VO.call rfl rfl (fk Tryz.func114) (fun wa4 ka4 ba4 => (halvesI_any _ n2 Y.natAbs wa4 (h2.row.kpI (ka3.thn ((KpS.of hb3).thn ka4))) (by rw [h2.n]; omega)).mono ?_)
 rintro e w4 ⟨p4, c4, rfl, h4, hb4⟩
 skip
 refine ⟨_, rfl, hb4, fun kb4 _ bb4 => wV rfl ?_⟩
 (repeat first|refine wN ?_|refine wP rfl ?_|refine cxI_r rfl ?_|refine cxI_d rfl ?_|refine wO rfl rfl ?_)
 refine VO.call rfl rfl (fk Tryz.func113) (fun wa5 ka5 ba5 => (times03_any _ _ _ _ (halves X.natAbs) (halves Y.natAbs) wa5 (Rd.own (OwnI.kp h3 (ka4.thn ((KpS.of hb4).thn ka5)))) (Rd.own (OwnI.kp h4 ka5)) (halves_half _) (halves_half _) (by omega) (by omega)).mono ?_)
 rintro e w5 ⟨v5, rfl, h5, hb5⟩
 rw [hval_halves, hval_halves] at h5
 obtain ⟨p5, c5, rfl⟩ := h5.form
 have l5 : (halves (X.natAbs * Y.natAbs)).length ≤ 1073741824 := by
  refine Nat.le_trans (halves_len2 _) ?_
  have := Sz.mul (X := X) (Y := Y) hlx hly
  unfold Sz at this
  rw [Int.natAbs_mul] at this
  omega
 refine ⟨_, rfl, hb5, fun kb5 _ bb5 => wV rfl ?_⟩
 (repeat first|refine wN ?_|refine wP rfl ?_|refine cxI_r rfl ?_|refine cxI_d rfl ?_|refine wO rfl rfl ?_)
 refine VO.call rfl rfl (fk Tryz.func112) (fun wa6 ka6 ba6 => (limbsI_any _ _ (X.natAbs * Y.natAbs) wa6 (Rd.own (h5.kpI ka6).own) (by omega)).mono ?_)
 rintro e w6 ⟨p6, c6, xs6, rfl, h6, hx6, hl6, hb6⟩
 skip
 refine ⟨_, rfl, hb6, fun kb6 _ bb6 => wV rfl ?_⟩
 (repeat first|refine wN ?_|refine wP rfl ?_|refine cxI_r rfl ?_|refine cxI_d rfl ?_|refine wO rfl rfl ?_)
 refine VO.call rfl rfl (fk Tryz.func107) (fun wa7 ka7 ba7 => (made_any (!(s1 == s2)) _ _ xs6 wa7 (Rd.own (OwnU.kpI h6 ka7)) hl6 (by omega)).mono ?_)
 rintro e w7 ⟨r7, rfl, h7, hb7⟩
 obtain ⟨s7, p7, n7, c7, rfl⟩ := h7.form
 refine ⟨_, rfl, hb7, fun kb7 _ bb7 => wV rfl ?_⟩
 (repeat first|refine wN ?_|refine wP rfl ?_|refine cxI_r rfl ?_|refine cxI_d rfl ?_|refine wO rfl rfl ?_)
 refine VS.ret (cxI_ok _ _) rfl rfl (fun wz kz bz => ?_)
 refine ⟨_, rfl, IntOwn.cast ((h7.kpI kz).mono ba7.size) ?_, bz⟩
 rw [hx6]
 exact prod_sgn e1 e2

theorem sign_of {s : Bool} {n : Nat} (h : n ≠ 0) : (if s = true then -(n : Int) else n).sign = if s = true then -1 else 1 := by
 cases s
 ·exact sign_pos (by simp; omega)
 ·exact sign_neg (by simp; omega)
theorem div_len {a b : Nat} : (halves (a / b)).length ≤ (halves a).length := digs_len_mono (by omega) (Nat.div_le_self _ _)
theorem mod_len {a b : Nat} : (halves (a % b)).length ≤ (halves a).length := digs_len_mono (by omega) (Nat.mod_le _ _)
theorem rdiv_sz {xs : List Nat} {a : Nat} {s : Bool} (hl : Lim xs) (hv : nval xs = a) : Sz (if s = true then -((nval xs : Nat) : Int) else nval xs) xs.length := by
 unfold Sz
 have : (if s = true then -((nval xs : Nat) : Int) else nval xs).natAbs = nval xs := by cases s <;> simp
 rw [this]
 exact limbs_len_le hl
set_option maxHeartbeats 2000000 in
theorem rdivmod_any (v u : Value) (X Y : Int) (j k : Nat) (w : World) (hv : IntIn w v X j) (hu : IntIn w u Y k) (hj : j ≤ 134217728) (hk : k ≤ 134217728) :
  Calls Tryz.prog 108 #[v, u] w fun e w' => FloorDiv w w' X Y e ∧ Beh w w' := by
 obtain ⟨s, p, n, c, rfl⟩ := hv.form
 obtain ⟨t, q, m, d, rfl⟩ := hu.form
 have hlx := hv.len
 have hly := hu.len
 refine calm_enter (C := cxI Tryz.prog w _) (args := [_, _]) Tryz.func108 rfl Tryz.ntmps108 (Nat.le_of_ble_eq_true rfl) ?_
 (repeat first|refine wN ?_|refine wP rfl ?_|refine cxI_r rfl ?_|refine cxI_d rfl ?_|refine wO rfl rfl ?_)
 refine VO.call rfl rfl (fk Tryz.func109) (fun wa1 ka1 ba1 => (rpl_any _ X j wa1 (hv.kpI ka1)).mono ?_)
 rintro e w1 ⟨r1, rfl, h1, hb1⟩
 obtain ⟨s1, p1, n1, c1, rfl⟩ := h1.form4
 refine ⟨_, rfl, hb1, fun kb1 _ bb1 => wV rfl ?_⟩
 (repeat first|refine wN ?_|refine wP rfl ?_|refine cxI_r rfl ?_|refine cxI_d rfl ?_|refine wO rfl rfl ?_)
 refine VO.call rfl rfl (fk Tryz.func109) (fun wa2 ka2 ba2 => (rpl_any _ Y k wa2 (hu.kpI (kb1.thn ka2))).mono ?_)
 rintro e w2 ⟨r2, rfl, h2, hb2⟩
 obtain ⟨s2, p2, n2, c2, rfl⟩ := h2.form4
 refine ⟨_, rfl, hb2, fun kb2 _ bb2 => wV rfl ?_⟩
 (repeat first|refine wN ?_|refine wP rfl ?_|refine cxI_r rfl ?_|refine cxI_d rfl ?_|refine wO rfl rfl ?_)
 have e1 := sgn_val h1.sgn
 have e2 := sgn_val h2.sgn
 have l1 := halves_len2 X.natAbs
 have l2 := halves_len2 Y.natAbs
 by_cases hY : Y = 0
 ·have hn0 : n2 = 0 := by rw [h2.n, hY]; exact congrArg List.length limbs_zero
  refine VS.condY rfl (by rw [beq_iff_eq]; omega) ?_
  (repeat first|refine wN ?_|refine wP rfl ?_|refine cxI_r rfl ?_|refine cxI_d rfl ?_|refine wO rfl rfl ?_)
  refine VS.ret (cxI_ok _ _) rfl rfl (fun wz kz bz => ?_)
  exact ⟨.inl ⟨hY, _, _, rfl, IntOwn.zero _ _, IntOwn.zero _ _⟩, bz⟩
 ·have hY0 : Y.natAbs ≠ 0 := by omega
  have hn0 : n2 ≠ 0 := by rw [h2.n]; intro e; exact hY0 (limbs_len_zero e)
  refine VS.condN rfl (by rw [beq_eq_false_iff_ne]; omega) ?_
  (repeat first|refine wN ?_|refine wP rfl ?_|refine cxI_r rfl ?_|refine cxI_d rfl ?_|refine wO rfl rfl ?_)
  refine VO.call rfl rfl (fk Tryz.func114) (fun wa3 ka3 ba3 => (halvesI_any _ n1 X.natAbs wa3 (h1.row.kpI (ka2.thn ((KpS.of hb2).thn ka3))) (by rw [h1.n]; omega)).mono ?_)
  rintro e w3 ⟨p3, c3, rfl, h3, hb3⟩
  skip
  refine ⟨_, rfl, hb3, fun kb3 _ bb3 => wV rfl ?_⟩
  (repeat first|refine wN ?_|refine wP rfl ?_|refine cxI_r rfl ?_|refine cxI_d rfl ?_|refine wO rfl rfl ?_)
  refine VO.call rfl rfl (fk Tryz.func114) (fun wa4 ka4 ba4 => (halvesI_any _ n2 Y.natAbs wa4 (h2.row.kpI (ka3.thn ((KpS.of hb3).thn ka4))) (by rw [h2.n]; omega)).mono ?_)
  rintro e w4 ⟨p4, c4, rfl, h4, hb4⟩
  skip
  refine ⟨_, rfl, hb4, fun kb4 _ bb4 => wV rfl ?_⟩
  (repeat first|refine wN ?_|refine wP rfl ?_|refine cxI_r rfl ?_|refine cxI_d rfl ?_|refine wO rfl rfl ?_)
  refine VO.call rfl rfl (fk Tryz.func119) (fun wa5 ka5 ba5 => (partsI_any _ _ _ _ X.natAbs Y.natAbs wa5 (Rd.own (OwnI.kp h3 (ka4.thn ((KpS.of hb4).thn ka5)))) (Rd.own (OwnI.kp h4 ka5)) (by omega) (by omega) (by omega)).mono ?_)
  rintro e w5 ⟨p5, c5, q5, d5, rfl, h5, h5', hb5⟩
  skip
  refine ⟨_, rfl, hb5, fun kb5 _ bb5 => wV rfl ?_⟩
  (repeat first|refine wN ?_|refine wP rfl ?_|refine cxI_r rfl ?_|refine cxI_d rfl ?_|refine wO rfl rfl ?_)
  have l5 : (halves (X.natAbs / Y.natAbs)).length ≤ (halves X.natAbs).length := div_len
  have l5' : (halves (X.natAbs % Y.natAbs)).length ≤ (halves X.natAbs).length := mod_len
  refine VO.call rfl rfl (fk Tryz.func112) (fun wa6 ka6 ba6 => (limbsI_any _ _ (X.natAbs / Y.natAbs) wa6 (Rd.own (OwnI.kp h5 ka6)) (by omega)).mono ?_)
  rintro e w6 ⟨p6, c6, xs6, rfl, h6, hx6, hl6, hb6⟩
  skip
  refine ⟨_, rfl, hb6, fun kb6 _ bb6 => wV rfl ?_⟩
  (repeat first|refine wN ?_|refine wP rfl ?_|refine cxI_r rfl ?_|refine cxI_d rfl ?_|refine wO rfl rfl ?_)
  refine VO.call rfl rfl (fk Tryz.func107) (fun wa7 ka7 ba7 => (made_any (!(s1 == s2)) _ _ xs6 wa7 (Rd.own (OwnU.kpI h6 ka7)) hl6 (by omega)).mono ?_)
  rintro e w7 ⟨r7, rfl, h7, hb7⟩
  obtain ⟨s7, p7, n7, c7, rfl⟩ := h7.form
  refine ⟨_, rfl, hb7, fun kb7 _ bb7 => wV rfl ?_⟩
  (repeat first|refine wN ?_|refine wP rfl ?_|refine cxI_r rfl ?_|refine cxI_d rfl ?_|refine wO rfl rfl ?_)
  refine VO.call rfl rfl (fk Tryz.func112) (fun wa8 ka8 ba8 => (limbsI_any _ _ (X.natAbs % Y.natAbs) wa8 (Rd.own (OwnI.kp h5' (ka6.thn ((KpS.of hb6).thn (ka7.thn ((KpS.of hb7).thn ka8)))))) (by omega)).mono ?_)
  rintro e w8 ⟨p8, c8, xs8, rfl, h8, hx8, hl8, hb8⟩
  skip
  refine ⟨_, rfl, hb8, fun kb8 _ bb8 => wV rfl ?_⟩
  (repeat first|refine wN ?_|refine wP rfl ?_|refine cxI_r rfl ?_|refine cxI_d rfl ?_|refine wO rfl rfl ?_)
  refine VO.call rfl rfl (fk Tryz.func107) (fun wa9 ka9 ba9 => (made_any s1 _ _ xs8 wa9 (Rd.own (OwnU.kpI h8 ka9)) hl8 (by omega)).mono ?_)
  rintro e w9 ⟨r9, rfl, h9, hb9⟩
  obtain ⟨s9, p9, n9, c9, rfl⟩ := h9.form
  refine ⟨_, rfl, hb9, fun kb9 _ bb9 => wV rfl ?_⟩
  (repeat first|refine wN ?_|refine wP rfl ?_|refine cxI_r rfl ?_|refine cxI_d rfl ?_|refine wO rfl rfl ?_)
  have z7 : Sz (if (!(s1 == s2)) = true then -((nval xs6 : Nat) : Int) else nval xs6) xs6.length := rdiv_sz hl6 hx6
  have z9 : Sz (if s1 = true then -((nval xs8 : Nat) : Int) else nval xs8) xs8.length := rdiv_sz hl8 hx8
  have lx6 : xs6.length ≤ 268435457 := by have := h6.1; simp at this; omega
  have lx8 : xs8.length ≤ 268435457 := by have := h8.1; simp at this; omega
  rw [hx6] at h7 z7
  rw [hx8] at h9 z9
  have law := @floor_law X Y X.natAbs Y.natAbs
  by_cases hr0 : X.natAbs % Y.natAbs = 0
  ·have s0 : (if s1 = true then -((X.natAbs % Y.natAbs : Nat) : Int) else ((X.natAbs % Y.natAbs : Nat) : Int)) = 0 := by rw [hr0]; cases s1 <;> rfl
   rw [s0] at h9 z9
   refine VO.call rfl rfl (fk Tryz.func91) (fun wa10 ka10 ba10 => (rsign_any _ 0 _ wa10 ((h9.kpI ka10).in z9) (by omega)).mono ?_)
   rintro e w10 ⟨rfl, hb10⟩
   skip
   refine ⟨_, rfl, hb10, fun kb10 _ bb10 => wV rfl ?_⟩
   (repeat (first | refine wN ?_ | refine wP rfl ?_ | refine cxI_r rfl ?_ | refine wO rfl rfl ?_))
   refine VS.drawA (cxI_ok _ _) (cxI_mixed _ _) 5 rfl ?_
   (repeat' (first | refine VA.go rfl ?_ | refine VA.fin rfl ?_ | refine VA.det _ rfl rfl ?_ | refine VA.cons rfl ?_ ?_ | exact VA.nil rfl))
   all_goals
    (repeat first|refine wN ?_|refine wP rfl ?_|refine cxI_r rfl ?_|refine cxI_d rfl ?_|refine wO rfl rfl ?_)
    refine VS.ret (cxI_ok _ _) rfl rfl (fun wz kz bz => ?_)
    obtain ⟨g1, g2⟩ := law e1 e2 hY0 (.inl ⟨.inr hr0, rfl, rfl⟩)
    refine ⟨.inr ⟨hY, _, _, rfl, IntOwn.cast ((h7.kpI (kb8.thn (kb9.thn (kb10.thn kz)))).mono ba7.size) g1.symm, IntOwn.cast ((h9.kpI (kb10.thn kz)).mono ba9.size) ?_⟩, bz⟩
    rw [g2, hr0]
    cases s2 <;> rfl
  ·have sy := sign_of (s := s2) hY0
   rw [← e2] at sy
   have sr := sign_of (s := s1) hr0
   rcases hs12 : (s1, s2) with ⟨_ | _, _ | _⟩ <;> cases hs12
   ·replace sr : (if false = true then -((X.natAbs % Y.natAbs : Nat) : Int) else ((X.natAbs % Y.natAbs : Nat) : Int)).sign = 1 := sr
    replace sy : Y.sign = 1 := sy
    refine VO.call rfl rfl (fk Tryz.func91) (fun wa10 ka10 ba10 => (rsign_any _ _ _ wa10 ((h9.kpI ka10).in z9) (by omega)).mono ?_)
    rintro e w10 ⟨rfl, hb10⟩
    rw [sr]
    refine ⟨_, rfl, hb10, fun kb10 _ bb10 => wV rfl ?_⟩
    (repeat first|refine wN ?_|refine wP rfl ?_|refine cxI_r rfl ?_|refine cxI_d rfl ?_|refine wO rfl rfl ?_)
    refine VO.call rfl rfl (fk Tryz.func91) (fun wa11 ka11 ba11 => (rsign_any _ _ _ wa11 ((h9.kpI (kb10.thn ka11)).in z9) (by omega)).mono ?_)
    rintro e w11 ⟨rfl, hb11⟩
    rw [sr]
    refine ⟨_, rfl, hb11, fun kb11 _ bb11 => wV rfl ?_⟩
    (repeat first|refine wN ?_|refine wP rfl ?_|refine cxI_r rfl ?_|refine cxI_d rfl ?_|refine wO rfl rfl ?_)
    refine VO.call rfl rfl (fk Tryz.func91) (fun wa12 ka12 ba12 => (rsign_any _ Y k wa12 ((h2.kpI (kb3.thn (kb4.thn (kb5.thn (kb6.thn (kb7.thn (kb8.thn (kb9.thn (kb10.thn (kb11.thn ka12)))))))))).to hly) (by omega)).mono ?_)
    rintro e w12 ⟨rfl, hb12⟩
    rw [sy]
    refine ⟨_, rfl, hb12, fun kb12 _ bb12 => wV rfl ?_⟩
    (repeat (first | refine wN ?_ | refine wP rfl ?_ | refine cxI_r rfl ?_ | refine wO rfl rfl ?_))
    refine VS.drawA (cxI_ok _ _) (cxI_mixed _ _) 5 rfl ?_
    (repeat' (first | refine VA.go rfl ?_ | refine VA.fin rfl ?_ | refine VA.det _ rfl rfl ?_ | refine VA.cons rfl ?_ ?_ | exact VA.nil rfl))
    all_goals
     (repeat first|refine wN ?_|refine wP rfl ?_|refine cxI_r rfl ?_|refine cxI_d rfl ?_|refine wO rfl rfl ?_)
     refine VS.ret (cxI_ok _ _) rfl rfl (fun wz kz bz => ?_)
     obtain ⟨g1, g2⟩ := law e1 e2 hY0 (.inl ⟨.inl rfl, rfl, rfl⟩)
     exact ⟨.inr ⟨hY, _, _, rfl, IntOwn.cast ((h7.kpI (kb8.thn (kb9.thn (kb10.thn (kb11.thn (kb12.thn kz)))))).mono ba7.size) g1.symm, IntOwn.cast ((h9.kpI (kb10.thn (kb11.thn (kb12.thn kz)))).mono ba9.size) g2.symm⟩, bz⟩
   ·replace sr : (if false = true then -((X.natAbs % Y.natAbs : Nat) : Int) else ((X.natAbs % Y.natAbs : Nat) : Int)).sign = 1 := sr
    replace sy : Y.sign = -1 := sy
    refine VO.call rfl rfl (fk Tryz.func91) (fun wa10 ka10 ba10 => (rsign_any _ _ _ wa10 ((h9.kpI ka10).in z9) (by omega)).mono ?_)
    rintro e w10 ⟨rfl, hb10⟩
    rw [sr]
    refine ⟨_, rfl, hb10, fun kb10 _ bb10 => wV rfl ?_⟩
    (repeat first|refine wN ?_|refine wP rfl ?_|refine cxI_r rfl ?_|refine cxI_d rfl ?_|refine wO rfl rfl ?_)
    refine VO.call rfl rfl (fk Tryz.func91) (fun wa11 ka11 ba11 => (rsign_any _ _ _ wa11 ((h9.kpI (kb10.thn ka11)).in z9) (by omega)).mono ?_)
    rintro e w11 ⟨rfl, hb11⟩
    rw [sr]
    refine ⟨_, rfl, hb11, fun kb11 _ bb11 => wV rfl ?_⟩
    (repeat first|refine wN ?_|refine wP rfl ?_|refine cxI_r rfl ?_|refine cxI_d rfl ?_|refine wO rfl rfl ?_)
    refine VO.call rfl rfl (fk Tryz.func91) (fun wa12 ka12 ba12 => (rsign_any _ Y k wa12 ((h2.kpI (kb3.thn (kb4.thn (kb5.thn (kb6.thn (kb7.thn (kb8.thn (kb9.thn (kb10.thn (kb11.thn ka12)))))))))).to hly) (by omega)).mono ?_)
    rintro e w12 ⟨rfl, hb12⟩
    rw [sy]
    refine ⟨_, rfl, hb12, fun kb12 _ bb12 => wV rfl ?_⟩
    (repeat first|refine wN ?_|refine wP rfl ?_|refine cxI_r rfl ?_|refine cxI_d rfl ?_|refine wO rfl rfl ?_)
    refine VO.call rfl rfl (fk Tryz.func79) (fun wa13 ka13 ba13 => (rOf_any 1 wa13 (by omega) (by omega)).mono ?_)
    rintro e w13 ⟨r13, rfl, h13, hb13⟩
    obtain ⟨s13, p13, n13, c13, rfl⟩ := h13.form
    refine ⟨_, rfl, hb13, fun kb13 _ bb13 => wV rfl ?_⟩
    (repeat first|refine wN ?_|refine wP rfl ?_|refine cxI_r rfl ?_|refine cxI_d rfl ?_|refine wO rfl rfl ?_)
    refine VO.call rfl rfl (fk Tryz.func51) (fun wa14 ka14 ba14 => (rsub_any _ _ _ 1 _ 1 wa14 (((h7.kpI (kb8.thn (kb9.thn (kb10.thn (kb11.thn (kb12.thn (kb13.thn ka14))))))).in z7)) ((h13.kpI ka14).in (Sz.small (by decide))) (by omega) (by omega)).mono ?_)
    rintro e w14 ⟨r14, rfl, h14, hb14⟩
    obtain ⟨s14, p14, n14, c14, rfl⟩ := h14.form
    refine ⟨_, rfl, hb14, fun kb14 _ bb14 => wV rfl ?_⟩
    (repeat first|refine wN ?_|refine wP rfl ?_|refine cxI_r rfl ?_|refine cxI_d rfl ?_|refine wO rfl rfl ?_)
    refine VO.call rfl rfl (fk Tryz.func82) (fun wa15 ka15 ba15 => (radd_any _ _ _ Y _ k wa15 ((h9.kpI (kb10.thn (kb11.thn (kb12.thn (kb13.thn (kb14.thn ka15)))))).in z9) ((h2.kpI (kb3.thn (kb4.thn (kb5.thn (kb6.thn (kb7.thn (kb8.thn (kb9.thn (kb10.thn (kb11.thn (kb12.thn (kb13.thn (kb14.thn ka15))))))))))))).to hly) (by omega) (by omega)).mono ?_)
    rintro e w15 ⟨r15, rfl, h15, hb15⟩
    obtain ⟨s15, p15, n15, c15, rfl⟩ := h15.form
    refine ⟨_, rfl, hb15, fun kb15 _ bb15 => wV rfl ?_⟩
    (repeat (first | refine wN ?_ | refine wP rfl ?_ | refine cxI_r rfl ?_ | refine wO rfl rfl ?_))
    refine VS.drawA (cxI_ok _ _) (cxI_mixed _ _) 5 rfl ?_
    (repeat' (first | refine VA.go rfl ?_ | refine VA.fin rfl ?_ | refine VA.det _ rfl rfl ?_ | refine VA.cons rfl ?_ ?_ | exact VA.nil rfl))
    all_goals
     (repeat first|refine wN ?_|refine wP rfl ?_|refine cxI_r rfl ?_|refine cxI_d rfl ?_|refine wO rfl rfl ?_)
     refine VS.ret (cxI_ok _ _) rfl rfl (fun wz kz bz => ?_)
     have hlt := Nat.mod_lt X.natAbs (show 0 < Y.natAbs by omega)
     obtain ⟨g1, g2⟩ := law e1 e2 hY0 (.inr ⟨by simp, hr0, rfl, rfl⟩)
     refine ⟨.inr ⟨hY, _, _, rfl, IntOwn.cast ((h14.kpI (kb15.thn kz)).mono ba14.size) ?_, IntOwn.cast ((h15.kpI kz).mono ba15.size) ?_⟩, bz⟩
     ·rw [g1]; simp; omega
     ·rw [g2]; simp at e1 e2 ⊢; omega
   ·replace sr : (if true = true then -((X.natAbs % Y.natAbs : Nat) : Int) else ((X.natAbs % Y.natAbs : Nat) : Int)).sign = -1 := sr
    replace sy : Y.sign = 1 := sy
    refine VO.call rfl rfl (fk Tryz.func91) (fun wa10 ka10 ba10 => (rsign_any _ _ _ wa10 ((h9.kpI ka10).in z9) (by omega)).mono ?_)
    rintro e w10 ⟨rfl, hb10⟩
    rw [sr]
    refine ⟨_, rfl, hb10, fun kb10 _ bb10 => wV rfl ?_⟩
    (repeat first|refine wN ?_|refine wP rfl ?_|refine cxI_r rfl ?_|refine cxI_d rfl ?_|refine wO rfl rfl ?_)
    refine VO.call rfl rfl (fk Tryz.func91) (fun wa11 ka11 ba11 => (rsign_any _ _ _ wa11 ((h9.kpI (kb10.thn ka11)).in z9) (by omega)).mono ?_)
    rintro e w11 ⟨rfl, hb11⟩
    rw [sr]
    refine ⟨_, rfl, hb11, fun kb11 _ bb11 => wV rfl ?_⟩
    (repeat first|refine wN ?_|refine wP rfl ?_|refine cxI_r rfl ?_|refine cxI_d rfl ?_|refine wO rfl rfl ?_)
    refine VO.call rfl rfl (fk Tryz.func91) (fun wa12 ka12 ba12 => (rsign_any _ Y k wa12 ((h2.kpI (kb3.thn (kb4.thn (kb5.thn (kb6.thn (kb7.thn (kb8.thn (kb9.thn (kb10.thn (kb11.thn ka12)))))))))).to hly) (by omega)).mono ?_)
    rintro e w12 ⟨rfl, hb12⟩
    rw [sy]
    refine ⟨_, rfl, hb12, fun kb12 _ bb12 => wV rfl ?_⟩
    (repeat first|refine wN ?_|refine wP rfl ?_|refine cxI_r rfl ?_|refine cxI_d rfl ?_|refine wO rfl rfl ?_)
    refine VO.call rfl rfl (fk Tryz.func79) (fun wa13 ka13 ba13 => (rOf_any 1 wa13 (by omega) (by omega)).mono ?_)
    rintro e w13 ⟨r13, rfl, h13, hb13⟩
    obtain ⟨s13, p13, n13, c13, rfl⟩ := h13.form
    refine ⟨_, rfl, hb13, fun kb13 _ bb13 => wV rfl ?_⟩
    (repeat first|refine wN ?_|refine wP rfl ?_|refine cxI_r rfl ?_|refine cxI_d rfl ?_|refine wO rfl rfl ?_)
    refine VO.call rfl rfl (fk Tryz.func51) (fun wa14 ka14 ba14 => (rsub_any _ _ _ 1 _ 1 wa14 (((h7.kpI (kb8.thn (kb9.thn (kb10.thn (kb11.thn (kb12.thn (kb13.thn ka14))))))).in z7)) ((h13.kpI ka14).in (Sz.small (by decide))) (by omega) (by omega)).mono ?_)
    rintro e w14 ⟨r14, rfl, h14, hb14⟩
    obtain ⟨s14, p14, n14, c14, rfl⟩ := h14.form
    refine ⟨_, rfl, hb14, fun kb14 _ bb14 => wV rfl ?_⟩
    (repeat first|refine wN ?_|refine wP rfl ?_|refine cxI_r rfl ?_|refine cxI_d rfl ?_|refine wO rfl rfl ?_)
    refine VO.call rfl rfl (fk Tryz.func82) (fun wa15 ka15 ba15 => (radd_any _ _ _ Y _ k wa15 ((h9.kpI (kb10.thn (kb11.thn (kb12.thn (kb13.thn (kb14.thn ka15)))))).in z9) ((h2.kpI (kb3.thn (kb4.thn (kb5.thn (kb6.thn (kb7.thn (kb8.thn (kb9.thn (kb10.thn (kb11.thn (kb12.thn (kb13.thn (kb14.thn ka15))))))))))))).to hly) (by omega) (by omega)).mono ?_)
    rintro e w15 ⟨r15, rfl, h15, hb15⟩
    obtain ⟨s15, p15, n15, c15, rfl⟩ := h15.form
    refine ⟨_, rfl, hb15, fun kb15 _ bb15 => wV rfl ?_⟩
    (repeat (first | refine wN ?_ | refine wP rfl ?_ | refine cxI_r rfl ?_ | refine wO rfl rfl ?_))
    refine VS.drawA (cxI_ok _ _) (cxI_mixed _ _) 5 rfl ?_
    (repeat' (first | refine VA.go rfl ?_ | refine VA.fin rfl ?_ | refine VA.det _ rfl rfl ?_ | refine VA.cons rfl ?_ ?_ | exact VA.nil rfl))
    all_goals
     (repeat first|refine wN ?_|refine wP rfl ?_|refine cxI_r rfl ?_|refine cxI_d rfl ?_|refine wO rfl rfl ?_)
     refine VS.ret (cxI_ok _ _) rfl rfl (fun wz kz bz => ?_)
     have hlt := Nat.mod_lt X.natAbs (show 0 < Y.natAbs by omega)
     obtain ⟨g1, g2⟩ := law e1 e2 hY0 (.inr ⟨by simp, hr0, rfl, rfl⟩)
     refine ⟨.inr ⟨hY, _, _, rfl, IntOwn.cast ((h14.kpI (kb15.thn kz)).mono ba14.size) ?_, IntOwn.cast ((h15.kpI kz).mono ba15.size) ?_⟩, bz⟩
     ·rw [g1]; simp; omega
     ·rw [g2]; simp at e1 e2 ⊢; omega
   ·replace sr : (if true = true then -((X.natAbs % Y.natAbs : Nat) : Int) else ((X.natAbs % Y.natAbs : Nat) : Int)).sign = -1 := sr
    replace sy : Y.sign = -1 := sy
    refine VO.call rfl rfl (fk Tryz.func91) (fun wa10 ka10 ba10 => (rsign_any _ _ _ wa10 ((h9.kpI ka10).in z9) (by omega)).mono ?_)
    rintro e w10 ⟨rfl, hb10⟩
    rw [sr]
    refine ⟨_, rfl, hb10, fun kb10 _ bb10 => wV rfl ?_⟩
    (repeat first|refine wN ?_|refine wP rfl ?_|refine cxI_r rfl ?_|refine cxI_d rfl ?_|refine wO rfl rfl ?_)
    refine VO.call rfl rfl (fk Tryz.func91) (fun wa11 ka11 ba11 => (rsign_any _ _ _ wa11 ((h9.kpI (kb10.thn ka11)).in z9) (by omega)).mono ?_)
    rintro e w11 ⟨rfl, hb11⟩
    rw [sr]
    refine ⟨_, rfl, hb11, fun kb11 _ bb11 => wV rfl ?_⟩
    (repeat first|refine wN ?_|refine wP rfl ?_|refine cxI_r rfl ?_|refine cxI_d rfl ?_|refine wO rfl rfl ?_)
    refine VO.call rfl rfl (fk Tryz.func91) (fun wa12 ka12 ba12 => (rsign_any _ Y k wa12 ((h2.kpI (kb3.thn (kb4.thn (kb5.thn (kb6.thn (kb7.thn (kb8.thn (kb9.thn (kb10.thn (kb11.thn ka12)))))))))).to hly) (by omega)).mono ?_)
    rintro e w12 ⟨rfl, hb12⟩
    rw [sy]
    refine ⟨_, rfl, hb12, fun kb12 _ bb12 => wV rfl ?_⟩
    (repeat (first | refine wN ?_ | refine wP rfl ?_ | refine cxI_r rfl ?_ | refine wO rfl rfl ?_))
    refine VS.drawA (cxI_ok _ _) (cxI_mixed _ _) 5 rfl ?_
    (repeat' (first | refine VA.go rfl ?_ | refine VA.fin rfl ?_ | refine VA.det _ rfl rfl ?_ | refine VA.cons rfl ?_ ?_ | exact VA.nil rfl))
    all_goals
     (repeat first|refine wN ?_|refine wP rfl ?_|refine cxI_r rfl ?_|refine cxI_d rfl ?_|refine wO rfl rfl ?_)
     refine VS.ret (cxI_ok _ _) rfl rfl (fun wz kz bz => ?_)
     obtain ⟨g1, g2⟩ := law e1 e2 hY0 (.inl ⟨.inl rfl, rfl, rfl⟩)
     exact ⟨.inr ⟨hY, _, _, rfl, IntOwn.cast ((h7.kpI (kb8.thn (kb9.thn (kb10.thn (kb11.thn (kb12.thn kz)))))).mono ba7.size) g1.symm, IntOwn.cast ((h9.kpI (kb10.thn (kb11.thn (kb12.thn kz)))).mono ba9.size) g2.symm⟩, bz⟩
end Go.Proofs.YtofdiijioejljaaGreat
