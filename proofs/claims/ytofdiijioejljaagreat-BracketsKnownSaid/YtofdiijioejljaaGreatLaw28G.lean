/- BracketsGrow: what this statement's function answers. (Printed by gen28g.py.) -/
import Derived.Test.YtofdiijioejljaaGreatLaw28Q
import Derived.Test.YtofdiijioejljaaGreatDrawTwo
set_option linter.all false
set_option maxRecDepth 4000
namespace Go.Proofs.YtofdiijioejljaaGreat
open Go.RowKit
attribute [local irreducible] vcOps VS

theorem rmax2 (x f : Rat) : rbest rmore x [f] = if x < f then f else x := by
 show (if rmore f x = true then f else x) = _
 by_cases h : x < f
 ·rw [if_pos (rmore_iff.2 h), if_pos h]
 ·rw [if_neg (fun e => h (rmore_iff.1 e)), if_neg h]
theorem max0_ge (a : Rat) : 0 ≤ rbest rmore ((0 : Int) : Rat) [a] := by rw [rmax2]; split <;> grind
theorem max0_mono {a b : Rat} (h : a ≤ b) : rbest rmore ((0 : Int) : Rat) [a] ≤ rbest rmore ((0 : Int) : Rat) [b] := by
 rw [rmax2, rmax2]; split <;> split <;> grind
theorem right_rate {l : List RBr} (h : bright l = true) : ∀ x ∈ brs l, 0 ≤ x.2 ∧ x.2 ≤ 1 := by
 intro x hx
 obtain ⟨y, hy, rfl⟩ := List.mem_map.1 hx
 obtain ⟨i, hi⟩ := List.mem_iff_getElem?.1 hy
 have := (bright_iff.1 h).2 i (List.getElem?_eq_some_iff.1 hi).1 y hi
 unfold bok at this
 simp only [Bool.and_eq_true, decide_eq_true_iff] at this
 exact this.2.1
theorem right_sum {l : List RBr} (h : bright l = true) {a : Rat} (ha : 0 ≤ a) : bsum a (brs l) = a := by
 have hb := binc_right h
 obtain ⟨h1, h2⟩ := bright_iff.1 h
 cases l with
 | nil => simp at h1
 | cons x r =>
  have h3 := h2 0 h1 x rfl
  unfold bok at h3
  simp only [Bool.and_eq_true] at h3
  have h4 : x.1.q = 0 := of_decide_eq_true h3.2.2
  have hb' : binc (x.br :: brs r) := hb
  show bsum a (x.br :: brs r) = a
  rw [bsum_eq hb']
  show (if x.1.q < a then a - x.1.q else 0) = a
  rw [h4]
  split <;> grind
theorem tax_bounds {l : List RBr} (h : bright l = true) {a : Rat} (ha : 0 ≤ a) : 0 ≤ taxq l a ∧ taxq l a ≤ a := by
 have h1 := btax_bounds (a := a) (right_rate h)
 rw [right_sum h ha] at h1
 unfold taxq
 rw [if_pos h]
 exact h1
theorem tax_grows {l : List RBr} (h : bright l = true) {a b lo hi : Rat} (ha : 0 ≤ a) (hab : a ≤ b) (hl : ∀ (i : Nat) (x : RBr), l[i]? = some x → lo ≤ x.2.q ∧ x.2.q ≤ hi) : lo * (b - a) ≤ taxq l b - taxq l a ∧ taxq l b - taxq l a ≤ hi * (b - a) := by
 have h1 := btax_grow (lo := lo) (hi := hi) hab (l := brs l) (fun x hx => by
  obtain ⟨y, hy, rfl⟩ := List.mem_map.1 hx
  obtain ⟨i, hi⟩ := List.mem_iff_getElem?.1 hy
  exact hl i y hi)
 rw [right_sum h ha, right_sum h (Rat.le_trans ha hab)] at h1
 unfold taxq
 rw [if_pos h]
 constructor <;> grind
theorem cents_near (t : Rat) : ((200 : Int) : Rat) * (Rat.divInt (hf (t * ((100 : Int) : Rat))) 100 - t) ≤ ((1 : Int) : Rat) ∧ ((-1 : Int) : Rat) ≤ ((200 : Int) : Rat) * (Rat.divInt (hf (t * ((100 : Int) : Rat))) 100 - t) := by
 obtain ⟨h1, h2⟩ := hf_near (t * ((100 : Int) : Rat))
 rw [Rat.divInt_eq_div]
 generalize hf (t * ((100 : Int) : Rat)) = n at *
 have e1 : ((200 : Int) : Rat) = 200 := rfl
 have e2 : ((100 : Int) : Rat) = 100 := rfl
 have e3 : ((1 : Int) : Rat) = 1 := rfl
 have e4 : ((-1 : Int) : Rat) = -1 := rfl
 rw [e1, e2, e3, e4]
 rw [e2] at h1 h2
 have e5 : (n : Rat) / 100 = (n : Rat) * (1 / 100) := by grind
 rw [e5]
 constructor <;> grind
theorem cents_rsz {X : Int} {k : Nat} (h : Sz X k) (hk : 1 ≤ k) : RSz (Rat.divInt X 100) (k + 1) := by
 have h1 := (RSz.whole h).div r100 (by unfold up1; omega)
 rw [Rat.divInt_eq_div]
 exact h1.mono (by unfold up1; omega)
theorem ref_add (X Y Z : Int) : ((X - Y) + (Y - Z) - (X - Z)).sign = 0 := by
 rw [show (X - Y) + (Y - Z) - (X - Z) = 0 by omega]; rfl
theorem whole_sz {n : Int} (h : n.natAbs < 4294967296) : RSz ((n : Int) : Rat) 1 := ⟨Sz.small (by rw [Rat.num_intCast]; exact h), Sz.small (by rw [Rat.den_intCast]; decide)⟩
theorem tsz20g {n : Nat} (h : n ≤ 20) : tsz n 4 ≤ 400 := by unfold tsz; omega
set_option maxRecDepth 4000 in
set_option maxHeartbeats 4000000 in
theorem grow28_any (v va vb vc : Value) (l : List RBr) (s t s' t' s'' t'' : Bool) (xs ys xs' ys' xs'' ys'' : List Nat) (kk : Nat) (w : World) (hv : SlIn (BrE kk) 8 w v l) (ha : RatRaw w va s xs t ys) (hb : RatRaw w vb s' xs' t' ys') (hc : RatRaw w vc s'' xs'' t'' ys'') :
  Calls Tryz.prog 5 #[v, va, vb, vc] w fun o w' => o = .returned (.bool true) ∧ Beh w w' := by
 obtain ⟨p, c, rfl, hnc, hcm⟩ := hv.form
 obtain ⟨pa, ca, ya, da, rfl, -⟩ := ha.form'
 obtain ⟨pb, cb, yb, db, rfl, -⟩ := hb.form'
 obtain ⟨pc, cc, yc, dc, rfl, -⟩ := hc.form'
 refine calm_enter (C := cxK Tryz.prog w _) (args := [_, _, _, _]) Tryz.func5 rfl Tryz.ntmps5 (Nat.le_of_ble_eq_true rfl) ?_
 (repeat first|refine wN ?_|refine wP rfl ?_|refine cxK_r rfl ?_|refine cxK_d rfl ?_|refine wO rfl rfl ?_)
 cases hfew : fewB l [(s, xs, t, ys), (s', xs', t', ys'), (s'', xs'', t'', ys'')] with
 | false =>
  refine VO.callF rfl (fk Tryz.func7) (fun wa1 β ka1 ba1 ho => (few28_ok _ (some ⟨β 32, 0, none⟩) 3 l [(s, xs, t, ys), (s', xs', t', ys'), (s'', xs'', t'', ys'')] kk wa1 (hv.beh (br_ok kk) ba1) (ownV_sl rr_ok (ho.own 32 (.base (List.mem_singleton.2 rfl)) _ _ rfl) [] (vs := [[.bool s, .slice pa xs.length ca, .bool t, .slice ya ys.length da], [.bool s', .slice pb xs'.length cb, .bool t', .slice yb ys'.length db], [.bool s'', .slice pc xs''.length cc, .bool t'', .slice yc ys''.length dc]]) (by rfl) (RowE.cons ⟨_, _, _, _, rfl⟩ (RowE.cons ⟨_, _, _, _, rfl⟩ (RowE.cons ⟨_, _, _, _, rfl⟩ RowE.nil))) rfl (Nat.le_of_ble_eq_true rfl) (by decide)) (by omega) (by omega) false hfew).mono ?_)
  rintro e w1 ⟨rfl, hb1⟩
  refine ⟨_, rfl, hb1, fun kb1 _ bb1 => wV rfl ?_⟩
  (repeat first|refine wN ?_|refine wP rfl ?_|refine cxK_r rfl ?_|refine cxK_d rfl ?_|refine wO rfl rfl ?_)
  refine VO.call rfl rfl (fk Tryz.func8) (fun wa2 ka2 ba2 => (works28_any wa2).mono ?_)
  rintro e w2 ⟨rfl, hb2⟩
  skip
  refine ⟨_, rfl, hb2, fun kb2 _ bb2 => wV rfl ?_⟩
  (repeat first|refine wN ?_|refine wP rfl ?_|refine cxK_r rfl ?_|refine cxK_d rfl ?_|refine wO rfl rfl ?_)
  refine VS.ret (cxK_ok _ _) rfl rfl (fun wz kz bz => ?_)
  exact ⟨rfl, bz⟩
 | true =>
  have hv4 := fewB_sl hfew hv
  have hln := fewB_len hfew
  obtain ⟨g1, g2⟩ := fewB_inc hfew (x := (s, xs, t, ys)) (by simp)
  obtain ⟨g3, g4⟩ := fewB_inc hfew (x := (s', xs', t', ys')) (by simp)
  obtain ⟨g5, g6⟩ := fewB_inc hfew (x := (s'', xs'', t'', ys'')) (by simp)
  have hts := tsz20g hln
  have hai : RatIn w _ (rq s xs t ys) 4 := ha.in g1 g2
  have hbi : RatIn w _ (rq s' xs' t' ys') 4 := hb.in g3 g4
  have hci : RatIn w _ (rq s'' xs'' t'' ys'') 4 := hc.in g5 g6
  obtain ⟨A, hA⟩ : ∃ A, A = rq s xs t ys := ⟨_, rfl⟩
  obtain ⟨B, hB⟩ : ∃ B, B = rq s' xs' t' ys' := ⟨_, rfl⟩
  obtain ⟨Z, hZ⟩ : ∃ Z, Z = rq s'' xs'' t'' ys'' := ⟨_, rfl⟩
  rw [← hA] at hai
  rw [← hB] at hbi
  rw [← hZ] at hci
  refine VO.callF rfl (fk Tryz.func7) (fun wa1 β ka1 ba1 ho => (few28_ok _ (some ⟨β 32, 0, none⟩) 3 l [(s, xs, t, ys), (s', xs', t', ys'), (s'', xs'', t'', ys'')] kk wa1 (hv.beh (br_ok kk) ba1) (ownV_sl rr_ok (ho.own 32 (.base (List.mem_singleton.2 rfl)) _ _ rfl) [] (vs := [[.bool s, .slice pa xs.length ca, .bool t, .slice ya ys.length da], [.bool s', .slice pb xs'.length cb, .bool t', .slice yb ys'.length db], [.bool s'', .slice pc xs''.length cc, .bool t'', .slice yc ys''.length dc]]) (by rfl) (RowE.cons ⟨_, _, _, _, rfl⟩ (RowE.cons ⟨_, _, _, _, rfl⟩ (RowE.cons ⟨_, _, _, _, rfl⟩ RowE.nil))) rfl (Nat.le_of_ble_eq_true rfl) (by decide)) (by omega) (by omega) true hfew).mono ?_)
  rintro e w1 ⟨rfl, hb1⟩
  refine ⟨_, rfl, hb1, fun kb1 _ bb1 => wV rfl ?_⟩
  (repeat first|refine wN ?_|refine wP rfl ?_|refine cxK_r rfl ?_|refine cxK_d rfl ?_|refine wO rfl rfl ?_)
  cases hbr : bright l with
  | false =>
   refine VO.call rfl rfl (fk Tryz.func19) (fun wa2 ka2 ba2 => (bRight_ok _ l 4 wa2 (hv4.beh (br_ok 4) ba2) (by omega) false hbr).mono ?_)
   rintro e w2 ⟨rfl, hb2⟩
   skip
   refine ⟨_, rfl, hb2, fun kb2 _ bb2 => wV rfl ?_⟩
   (repeat first|refine wN ?_|refine wP rfl ?_|refine cxK_r rfl ?_|refine cxK_d rfl ?_|refine wO rfl rfl ?_)
   refine VO.call rfl rfl (fk Tryz.func8) (fun wa3 ka3 ba3 => (works28_any wa3).mono ?_)
   rintro e w3 ⟨rfl, hb3⟩
   skip
   refine ⟨_, rfl, hb3, fun kb3 _ bb3 => wV rfl ?_⟩
   (repeat first|refine wN ?_|refine wP rfl ?_|refine cxK_r rfl ?_|refine cxK_d rfl ?_|refine wO rfl rfl ?_)
   refine VS.ret (cxK_ok _ _) rfl rfl (fun wz kz bz => ?_)
   exact ⟨rfl, bz⟩
  | true =>
   have hcd : tcode l = 0 := by unfold tcode; rw [hbr]; rfl
   obtain ⟨N, hN⟩ : ∃ N, N = l.length := ⟨_, rfl⟩
   have hN1 : 0 < N := by rw [hN]; exact (bright_iff.1 hbr).1
   obtain ⟨e0, he0⟩ : ∃ e, l[0]? = some e := ⟨_, List.getElem?_eq_getElem (by omega)⟩
   obtain ⟨b, off, cs', hpp, hcs, hE⟩ := hv4.at he0
   have hE0 := hE
   obtain ⟨ap, ac, ar, ad, bp, bc, br, bd, rfl, -⟩ := hE
   subst hpp
   have hr0 := hE0.rate
   refine VO.call rfl rfl (fk Tryz.func19) (fun wa2 ka2 ba2 => (bRight_ok _ l 4 wa2 (hv4.beh (br_ok 4) ba2) (by omega) true hbr).mono ?_)
   rintro e w2 ⟨rfl, hb2⟩
   skip
   refine ⟨_, rfl, hb2, fun kb2 _ bb2 => wV rfl ?_⟩
   (repeat first|refine wN ?_|refine wP rfl ?_|refine cxK_r rfl ?_|refine cxK_d rfl ?_|refine wO rfl rfl ?_)
   obtain ⟨cg, hcg⟩ : ∃ cg, rcmp A B = cg := ⟨_, rfl⟩
   refine VO.call rfl rfl (fk Tryz.func27) (fun wa3 ka3 ba3 => (ratCmp_ok _ _ A B 4 4 wa3 (hai.kp (Kp.of (U := UU) ba3)) (hbi.kp (Kp.of (U := UU) ba3)) (by omega) (by omega) cg hcg).mono ?_)
   rintro e w3 ⟨rfl, hb3⟩
   skip
   refine ⟨_, rfl, hb3, fun kb3 _ bb3 => wV rfl ?_⟩
   (repeat first|refine wN ?_|refine wP rfl ?_|refine cxK_r rfl ?_|refine cxK_d rfl ?_|refine wO rfl rfl ?_)
   by_cases hsw : cg > 0
   ·refine VS.condY rfl (decide_eq_true hsw) ?_
    have hord : B ≤ A := by
     rw [← hcg] at hsw
     exact rcmp_ge.1 (by omega)
    (repeat first|refine wN ?_|refine wP rfl ?_|refine cxK_r rfl ?_|refine cxK_d rfl ?_|refine wO rfl rfl ?_)
    refine VO.call rfl rfl (fk Tryz.func28) (fun wa4 ka4 ba4 => (ratWhole_any 0 wa4 (by omega) (by omega)).mono ?_)
    rintro e w4 ⟨r4, rfl, q4, hb4⟩
    obtain ⟨s4, p4, n4, c4, t4, y4, m4, d4, rfl⟩ := q4.form
    refine ⟨_, rfl, hb4, fun kb4 _ bb4 => wV rfl ?_⟩
    (repeat first|refine wN ?_|refine wP rfl ?_|refine cxK_r rfl ?_|refine cxK_d rfl ?_|refine wO rfl rfl ?_)
    refine VO.callF rfl (fk Tryz.func29) (fun wa5 β ka5 ba5 ho => (ratMax_any _ _ ((0 : Int) : Rat) [B] 4 wa5 (q4.ki (RSz.zero.mono (show 1 ≤ 4 by omega))) (ownV_rats (ho.own 50 (.base (List.mem_singleton.2 rfl)) _ _ rfl) [] (vs := [[.bool s', .slice pb xs'.length cb, .bool t', .slice yb ys'.length db]]) (by rfl) rfl (RatRow.cons (hbi.kp (Kp.of (U := UU) ba5)) RatRow.nil) (Nat.le_of_ble_eq_true rfl) (by decide)) (by omega) (Nat.le_of_ble_eq_true rfl)).mono ?_)
    rintro e w5 ⟨r5, rfl, q5, z5, hb5⟩
    obtain ⟨s5, p5, n5, c5, t5, y5, m5, d5, rfl⟩ := q5.form
    refine ⟨_, rfl, hb5, fun kb5 _ bb5 => wV rfl ?_⟩
    (repeat first|refine wN ?_|refine wP rfl ?_|refine cxK_r rfl ?_|refine cxK_d rfl ?_|refine wO rfl rfl ?_)
    refine VO.callF rfl (fk Tryz.func29) (fun wa6 β ka6 ba6 ho => (ratMax_any _ _ ((0 : Int) : Rat) [A] 4 wa6 (q4.ki (RSz.zero.mono (show 1 ≤ 4 by omega))) (ownV_rats (ho.own 54 (.base (List.mem_singleton.2 rfl)) _ _ rfl) [] (vs := [[.bool s, .slice pa xs.length ca, .bool t, .slice ya ys.length da]]) (by rfl) rfl (RatRow.cons (hai.kp (Kp.of (U := UU) ba6)) RatRow.nil) (Nat.le_of_ble_eq_true rfl) (by decide)) (by omega) (Nat.le_of_ble_eq_true rfl)).mono ?_)
    rintro e w6 ⟨r6, rfl, q6, z6, hb6⟩
    obtain ⟨s6, p6, n6, c6, t6, y6, m6, d6, rfl⟩ := q6.form
    refine ⟨_, rfl, hb6, fun kb6 _ bb6 => wV rfl ?_⟩
    (repeat first|refine wN ?_|refine wP rfl ?_|refine cxK_r rfl ?_|refine cxK_d rfl ?_|refine wO rfl rfl ?_)
    have f1 := max0_ge B
    have f2 := max0_mono hord
    obtain ⟨P, hP⟩ : ∃ P, P = rbest rmore ((0 : Int) : Rat) [B] := ⟨_, rfl⟩
    obtain ⟨Q, hQ⟩ : ∃ Q, Q = rbest rmore ((0 : Int) : Rat) [A] := ⟨_, rfl⟩
    rw [← hP] at f1 f2 q5 z5
    rw [← hQ] at f2 q6 z6
    replace z5 : RSz P 4 := z5
    replace z6 : RSz Q 4 := z6
    have f3 : 0 ≤ Q := Rat.le_trans f1 f2
    obtain ⟨u1, u2⟩ := tax_bounds hbr f1
    obtain ⟨u3, u4⟩ := tax_bounds hbr f3
    refine VO.call rfl rfl (fk Tryz.func11) (fun wa7 ka7 ba7 => (bTax_ok _ _ l 4 400 P wa7 (hv4.beh (br_ok 4) ba7) (q5.ki z5) (by omega) (by omega) (by omega) 0 hcd (taxq l P) rfl (by omega)).mono ?_)
    rintro e w7 ⟨r7, rfl, q7, z7, hb7⟩
    obtain ⟨s7, p7, n7, c7, t7, y7, m7, d7, rfl⟩ := q7.form
    refine ⟨_, rfl, hb7, fun kb7 _ bb7 => wV rfl ?_⟩
    (repeat first|refine wN ?_|refine wP rfl ?_|refine cxK_r rfl ?_|refine cxK_d rfl ?_|refine wO rfl rfl ?_)
    refine VO.call rfl rfl (fk Tryz.func11) (fun wa8 ka8 ba8 => (bTax_ok _ _ l 4 400 Q wa8 (hv4.beh (br_ok 4) ba8) (q6.ki z6) (by omega) (by omega) (by omega) 0 hcd (taxq l Q) rfl (by omega)).mono ?_)
    rintro e w8 ⟨r8, rfl, q8, z8, hb8⟩
    obtain ⟨s8, p8, n8, c8, t8, y8, m8, d8, rfl⟩ := q8.form
    refine ⟨_, rfl, hb8, fun kb8 _ bb8 => wV rfl ?_⟩
    (repeat first|refine wN ?_|refine wP rfl ?_|refine cxK_r rfl ?_|refine cxK_d rfl ?_|refine wO rfl rfl ?_)
    refine VO.call rfl rfl (fk Tryz.func12) (fun wa9 ka9 ba9 => (bCents_ok _ _ l 4 403 Q wa9 (hv4.beh (br_ok 4) ba9) (q6.ki z6) (by omega) (by omega) (by omega) 0 hcd (centsq l Q) rfl (by omega)).mono ?_)
    rintro e w9 ⟨r9, rfl, q9, z9, hb9⟩
    obtain ⟨s9, p9, n9, c9, rfl⟩ := q9.form
    refine ⟨_, rfl, hb9, fun kb9 _ bb9 => wV rfl ?_⟩
    (repeat first|refine wN ?_|refine wP rfl ?_|refine cxK_r rfl ?_|refine cxK_d rfl ?_|refine wO rfl rfl ?_)
    obtain ⟨sg, hsg⟩ : ∃ sg, rcmp (taxq l P) 0 = sg := ⟨_, rfl⟩
    have hsg0 : ¬ sg < 0 := by have := rcmp_ge.2 u1; omega
    refine VO.call rfl rfl (fk Tryz.func21) (fun wa10 ka10 ba10 => (ratSign_ok _ (taxq l P) 400 wa10 (q7.ki z7) (by omega) sg hsg).mono ?_)
    rintro e w10 ⟨rfl, hb10⟩
    skip
    refine ⟨_, rfl, hb10, fun kb10 _ bb10 => wV rfl ?_⟩
    (repeat first|refine wN ?_|refine wP rfl ?_|refine cxK_r rfl ?_|refine cxK_d rfl ?_|refine wO rfl rfl ?_)
    refine VO.fix 89 rfl (congrArg (fun b => AV.val (.bool b)) (decide_eq_false hsg0)) ?_
    (repeat first|refine wN ?_|refine wP rfl ?_|refine cxK_r rfl ?_|refine cxK_d rfl ?_|refine wO rfl rfl ?_)
    obtain ⟨cp, hcp⟩ : ∃ cp, rcmp (taxq l P) P = cp := ⟨_, rfl⟩
    have hcp0 : ¬ cp > 0 := by have := rcmp_le.2 u2; omega
    refine VO.call rfl rfl (fk Tryz.func27) (fun wa11 ka11 ba11 => (ratCmp_ok _ _ (taxq l P) P 400 4 wa11 (q7.ki z7) (q5.ki z5) (by omega) (by omega) cp hcp).mono ?_)
    rintro e w11 ⟨rfl, hb11⟩
    skip
    refine ⟨_, rfl, hb11, fun kb11 _ bb11 => wV rfl ?_⟩
    (repeat first|refine wN ?_|refine wP rfl ?_|refine cxK_r rfl ?_|refine cxK_d rfl ?_|refine wO rfl rfl ?_)
    refine VO.fix 95 rfl (congrArg (fun b => AV.val (.bool b)) (decide_eq_false hcp0)) ?_
    (repeat first|refine wN ?_|refine wP rfl ?_|refine cxK_r rfl ?_|refine cxK_d rfl ?_|refine wO rfl rfl ?_)
    obtain ⟨cq, hcq⟩ : ∃ cq, rcmp (taxq l Q) Q = cq := ⟨_, rfl⟩
    have hcq0 : ¬ cq > 0 := by have := rcmp_le.2 u4; omega
    refine VO.call rfl rfl (fk Tryz.func27) (fun wa12 ka12 ba12 => (ratCmp_ok _ _ (taxq l Q) Q 400 4 wa12 (q8.ki z8) (q6.ki z6) (by omega) (by omega) cq hcq).mono ?_)
    rintro e w12 ⟨rfl, hb12⟩
    skip
    refine ⟨_, rfl, hb12, fun kb12 _ bb12 => wV rfl ?_⟩
    (repeat first|refine wN ?_|refine wP rfl ?_|refine cxK_r rfl ?_|refine cxK_d rfl ?_|refine wO rfl rfl ?_)
    refine VS.condN rfl (decide_eq_false hcq0) ?_
    (repeat (first | refine wN ?_ | refine wP rfl ?_ | refine wO rfl rfl ?_))
    refine VS.draw2 (cxK_ok _ _) (cxK_mixed _ _) 7 10 [0, 1, 2, 3, 4, 5, 6, 8, 9, 10, 7, 11] (by kernel_rfl) [(0, .val (.slice (some ⟨b, off, none⟩) l.length c)), (5, .box 5 0), (6, .box 6 0), (7, .box 7 0), (10, .box 10 0), (12, .box 12 0), (14, .box 14 0), (16, .box 16 0), (17, .box 17 0)]
     [(5, (27, ([.bool s5, .slice p5 n5 c5, .bool t5, .slice y5 m5 d5] : List Value).map .val)), (6, (27, ([.bool s6, .slice p6 n6 c6, .bool t6, .slice y6 m6 d6] : List Value).map .val)), (7, (27, ([.bool s'', .slice pc xs''.length cc, .bool t'', .slice yc ys''.length dc] : List Value).map .val)), (10, (27, ([.bool s7, .slice p7 n7 c7, .bool t7, .slice y7 m7 d7] : List Value).map .val)), (12, (27, ([.bool s8, .slice p8 n8 c8, .bool t8, .slice y8 m8 d8] : List Value).map .val)), (14, (25, ([.bool s9, .slice p9 n9 c9] : List Value).map .val)), (16, (27, ([.bool e0.2.1, .slice bp e0.2.2.1.length bc, .bool e0.2.2.2.1, .slice br e0.2.2.2.2.length bd] : List Value).map .val)), (17, (27, ([.bool e0.2.1, .slice bp e0.2.2.1.length bc, .bool e0.2.2.2.1, .slice br e0.2.2.2.2.length bd] : List Value).map .val))]
     rfl ?_ ?_ ?_ ?_
    ·(repeat first|exact trivial|refine ⟨ClosedC.lit rfl, ?_⟩|refine ⟨ClosedC.vals _, ?_⟩)
    ·refine wV rfl ?_
     refine VO.cond rfl ⟨by omega, by omega⟩ ?_
     refine wV rfl ?_
     (repeat first|refine wN ?_|refine wP rfl ?_|refine cxK_r rfl ?_|refine cxK_d rfl ?_|refine wO rfl rfl ?_)
     refine VO.read rfl [.bool e0.2.1, .slice bp e0.2.2.1.length bc, .bool e0.2.2.2.1, .slice br e0.2.2.2.2.length bd] rfl (cells_at hcs 4 _ ⟨[], rfl⟩) (wV rfl ?_)
     refine VO.cond rfl ⟨by omega, by omega⟩ ?_
     refine wV rfl ?_
     (repeat first|refine wN ?_|refine wP rfl ?_|refine cxK_r rfl ?_|refine cxK_d rfl ?_|refine wO rfl rfl ?_)
     refine VO.read rfl [.bool e0.2.1, .slice bp e0.2.2.1.length bc, .bool e0.2.2.2.1, .slice br e0.2.2.2.2.length bd] rfl (cells_at hcs 4 _ ⟨[], rfl⟩) (wV rfl ?_)
     refine VO.nil ⟨?_, ?_, rfl⟩
     ·(repeat first|exact trivial|refine ⟨rfl, ?_⟩)
     ·(repeat first|exact trivial|refine ⟨rfl, ?_⟩)
    ·refine wV rfl ?_
     refine VO.cond rfl ⟨by omega, by omega⟩ ?_
     refine wV rfl ?_
     (repeat first|refine wN ?_|refine wP rfl ?_|refine cxK_r rfl ?_|refine cxK_d rfl ?_|refine wO rfl rfl ?_)
     refine VO.read rfl [.bool e0.2.1, .slice bp e0.2.2.1.length bc, .bool e0.2.2.2.1, .slice br e0.2.2.2.2.length bd] rfl (cells_at hcs 4 _ ⟨[], rfl⟩) (wV rfl ?_)
     refine VO.cond rfl ⟨by omega, by omega⟩ ?_
     refine wV rfl ?_
     (repeat first|refine wN ?_|refine wP rfl ?_|refine cxK_r rfl ?_|refine cxK_d rfl ?_|refine wO rfl rfl ?_)
     refine VO.read rfl [.bool e0.2.1, .slice bp e0.2.2.1.length bc, .bool e0.2.2.2.1, .slice br e0.2.2.2.2.length bd] rfl (cells_at hcs 4 _ ⟨[], rfl⟩) (wV rfl ?_)
     refine VO.nil ⟨?_, ?_, rfl⟩
     ·(repeat first|exact trivial|refine ⟨rfl, ?_⟩)
     ·(repeat first|exact trivial|refine ⟨rfl, ?_⟩)
    (repeat first|refine wN ?_|refine wP rfl ?_|refine cxK_r rfl ?_|refine cxK_d rfl ?_|refine wO rfl rfl ?_)
    rw [← hN] at hv4
    rw [← hN]
    refine VS.loop (J := fun m L M w' => ∃ (z : Nat) (lo hi : Rat) (ls lt : Bool) (lp lr : Option Addr) (ln lc lm ld : Nat) (us ut : Bool) (up ur : Option Addr) (un uc um ud : Nat), z ≤ N ∧ m = N - z ∧ L = [(0, .val (.slice (some ⟨b, off, none⟩) N c)), (18, .val (.int .i64 (z : Int))), (5, .box 5 0), (6, .box 6 0), (7, .box 7 0), (10, .box 10 0), (12, .box 12 0), (14, .box 14 0), (16, .box 16 0), (17, .box 17 0)] ∧
     M = [(5, (27, ([.bool s5, .slice p5 n5 c5, .bool t5, .slice y5 m5 d5] : List Value).map .val)), (6, (27, ([.bool s6, .slice p6 n6 c6, .bool t6, .slice y6 m6 d6] : List Value).map .val)), (7, (27, ([.bool s'', .slice pc xs''.length cc, .bool t'', .slice yc ys''.length dc] : List Value).map .val)), (10, (27, ([.bool s7, .slice p7 n7 c7, .bool t7, .slice y7 m7 d7] : List Value).map .val)), (12, (27, ([.bool s8, .slice p8 n8 c8, .bool t8, .slice y8 m8 d8] : List Value).map .val)), (14, (25, ([.bool s9, .slice p9 n9 c9] : List Value).map .val)), (16, (27, ([.bool ls, .slice lp ln lc, .bool lt, .slice lr lm ld] : List Value).map .val)), (17, (27, ([.bool us, .slice up un uc, .bool ut, .slice ur um ud] : List Value).map .val))] ∧
     RatIn w' (.agg #[.bool ls, .slice lp ln lc, .bool lt, .slice lr lm ld]) lo 4 ∧ RatIn w' (.agg #[.bool us, .slice up un uc, .bool ut, .slice ur um ud]) hi 4 ∧ (∀ (i : Nat) (x : RBr), i < z → l[i]? = some x → lo ≤ x.2.q ∧ x.2.q ≤ hi) ∧ KpS (cxK Tryz.prog w 199).K w12 w') N
     ⟨_, _, ?_, ?_, ?_, ?_, ⟨0, e0.2.q, e0.2.q, _, _, _, _, _, _, _, _, _, _, _, _, _, _, _, _, by omega, rfl, rfl, rfl, hr0.kp (Kp.of (U := UU) bb12), hr0.kp (Kp.of (U := UU) bb12), fun i x hi => absurd hi (Nat.not_lt_zero i), kR _⟩⟩ ?_
    ·(repeat first|exact trivial|refine ⟨rfl, ?_⟩)
    ·(repeat first|exact trivial|refine ⟨rfl, ?_⟩)
    ·rfl
    ·(repeat first|exact trivial|refine ⟨ClosedC.lit rfl, ?_⟩|refine ⟨ClosedC.vals _, ?_⟩)
    rintro m L M w13 ⟨z, lo, hi, ls, lt, lp, lr, ln, lc, lm, ld, us, ut, up, ur, un, uc, um, ud, hz, rfl, rfl, rfl, hlo, hhi, hall, kw13⟩
    (repeat first|refine wN ?_|refine wP rfl ?_|refine cxK_r rfl ?_|refine cxK_d rfl ?_|refine wO rfl rfl ?_)
    by_cases hlt : z < N
    ·refine VS.condY rfl (decide_eq_true (Int.ofNat_lt.2 hlt)) ?_
     obtain ⟨x, hx⟩ : ∃ x, l[z]? = some x := ⟨_, List.getElem?_eq_getElem (by omega)⟩
     obtain ⟨b2, off2, cs2, hq2, hc2, hX⟩ := hv4.at hx
     cases hq2
     have hX0 := hX
     obtain ⟨xp, xc, xr, xd, yp, yc', yr, yd, rfl, -⟩ := hX
     have hxr := hX0.rate
     (repeat first|refine wN ?_|refine wP rfl ?_|refine cxK_r rfl ?_|refine cxK_d rfl ?_|refine wO rfl rfl ?_)
     refine VO.cond rfl ⟨by omega, by omega⟩ ?_
     refine wV rfl ?_
     (repeat first|refine wN ?_|refine wP rfl ?_|refine cxK_r rfl ?_|refine cxK_d rfl ?_|refine wO rfl rfl ?_)
     refine VO.read rfl [.bool x.2.1, .slice yp x.2.2.1.length yc', .bool x.2.2.2.1, .slice yr x.2.2.2.2.length yd] rfl (cells_at hc2 4 _ ⟨[], rfl⟩) (wV rfl ?_)
     (repeat first|refine wN ?_|refine wP rfl ?_|refine cxK_r rfl ?_|refine cxK_d rfl ?_|refine wO rfl rfl ?_)
     refine VO.callF rfl (fk Tryz.func30) (fun wa14 β ka14 ba14 ho => (ratMin_any _ _ lo [x.2.q] 4 wa14 (hlo.kp (T := fun _ => false) ka14.weak) (ownV_rats (ho.own 121 (.base (List.mem_singleton.2 rfl)) _ _ rfl) [] (vs := [[.bool x.2.1, .slice yp x.2.2.1.length yc', .bool x.2.2.2.1, .slice yr x.2.2.2.2.length yd]]) (by rfl) rfl (RatRow.cons (hxr.kp (Kp.of (U := UU) ba14)) RatRow.nil) (Nat.le_of_ble_eq_true rfl) (by decide)) (by omega) (Nat.le_of_ble_eq_true rfl)).mono ?_)
     rintro e w14 ⟨r14, rfl, q14, z14, hb14⟩
     obtain ⟨s14, p14, n14, c14, t14, y14, m14, d14, rfl⟩ := q14.form
     refine ⟨_, rfl, hb14, fun kb14 _ bb14 => wV rfl ?_⟩
     (repeat first|refine wN ?_|refine wP rfl ?_|refine cxK_r rfl ?_|refine cxK_d rfl ?_|refine wO rfl rfl ?_)
     refine VO.cond rfl ⟨by omega, by omega⟩ ?_
     refine wV rfl ?_
     (repeat first|refine wN ?_|refine wP rfl ?_|refine cxK_r rfl ?_|refine cxK_d rfl ?_|refine wO rfl rfl ?_)
     refine VO.read rfl [.bool x.2.1, .slice yp x.2.2.1.length yc', .bool x.2.2.2.1, .slice yr x.2.2.2.2.length yd] rfl (cells_at hc2 4 _ ⟨[], rfl⟩) (wV rfl ?_)
     (repeat first|refine wN ?_|refine wP rfl ?_|refine cxK_r rfl ?_|refine cxK_d rfl ?_|refine wO rfl rfl ?_)
     refine VO.callF rfl (fk Tryz.func29) (fun wa15 β ka15 ba15 ho => (ratMax_any _ _ hi [x.2.q] 4 wa15 (hhi.kp (T := fun _ => false) (kT kb14 ka15).weak) (ownV_rats (ho.own 129 (.base (List.mem_singleton.2 rfl)) _ _ rfl) [] (vs := [[.bool x.2.1, .slice yp x.2.2.1.length yc', .bool x.2.2.2.1, .slice yr x.2.2.2.2.length yd]]) (by rfl) rfl (RatRow.cons (hxr.kp (Kp.of (U := UU) ba15)) RatRow.nil) (Nat.le_of_ble_eq_true rfl) (by decide)) (by omega) (Nat.le_of_ble_eq_true rfl)).mono ?_)
     rintro e w15 ⟨r15, rfl, q15, z15, hb15⟩
     obtain ⟨s15, p15, n15, c15, t15, y15, m15, d15, rfl⟩ := q15.form
     refine ⟨_, rfl, hb15, fun kb15 _ bb15 => wV rfl ?_⟩
     (repeat first|refine wN ?_|refine wP rfl ?_|refine cxK_r rfl ?_|refine cxK_d rfl ?_|refine wO rfl rfl ?_)
     rw [rless_one] at q14 z14
     rw [rmax2] at q15 z15
     refine VS.back (N - (z + 1)) (by omega) ⟨_, _, ?_, ?_, ?_, ?_, ⟨z + 1, _, _, _, _, _, _, _, _, _, _, _, _, _, _, _, _, _, _, by omega, rfl, rfl, rfl, (q14.ki z14), (q15.ki z15), fun i y hiz hy => ?_, kT kw13 (kT kb14 kb15)⟩⟩
     ·refine ⟨rfl, ?_, rfl, rfl, rfl, rfl, rfl, rfl, rfl, rfl, trivial⟩
      rw [← nat_step (i := z) (by omega)]; rfl
     ·(repeat first|exact trivial|refine ⟨rfl, ?_⟩)
     ·rfl
     ·(repeat first|exact trivial|refine ⟨ClosedC.lit rfl, ?_⟩|refine ⟨ClosedC.vals _, ?_⟩)
     ·rcases Nat.lt_succ_iff_lt_or_eq.1 hiz with h | rfl
      ·obtain ⟨h1, h2⟩ := hall i y h hy
       constructor
       ·split <;> grind
       ·split <;> grind
      ·rw [hx] at hy; cases hy
       constructor
       ·split <;> grind
       ·split <;> grind
    ·refine VS.condN rfl (decide_eq_false (fun e => hlt (Int.ofNat_lt.1 e))) ?_
     have hzN : z = N := by omega
     have hal : ∀ (i : Nat) (x : RBr), l[i]? = some x → lo ≤ x.2.q ∧ x.2.q ≤ hi := fun i x hx => hall i x (by have := (List.getElem?_eq_some_iff.1 hx).1; omega) hx
     obtain ⟨v1, v2⟩ := tax_grows hbr f1 f2 hal
     have zlo := hlo.sz (show 1 ≤ 4 by omega)
     have zhi := hhi.sz (show 1 ≤ 4 by omega)
     (repeat first|refine wN ?_|refine wP rfl ?_|refine cxK_r rfl ?_|refine cxK_d rfl ?_|refine wO rfl rfl ?_)
     refine VO.call rfl rfl (fk Tryz.func31) (fun wa16 ka16 ba16 => (ratSub_any _ _ (taxq l Q) (taxq l P) 400 400 wa16 (q8.ki z8) (q7.ki z7) (by omega) (by omega)).mono ?_)
     rintro e w16 ⟨r16, rfl, q16, hb16⟩
     obtain ⟨s16, p16, n16, c16, t16, y16, m16, d16, rfl⟩ := q16.form
     refine ⟨_, rfl, hb16, fun kb16 _ bb16 => wV rfl ?_⟩
     (repeat first|refine wN ?_|refine wP rfl ?_|refine cxK_r rfl ?_|refine cxK_d rfl ?_|refine wO rfl rfl ?_)
     have z16 := z8.sub z7
     refine VO.call rfl rfl (fk Tryz.func31) (fun wa17 ka17 ba17 => (ratSub_any _ _ Q P 4 4 wa17 (q6.ki z6) (q5.ki z5) (by omega) (by omega)).mono ?_)
     rintro e w17 ⟨r17, rfl, q17, hb17⟩
     obtain ⟨s17, p17, n17, c17, t17, y17, m17, d17, rfl⟩ := q17.form
     refine ⟨_, rfl, hb17, fun kb17 _ bb17 => wV rfl ?_⟩
     (repeat first|refine wN ?_|refine wP rfl ?_|refine cxK_r rfl ?_|refine cxK_d rfl ?_|refine wO rfl rfl ?_)
     have z17 := z6.sub z5
     refine VO.call rfl rfl (fk Tryz.func32) (fun wa18 ka18 ba18 => (ratMul_any _ _ lo (Q - P) 4 9 wa18 (hlo.kp (kK)) (q17.ki z17) (by omega) (by omega)).mono ?_)
     rintro e w18 ⟨r18, rfl, q18, hb18⟩
     obtain ⟨s18, p18, n18, c18, t18, y18, m18, d18, rfl⟩ := q18.form
     refine ⟨_, rfl, hb18, fun kb18 _ bb18 => wV rfl ?_⟩
     (repeat first|refine wN ?_|refine wP rfl ?_|refine cxK_r rfl ?_|refine cxK_d rfl ?_|refine wO rfl rfl ?_)
     have z18 := zlo.mul z17
     obtain ⟨g7, hg7⟩ : ∃ g, rcmp (taxq l Q - taxq l P) (lo * (Q - P)) = g := ⟨_, rfl⟩
     have hg70 : ¬ g7 < 0 := by have := rcmp_ge.2 v1; omega
     refine VO.call rfl rfl (fk Tryz.func27) (fun wa19 ka19 ba19 => (ratCmp_ok _ _ (taxq l Q - taxq l P) (lo * (Q - P)) 801 13 wa19 (q16.ki z16) (q18.ki z18) (by omega) (by omega) g7 hg7).mono ?_)
     rintro e w19 ⟨rfl, hb19⟩
     skip
     refine ⟨_, rfl, hb19, fun kb19 _ bb19 => wV rfl ?_⟩
     (repeat first|refine wN ?_|refine wP rfl ?_|refine cxK_r rfl ?_|refine cxK_d rfl ?_|refine wO rfl rfl ?_)
     refine VO.fix 143 rfl (congrArg (fun b => AV.val (.bool b)) (decide_eq_false hg70)) ?_
     (repeat first|refine wN ?_|refine wP rfl ?_|refine cxK_r rfl ?_|refine cxK_d rfl ?_|refine wO rfl rfl ?_)
     refine VO.call rfl rfl (fk Tryz.func32) (fun wa20 ka20 ba20 => (ratMul_any _ _ hi (Q - P) 4 9 wa20 (hhi.kp (kK)) (q17.ki z17) (by omega) (by omega)).mono ?_)
     rintro e w20 ⟨r20, rfl, q20, hb20⟩
     obtain ⟨s20, p20, n20, c20, t20, y20, m20, d20, rfl⟩ := q20.form
     refine ⟨_, rfl, hb20, fun kb20 _ bb20 => wV rfl ?_⟩
     (repeat first|refine wN ?_|refine wP rfl ?_|refine cxK_r rfl ?_|refine cxK_d rfl ?_|refine wO rfl rfl ?_)
     have z20 := zhi.mul z17
     obtain ⟨g8, hg8⟩ : ∃ g, rcmp (taxq l Q - taxq l P) (hi * (Q - P)) = g := ⟨_, rfl⟩
     have hg80 : ¬ g8 > 0 := by have := rcmp_le.2 v2; omega
     refine VO.call rfl rfl (fk Tryz.func27) (fun wa21 ka21 ba21 => (ratCmp_ok _ _ (taxq l Q - taxq l P) (hi * (Q - P)) 801 13 wa21 (q16.ki z16) (q20.ki z20) (by omega) (by omega) g8 hg8).mono ?_)
     rintro e w21 ⟨rfl, hb21⟩
     skip
     refine ⟨_, rfl, hb21, fun kb21 _ bb21 => wV rfl ?_⟩
     (repeat first|refine wN ?_|refine wP rfl ?_|refine cxK_r rfl ?_|refine cxK_d rfl ?_|refine wO rfl rfl ?_)
     refine VS.condN rfl (decide_eq_false hg80) ?_
     (repeat first|refine wN ?_|refine wP rfl ?_|refine cxK_r rfl ?_|refine cxK_d rfl ?_|refine wO rfl rfl ?_)
     refine VO.call rfl rfl (fk Tryz.func28) (fun wa22 ka22 ba22 => (ratWhole_any 200 wa22 (by omega) (by omega)).mono ?_)
     rintro e w22 ⟨r22, rfl, q22, hb22⟩
     obtain ⟨s22, p22, n22, c22, t22, y22, m22, d22, rfl⟩ := q22.form
     refine ⟨_, rfl, hb22, fun kb22 _ bb22 => wV rfl ?_⟩
     (repeat first|refine wN ?_|refine wP rfl ?_|refine cxK_r rfl ?_|refine cxK_d rfl ?_|refine wO rfl rfl ?_)
     refine VO.call rfl rfl (fk Tryz.func33) (fun wa23 ka23 ba23 => (rdFromCents_any _ (centsq l Q) 403 wa23 (q9.ki z9) (by omega)).mono ?_)
     rintro e w23 ⟨r23, rfl, q23, hb23⟩
     obtain ⟨s23, p23, n23, c23, t23, y23, m23, d23, rfl⟩ := q23.form
     refine ⟨_, rfl, hb23, fun kb23 _ bb23 => wV rfl ?_⟩
     (repeat first|refine wN ?_|refine wP rfl ?_|refine cxK_r rfl ?_|refine cxK_d rfl ?_|refine wO rfl rfl ?_)
     have z23 := cents_rsz z9 (by omega)
     refine VO.call rfl rfl (fk Tryz.func31) (fun wa24 ka24 ba24 => (ratSub_any _ _ (Rat.divInt (centsq l Q) 100) (taxq l Q) 404 400 wa24 (q23.ki z23) (q8.ki z8) (by omega) (by omega)).mono ?_)
     rintro e w24 ⟨r24, rfl, q24, hb24⟩
     obtain ⟨s24, p24, n24, c24, t24, y24, m24, d24, rfl⟩ := q24.form
     refine ⟨_, rfl, hb24, fun kb24 _ bb24 => wV rfl ?_⟩
     (repeat first|refine wN ?_|refine wP rfl ?_|refine cxK_r rfl ?_|refine cxK_d rfl ?_|refine wO rfl rfl ?_)
     have z24 := z23.sub z8
     have z22 : RSz ((200 : Int) : Rat) 1 := whole_sz (by decide)
     refine VO.call rfl rfl (fk Tryz.func32) (fun wa25 ka25 ba25 => (ratMul_any _ _ ((200 : Int) : Rat) (Rat.divInt (centsq l Q) 100 - taxq l Q) 1 805 wa25 (q22.ki z22) (q24.ki z24) (by omega) (by omega)).mono ?_)
     rintro e w25 ⟨r25, rfl, q25, hb25⟩
     obtain ⟨s25, p25, n25, c25, t25, y25, m25, d25, rfl⟩ := q25.form
     refine ⟨_, rfl, hb25, fun kb25 _ bb25 => wV rfl ?_⟩
     (repeat first|refine wN ?_|refine wP rfl ?_|refine cxK_r rfl ?_|refine cxK_d rfl ?_|refine wO rfl rfl ?_)
     have z25 := z22.mul z24
     obtain ⟨n1', n2'⟩ := cents_near (taxq l Q)
     obtain ⟨W, hW⟩ : ∃ W, W = ((200 : Int) : Rat) * (Rat.divInt (centsq l Q) 100 - taxq l Q) := ⟨_, rfl⟩
     replace n1' : W ≤ ((1 : Int) : Rat) := by rw [hW]; exact n1'
     replace n2' : ((-1 : Int) : Rat) ≤ W := by rw [hW]; exact n2'
     rw [← hW] at q25 z25
     refine VO.call rfl rfl (fk Tryz.func14) (fun wa26 ka26 ba26 => (bRefund_ok _ _ _ l 4 403 P Q wa26 (hv4.beh (br_ok 4) ba26) (q5.ki z5) (q6.ki z6) (by omega) (by omega) (by omega) 0 hcd (centsq l P - centsq l Q) rfl (by omega)).mono ?_)
     rintro e w26 ⟨r26, rfl, q26, z26, hb26⟩
     obtain ⟨s26, p26, n26, c26, rfl⟩ := q26.form
     refine ⟨_, rfl, hb26, fun kb26 _ bb26 => wV rfl ?_⟩
     (repeat first|refine wN ?_|refine wP rfl ?_|refine cxK_r rfl ?_|refine cxK_d rfl ?_|refine wO rfl rfl ?_)
     refine VO.call rfl rfl (fk Tryz.func14) (fun wa27 ka27 ba27 => (bRefund_ok _ _ _ l 4 403 Q Z wa27 (hv4.beh (br_ok 4) ba27) (q6.ki z6) (hci.kp (Kp.of (U := UU) ba27)) (by omega) (by omega) (by omega) 0 hcd (centsq l Q - centsq l Z) rfl (by omega)).mono ?_)
     rintro e w27 ⟨r27, rfl, q27, z27, hb27⟩
     obtain ⟨s27, p27, n27, c27, rfl⟩ := q27.form
     refine ⟨_, rfl, hb27, fun kb27 _ bb27 => wV rfl ?_⟩
     (repeat first|refine wN ?_|refine wP rfl ?_|refine cxK_r rfl ?_|refine cxK_d rfl ?_|refine wO rfl rfl ?_)
     refine VO.call rfl rfl (fk Tryz.func14) (fun wa28 ka28 ba28 => (bRefund_ok _ _ _ l 4 403 P Z wa28 (hv4.beh (br_ok 4) ba28) (q5.ki z5) (hci.kp (Kp.of (U := UU) ba28)) (by omega) (by omega) (by omega) 0 hcd (centsq l P - centsq l Z) rfl (by omega)).mono ?_)
     rintro e w28 ⟨r28, rfl, q28, z28, hb28⟩
     obtain ⟨s28, p28, n28, c28, rfl⟩ := q28.form
     refine ⟨_, rfl, hb28, fun kb28 _ bb28 => wV rfl ?_⟩
     (repeat first|refine wN ?_|refine wP rfl ?_|refine cxK_r rfl ?_|refine cxK_d rfl ?_|refine wO rfl rfl ?_)
     refine VO.call rfl rfl (fk Tryz.func28) (fun wa29 ka29 ba29 => (ratWhole_any 1 wa29 (by omega) (by omega)).mono ?_)
     rintro e w29 ⟨r29, rfl, q29, hb29⟩
     obtain ⟨s29, p29, n29, c29, t29, y29, m29, d29, rfl⟩ := q29.form
     refine ⟨_, rfl, hb29, fun kb29 _ bb29 => wV rfl ?_⟩
     (repeat first|refine wN ?_|refine wP rfl ?_|refine cxK_r rfl ?_|refine cxK_d rfl ?_|refine wO rfl rfl ?_)
     obtain ⟨g9, hg9⟩ : ∃ g, rcmp W ((1 : Int) : Rat) = g := ⟨_, rfl⟩
     have hg90 : g9 ≤ 0 := by have := rcmp_le.2 n1'; omega
     refine VO.call rfl rfl (fk Tryz.func27) (fun wa30 ka30 ba30 => (ratCmp_ok _ _ W ((1 : Int) : Rat) 806 1 wa30 (q25.ki z25) (q29.ki (whole_sz (by decide))) (by omega) (by omega) g9 hg9).mono ?_)
     rintro e w30 ⟨rfl, hb30⟩
     skip
     refine ⟨_, rfl, hb30, fun kb30 _ bb30 => wV rfl ?_⟩
     (repeat first|refine wN ?_|refine wP rfl ?_|refine cxK_r rfl ?_|refine cxK_d rfl ?_|refine wO rfl rfl ?_)
     refine VO.fix 182 rfl (congrArg (fun b => AV.val (.bool b)) (decide_eq_true hg90)) ?_
     (repeat first|refine wN ?_|refine wP rfl ?_|refine cxK_r rfl ?_|refine cxK_d rfl ?_|refine wO rfl rfl ?_)
     refine VO.call rfl rfl (fk Tryz.func28) (fun wa31 ka31 ba31 => (ratWhole_any (-1) wa31 (by omega) (by omega)).mono ?_)
     rintro e w31 ⟨r31, rfl, q31, hb31⟩
     obtain ⟨s31, p31, n31, c31, t31, y31, m31, d31, rfl⟩ := q31.form
     refine ⟨_, rfl, hb31, fun kb31 _ bb31 => wV rfl ?_⟩
     (repeat first|refine wN ?_|refine wP rfl ?_|refine cxK_r rfl ?_|refine cxK_d rfl ?_|refine wO rfl rfl ?_)
     obtain ⟨g10, hg10⟩ : ∃ g, rcmp W ((-1 : Int) : Rat) = g := ⟨_, rfl⟩
     have hg100 : g10 ≥ 0 := by have := rcmp_ge.2 n2'; omega
     refine VO.call rfl rfl (fk Tryz.func27) (fun wa32 ka32 ba32 => (ratCmp_ok _ _ W ((-1 : Int) : Rat) 806 1 wa32 (q25.ki z25) (q31.ki (whole_sz (by decide))) (by omega) (by omega) g10 hg10).mono ?_)
     rintro e w32 ⟨rfl, hb32⟩
     skip
     refine ⟨_, rfl, hb32, fun kb32 _ bb32 => wV rfl ?_⟩
     (repeat first|refine wN ?_|refine wP rfl ?_|refine cxK_r rfl ?_|refine cxK_d rfl ?_|refine wO rfl rfl ?_)
     refine VO.fix 188 rfl (congrArg (fun b => AV.val (.bool b)) (decide_eq_true hg100)) ?_
     (repeat first|refine wN ?_|refine wP rfl ?_|refine cxK_r rfl ?_|refine cxK_d rfl ?_|refine wO rfl rfl ?_)
     refine VO.call rfl rfl (fk Tryz.func35) (fun wa33 ka33 ba33 => (badd_any _ _ (centsq l P - centsq l Q) (centsq l Q - centsq l Z) 403 403 wa33 (q26.ki z26) (q27.ki z27) (by omega) (by omega)).mono ?_)
     rintro e w33 ⟨r33, rfl, q33, hb33⟩
     obtain ⟨s33, p33, n33, c33, rfl⟩ := q33.form
     refine ⟨_, rfl, hb33, fun kb33 _ bb33 => wV rfl ?_⟩
     (repeat first|refine wN ?_|refine wP rfl ?_|refine cxK_r rfl ?_|refine cxK_d rfl ?_|refine wO rfl rfl ?_)
     have z33 : Sz (centsq l P - centsq l Q + (centsq l Q - centsq l Z)) 404 := Sz.add z26 z27 (Nat.le_refl _) (Nat.le_refl _)
     refine VO.call rfl rfl (fk Tryz.func34) (fun wa34 ka34 ba34 => (bcmp_ok _ _ (centsq l P - centsq l Q + (centsq l Q - centsq l Z)) (centsq l P - centsq l Z) 404 403 wa34 (q33.ki z33) (q28.ki z28) (by omega) (by omega) 0 (ref_add _ _ _)).mono ?_)
     rintro e w34 ⟨rfl, hb34⟩
     skip
     refine ⟨_, rfl, hb34, fun kb34 _ bb34 => wV rfl ?_⟩
     (repeat first|refine wN ?_|refine wP rfl ?_|refine cxK_r rfl ?_|refine cxK_d rfl ?_|refine wO rfl rfl ?_)
     refine VO.call rfl rfl (fk Tryz.func8) (fun wa35 ka35 ba35 => (works28_any wa35).mono ?_)
     rintro e w35 ⟨rfl, hb35⟩
     skip
     refine ⟨_, rfl, hb35, fun kb35 _ bb35 => wV rfl ?_⟩
     (repeat first|refine wN ?_|refine wP rfl ?_|refine cxK_r rfl ?_|refine cxK_d rfl ?_|refine wO rfl rfl ?_)
     refine VS.ret (cxK_ok _ _) rfl rfl (fun wz kz bz => ?_)
     exact ⟨rfl, bz⟩
   ·refine VS.condN rfl (decide_eq_false hsw) ?_
    have hord : A ≤ B := by
     rw [← hcg] at hsw
     exact rcmp_le.1 (by omega)
    (repeat first|refine wN ?_|refine wP rfl ?_|refine cxK_r rfl ?_|refine cxK_d rfl ?_|refine wO rfl rfl ?_)
    refine VO.call rfl rfl (fk Tryz.func28) (fun wa4 ka4 ba4 => (ratWhole_any 0 wa4 (by omega) (by omega)).mono ?_)
    rintro e w4 ⟨r4, rfl, q4, hb4⟩
    obtain ⟨s4, p4, n4, c4, t4, y4, m4, d4, rfl⟩ := q4.form
    refine ⟨_, rfl, hb4, fun kb4 _ bb4 => wV rfl ?_⟩
    (repeat first|refine wN ?_|refine wP rfl ?_|refine cxK_r rfl ?_|refine cxK_d rfl ?_|refine wO rfl rfl ?_)
    refine VO.callF rfl (fk Tryz.func29) (fun wa5 β ka5 ba5 ho => (ratMax_any _ _ ((0 : Int) : Rat) [A] 4 wa5 (q4.ki (RSz.zero.mono (show 1 ≤ 4 by omega))) (ownV_rats (ho.own 50 (.base (List.mem_singleton.2 rfl)) _ _ rfl) [] (vs := [[.bool s, .slice pa xs.length ca, .bool t, .slice ya ys.length da]]) (by rfl) rfl (RatRow.cons (hai.kp (Kp.of (U := UU) ba5)) RatRow.nil) (Nat.le_of_ble_eq_true rfl) (by decide)) (by omega) (Nat.le_of_ble_eq_true rfl)).mono ?_)
    rintro e w5 ⟨r5, rfl, q5, z5, hb5⟩
    obtain ⟨s5, p5, n5, c5, t5, y5, m5, d5, rfl⟩ := q5.form
    refine ⟨_, rfl, hb5, fun kb5 _ bb5 => wV rfl ?_⟩
    (repeat first|refine wN ?_|refine wP rfl ?_|refine cxK_r rfl ?_|refine cxK_d rfl ?_|refine wO rfl rfl ?_)
    refine VO.callF rfl (fk Tryz.func29) (fun wa6 β ka6 ba6 ho => (ratMax_any _ _ ((0 : Int) : Rat) [B] 4 wa6 (q4.ki (RSz.zero.mono (show 1 ≤ 4 by omega))) (ownV_rats (ho.own 54 (.base (List.mem_singleton.2 rfl)) _ _ rfl) [] (vs := [[.bool s', .slice pb xs'.length cb, .bool t', .slice yb ys'.length db]]) (by rfl) rfl (RatRow.cons (hbi.kp (Kp.of (U := UU) ba6)) RatRow.nil) (Nat.le_of_ble_eq_true rfl) (by decide)) (by omega) (Nat.le_of_ble_eq_true rfl)).mono ?_)
    rintro e w6 ⟨r6, rfl, q6, z6, hb6⟩
    obtain ⟨s6, p6, n6, c6, t6, y6, m6, d6, rfl⟩ := q6.form
    refine ⟨_, rfl, hb6, fun kb6 _ bb6 => wV rfl ?_⟩
    (repeat first|refine wN ?_|refine wP rfl ?_|refine cxK_r rfl ?_|refine cxK_d rfl ?_|refine wO rfl rfl ?_)
    have f1 := max0_ge A
    have f2 := max0_mono hord
    obtain ⟨P, hP⟩ : ∃ P, P = rbest rmore ((0 : Int) : Rat) [A] := ⟨_, rfl⟩
    obtain ⟨Q, hQ⟩ : ∃ Q, Q = rbest rmore ((0 : Int) : Rat) [B] := ⟨_, rfl⟩
    rw [← hP] at f1 f2 q5 z5
    rw [← hQ] at f2 q6 z6
    replace z5 : RSz P 4 := z5
    replace z6 : RSz Q 4 := z6
    have f3 : 0 ≤ Q := Rat.le_trans f1 f2
    obtain ⟨u1, u2⟩ := tax_bounds hbr f1
    obtain ⟨u3, u4⟩ := tax_bounds hbr f3
    refine VO.call rfl rfl (fk Tryz.func11) (fun wa7 ka7 ba7 => (bTax_ok _ _ l 4 400 P wa7 (hv4.beh (br_ok 4) ba7) (q5.ki z5) (by omega) (by omega) (by omega) 0 hcd (taxq l P) rfl (by omega)).mono ?_)
    rintro e w7 ⟨r7, rfl, q7, z7, hb7⟩
    obtain ⟨s7, p7, n7, c7, t7, y7, m7, d7, rfl⟩ := q7.form
    refine ⟨_, rfl, hb7, fun kb7 _ bb7 => wV rfl ?_⟩
    (repeat first|refine wN ?_|refine wP rfl ?_|refine cxK_r rfl ?_|refine cxK_d rfl ?_|refine wO rfl rfl ?_)
    refine VO.call rfl rfl (fk Tryz.func11) (fun wa8 ka8 ba8 => (bTax_ok _ _ l 4 400 Q wa8 (hv4.beh (br_ok 4) ba8) (q6.ki z6) (by omega) (by omega) (by omega) 0 hcd (taxq l Q) rfl (by omega)).mono ?_)
    rintro e w8 ⟨r8, rfl, q8, z8, hb8⟩
    obtain ⟨s8, p8, n8, c8, t8, y8, m8, d8, rfl⟩ := q8.form
    refine ⟨_, rfl, hb8, fun kb8 _ bb8 => wV rfl ?_⟩
    (repeat first|refine wN ?_|refine wP rfl ?_|refine cxK_r rfl ?_|refine cxK_d rfl ?_|refine wO rfl rfl ?_)
    refine VO.call rfl rfl (fk Tryz.func12) (fun wa9 ka9 ba9 => (bCents_ok _ _ l 4 403 Q wa9 (hv4.beh (br_ok 4) ba9) (q6.ki z6) (by omega) (by omega) (by omega) 0 hcd (centsq l Q) rfl (by omega)).mono ?_)
    rintro e w9 ⟨r9, rfl, q9, z9, hb9⟩
    obtain ⟨s9, p9, n9, c9, rfl⟩ := q9.form
    refine ⟨_, rfl, hb9, fun kb9 _ bb9 => wV rfl ?_⟩
    (repeat first|refine wN ?_|refine wP rfl ?_|refine cxK_r rfl ?_|refine cxK_d rfl ?_|refine wO rfl rfl ?_)
    obtain ⟨sg, hsg⟩ : ∃ sg, rcmp (taxq l P) 0 = sg := ⟨_, rfl⟩
    have hsg0 : ¬ sg < 0 := by have := rcmp_ge.2 u1; omega
    refine VO.call rfl rfl (fk Tryz.func21) (fun wa10 ka10 ba10 => (ratSign_ok _ (taxq l P) 400 wa10 (q7.ki z7) (by omega) sg hsg).mono ?_)
    rintro e w10 ⟨rfl, hb10⟩
    skip
    refine ⟨_, rfl, hb10, fun kb10 _ bb10 => wV rfl ?_⟩
    (repeat first|refine wN ?_|refine wP rfl ?_|refine cxK_r rfl ?_|refine cxK_d rfl ?_|refine wO rfl rfl ?_)
    refine VO.fix 89 rfl (congrArg (fun b => AV.val (.bool b)) (decide_eq_false hsg0)) ?_
    (repeat first|refine wN ?_|refine wP rfl ?_|refine cxK_r rfl ?_|refine cxK_d rfl ?_|refine wO rfl rfl ?_)
    obtain ⟨cp, hcp⟩ : ∃ cp, rcmp (taxq l P) P = cp := ⟨_, rfl⟩
    have hcp0 : ¬ cp > 0 := by have := rcmp_le.2 u2; omega
    refine VO.call rfl rfl (fk Tryz.func27) (fun wa11 ka11 ba11 => (ratCmp_ok _ _ (taxq l P) P 400 4 wa11 (q7.ki z7) (q5.ki z5) (by omega) (by omega) cp hcp).mono ?_)
    rintro e w11 ⟨rfl, hb11⟩
    skip
    refine ⟨_, rfl, hb11, fun kb11 _ bb11 => wV rfl ?_⟩
    (repeat first|refine wN ?_|refine wP rfl ?_|refine cxK_r rfl ?_|refine cxK_d rfl ?_|refine wO rfl rfl ?_)
    refine VO.fix 95 rfl (congrArg (fun b => AV.val (.bool b)) (decide_eq_false hcp0)) ?_
    (repeat first|refine wN ?_|refine wP rfl ?_|refine cxK_r rfl ?_|refine cxK_d rfl ?_|refine wO rfl rfl ?_)
    obtain ⟨cq, hcq⟩ : ∃ cq, rcmp (taxq l Q) Q = cq := ⟨_, rfl⟩
    have hcq0 : ¬ cq > 0 := by have := rcmp_le.2 u4; omega
    refine VO.call rfl rfl (fk Tryz.func27) (fun wa12 ka12 ba12 => (ratCmp_ok _ _ (taxq l Q) Q 400 4 wa12 (q8.ki z8) (q6.ki z6) (by omega) (by omega) cq hcq).mono ?_)
    rintro e w12 ⟨rfl, hb12⟩
    skip
    refine ⟨_, rfl, hb12, fun kb12 _ bb12 => wV rfl ?_⟩
    (repeat first|refine wN ?_|refine wP rfl ?_|refine cxK_r rfl ?_|refine cxK_d rfl ?_|refine wO rfl rfl ?_)
    refine VS.condN rfl (decide_eq_false hcq0) ?_
    (repeat (first | refine wN ?_ | refine wP rfl ?_ | refine wO rfl rfl ?_))
    refine VS.draw2 (cxK_ok _ _) (cxK_mixed _ _) 7 10 [0, 1, 2, 3, 4, 5, 6, 8, 9, 10, 7, 11] (by kernel_rfl) [(0, .val (.slice (some ⟨b, off, none⟩) l.length c)), (5, .box 5 0), (6, .box 6 0), (7, .box 7 0), (10, .box 10 0), (12, .box 12 0), (14, .box 14 0), (16, .box 16 0), (17, .box 17 0)]
     [(5, (27, ([.bool s5, .slice p5 n5 c5, .bool t5, .slice y5 m5 d5] : List Value).map .val)), (6, (27, ([.bool s6, .slice p6 n6 c6, .bool t6, .slice y6 m6 d6] : List Value).map .val)), (7, (27, ([.bool s'', .slice pc xs''.length cc, .bool t'', .slice yc ys''.length dc] : List Value).map .val)), (10, (27, ([.bool s7, .slice p7 n7 c7, .bool t7, .slice y7 m7 d7] : List Value).map .val)), (12, (27, ([.bool s8, .slice p8 n8 c8, .bool t8, .slice y8 m8 d8] : List Value).map .val)), (14, (25, ([.bool s9, .slice p9 n9 c9] : List Value).map .val)), (16, (27, ([.bool e0.2.1, .slice bp e0.2.2.1.length bc, .bool e0.2.2.2.1, .slice br e0.2.2.2.2.length bd] : List Value).map .val)), (17, (27, ([.bool e0.2.1, .slice bp e0.2.2.1.length bc, .bool e0.2.2.2.1, .slice br e0.2.2.2.2.length bd] : List Value).map .val))]
     rfl ?_ ?_ ?_ ?_
    ·(repeat first|exact trivial|refine ⟨ClosedC.lit rfl, ?_⟩|refine ⟨ClosedC.vals _, ?_⟩)
    ·refine wV rfl ?_
     refine VO.cond rfl ⟨by omega, by omega⟩ ?_
     refine wV rfl ?_
     (repeat first|refine wN ?_|refine wP rfl ?_|refine cxK_r rfl ?_|refine cxK_d rfl ?_|refine wO rfl rfl ?_)
     refine VO.read rfl [.bool e0.2.1, .slice bp e0.2.2.1.length bc, .bool e0.2.2.2.1, .slice br e0.2.2.2.2.length bd] rfl (cells_at hcs 4 _ ⟨[], rfl⟩) (wV rfl ?_)
     refine VO.cond rfl ⟨by omega, by omega⟩ ?_
     refine wV rfl ?_
     (repeat first|refine wN ?_|refine wP rfl ?_|refine cxK_r rfl ?_|refine cxK_d rfl ?_|refine wO rfl rfl ?_)
     refine VO.read rfl [.bool e0.2.1, .slice bp e0.2.2.1.length bc, .bool e0.2.2.2.1, .slice br e0.2.2.2.2.length bd] rfl (cells_at hcs 4 _ ⟨[], rfl⟩) (wV rfl ?_)
     refine VO.nil ⟨?_, ?_, rfl⟩
     ·(repeat first|exact trivial|refine ⟨rfl, ?_⟩)
     ·(repeat first|exact trivial|refine ⟨rfl, ?_⟩)
    ·refine wV rfl ?_
     refine VO.cond rfl ⟨by omega, by omega⟩ ?_
     refine wV rfl ?_
     (repeat first|refine wN ?_|refine wP rfl ?_|refine cxK_r rfl ?_|refine cxK_d rfl ?_|refine wO rfl rfl ?_)
     refine VO.read rfl [.bool e0.2.1, .slice bp e0.2.2.1.length bc, .bool e0.2.2.2.1, .slice br e0.2.2.2.2.length bd] rfl (cells_at hcs 4 _ ⟨[], rfl⟩) (wV rfl ?_)
     refine VO.cond rfl ⟨by omega, by omega⟩ ?_
     refine wV rfl ?_
     (repeat first|refine wN ?_|refine wP rfl ?_|refine cxK_r rfl ?_|refine cxK_d rfl ?_|refine wO rfl rfl ?_)
     refine VO.read rfl [.bool e0.2.1, .slice bp e0.2.2.1.length bc, .bool e0.2.2.2.1, .slice br e0.2.2.2.2.length bd] rfl (cells_at hcs 4 _ ⟨[], rfl⟩) (wV rfl ?_)
     refine VO.nil ⟨?_, ?_, rfl⟩
     ·(repeat first|exact trivial|refine ⟨rfl, ?_⟩)
     ·(repeat first|exact trivial|refine ⟨rfl, ?_⟩)
    (repeat first|refine wN ?_|refine wP rfl ?_|refine cxK_r rfl ?_|refine cxK_d rfl ?_|refine wO rfl rfl ?_)
    rw [← hN] at hv4
    rw [← hN]
    refine VS.loop (J := fun m L M w' => ∃ (z : Nat) (lo hi : Rat) (ls lt : Bool) (lp lr : Option Addr) (ln lc lm ld : Nat) (us ut : Bool) (up ur : Option Addr) (un uc um ud : Nat), z ≤ N ∧ m = N - z ∧ L = [(0, .val (.slice (some ⟨b, off, none⟩) N c)), (18, .val (.int .i64 (z : Int))), (5, .box 5 0), (6, .box 6 0), (7, .box 7 0), (10, .box 10 0), (12, .box 12 0), (14, .box 14 0), (16, .box 16 0), (17, .box 17 0)] ∧
     M = [(5, (27, ([.bool s5, .slice p5 n5 c5, .bool t5, .slice y5 m5 d5] : List Value).map .val)), (6, (27, ([.bool s6, .slice p6 n6 c6, .bool t6, .slice y6 m6 d6] : List Value).map .val)), (7, (27, ([.bool s'', .slice pc xs''.length cc, .bool t'', .slice yc ys''.length dc] : List Value).map .val)), (10, (27, ([.bool s7, .slice p7 n7 c7, .bool t7, .slice y7 m7 d7] : List Value).map .val)), (12, (27, ([.bool s8, .slice p8 n8 c8, .bool t8, .slice y8 m8 d8] : List Value).map .val)), (14, (25, ([.bool s9, .slice p9 n9 c9] : List Value).map .val)), (16, (27, ([.bool ls, .slice lp ln lc, .bool lt, .slice lr lm ld] : List Value).map .val)), (17, (27, ([.bool us, .slice up un uc, .bool ut, .slice ur um ud] : List Value).map .val))] ∧
     RatIn w' (.agg #[.bool ls, .slice lp ln lc, .bool lt, .slice lr lm ld]) lo 4 ∧ RatIn w' (.agg #[.bool us, .slice up un uc, .bool ut, .slice ur um ud]) hi 4 ∧ (∀ (i : Nat) (x : RBr), i < z → l[i]? = some x → lo ≤ x.2.q ∧ x.2.q ≤ hi) ∧ KpS (cxK Tryz.prog w 199).K w12 w') N
     ⟨_, _, ?_, ?_, ?_, ?_, ⟨0, e0.2.q, e0.2.q, _, _, _, _, _, _, _, _, _, _, _, _, _, _, _, _, by omega, rfl, rfl, rfl, hr0.kp (Kp.of (U := UU) bb12), hr0.kp (Kp.of (U := UU) bb12), fun i x hi => absurd hi (Nat.not_lt_zero i), kR _⟩⟩ ?_
    ·(repeat first|exact trivial|refine ⟨rfl, ?_⟩)
    ·(repeat first|exact trivial|refine ⟨rfl, ?_⟩)
    ·rfl
    ·(repeat first|exact trivial|refine ⟨ClosedC.lit rfl, ?_⟩|refine ⟨ClosedC.vals _, ?_⟩)
    rintro m L M w13 ⟨z, lo, hi, ls, lt, lp, lr, ln, lc, lm, ld, us, ut, up, ur, un, uc, um, ud, hz, rfl, rfl, rfl, hlo, hhi, hall, kw13⟩
    (repeat first|refine wN ?_|refine wP rfl ?_|refine cxK_r rfl ?_|refine cxK_d rfl ?_|refine wO rfl rfl ?_)
    by_cases hlt : z < N
    ·refine VS.condY rfl (decide_eq_true (Int.ofNat_lt.2 hlt)) ?_
     obtain ⟨x, hx⟩ : ∃ x, l[z]? = some x := ⟨_, List.getElem?_eq_getElem (by omega)⟩
     obtain ⟨b2, off2, cs2, hq2, hc2, hX⟩ := hv4.at hx
     cases hq2
     have hX0 := hX
     obtain ⟨xp, xc, xr, xd, yp, yc', yr, yd, rfl, -⟩ := hX
     have hxr := hX0.rate
     (repeat first|refine wN ?_|refine wP rfl ?_|refine cxK_r rfl ?_|refine cxK_d rfl ?_|refine wO rfl rfl ?_)
     refine VO.cond rfl ⟨by omega, by omega⟩ ?_
     refine wV rfl ?_
     (repeat first|refine wN ?_|refine wP rfl ?_|refine cxK_r rfl ?_|refine cxK_d rfl ?_|refine wO rfl rfl ?_)
     refine VO.read rfl [.bool x.2.1, .slice yp x.2.2.1.length yc', .bool x.2.2.2.1, .slice yr x.2.2.2.2.length yd] rfl (cells_at hc2 4 _ ⟨[], rfl⟩) (wV rfl ?_)
     (repeat first|refine wN ?_|refine wP rfl ?_|refine cxK_r rfl ?_|refine cxK_d rfl ?_|refine wO rfl rfl ?_)
     refine VO.callF rfl (fk Tryz.func30) (fun wa14 β ka14 ba14 ho => (ratMin_any _ _ lo [x.2.q] 4 wa14 (hlo.kp (T := fun _ => false) ka14.weak) (ownV_rats (ho.own 121 (.base (List.mem_singleton.2 rfl)) _ _ rfl) [] (vs := [[.bool x.2.1, .slice yp x.2.2.1.length yc', .bool x.2.2.2.1, .slice yr x.2.2.2.2.length yd]]) (by rfl) rfl (RatRow.cons (hxr.kp (Kp.of (U := UU) ba14)) RatRow.nil) (Nat.le_of_ble_eq_true rfl) (by decide)) (by omega) (Nat.le_of_ble_eq_true rfl)).mono ?_)
     rintro e w14 ⟨r14, rfl, q14, z14, hb14⟩
     obtain ⟨s14, p14, n14, c14, t14, y14, m14, d14, rfl⟩ := q14.form
     refine ⟨_, rfl, hb14, fun kb14 _ bb14 => wV rfl ?_⟩
     (repeat first|refine wN ?_|refine wP rfl ?_|refine cxK_r rfl ?_|refine cxK_d rfl ?_|refine wO rfl rfl ?_)
     refine VO.cond rfl ⟨by omega, by omega⟩ ?_
     refine wV rfl ?_
     (repeat first|refine wN ?_|refine wP rfl ?_|refine cxK_r rfl ?_|refine cxK_d rfl ?_|refine wO rfl rfl ?_)
     refine VO.read rfl [.bool x.2.1, .slice yp x.2.2.1.length yc', .bool x.2.2.2.1, .slice yr x.2.2.2.2.length yd] rfl (cells_at hc2 4 _ ⟨[], rfl⟩) (wV rfl ?_)
     (repeat first|refine wN ?_|refine wP rfl ?_|refine cxK_r rfl ?_|refine cxK_d rfl ?_|refine wO rfl rfl ?_)
     refine VO.callF rfl (fk Tryz.func29) (fun wa15 β ka15 ba15 ho => (ratMax_any _ _ hi [x.2.q] 4 wa15 (hhi.kp (T := fun _ => false) (kT kb14 ka15).weak) (ownV_rats (ho.own 129 (.base (List.mem_singleton.2 rfl)) _ _ rfl) [] (vs := [[.bool x.2.1, .slice yp x.2.2.1.length yc', .bool x.2.2.2.1, .slice yr x.2.2.2.2.length yd]]) (by rfl) rfl (RatRow.cons (hxr.kp (Kp.of (U := UU) ba15)) RatRow.nil) (Nat.le_of_ble_eq_true rfl) (by decide)) (by omega) (Nat.le_of_ble_eq_true rfl)).mono ?_)
     rintro e w15 ⟨r15, rfl, q15, z15, hb15⟩
     obtain ⟨s15, p15, n15, c15, t15, y15, m15, d15, rfl⟩ := q15.form
     refine ⟨_, rfl, hb15, fun kb15 _ bb15 => wV rfl ?_⟩
     (repeat first|refine wN ?_|refine wP rfl ?_|refine cxK_r rfl ?_|refine cxK_d rfl ?_|refine wO rfl rfl ?_)
     rw [rless_one] at q14 z14
     rw [rmax2] at q15 z15
     refine VS.back (N - (z + 1)) (by omega) ⟨_, _, ?_, ?_, ?_, ?_, ⟨z + 1, _, _, _, _, _, _, _, _, _, _, _, _, _, _, _, _, _, _, by omega, rfl, rfl, rfl, (q14.ki z14), (q15.ki z15), fun i y hiz hy => ?_, kT kw13 (kT kb14 kb15)⟩⟩
     ·refine ⟨rfl, ?_, rfl, rfl, rfl, rfl, rfl, rfl, rfl, rfl, trivial⟩
      rw [← nat_step (i := z) (by omega)]; rfl
     ·(repeat first|exact trivial|refine ⟨rfl, ?_⟩)
     ·rfl
     ·(repeat first|exact trivial|refine ⟨ClosedC.lit rfl, ?_⟩|refine ⟨ClosedC.vals _, ?_⟩)
     ·rcases Nat.lt_succ_iff_lt_or_eq.1 hiz with h | rfl
      ·obtain ⟨h1, h2⟩ := hall i y h hy
       constructor
       ·split <;> grind
       ·split <;> grind
      ·rw [hx] at hy; cases hy
       constructor
       ·split <;> grind
       ·split <;> grind
    ·refine VS.condN rfl (decide_eq_false (fun e => hlt (Int.ofNat_lt.1 e))) ?_
     have hzN : z = N := by omega
     have hal : ∀ (i : Nat) (x : RBr), l[i]? = some x → lo ≤ x.2.q ∧ x.2.q ≤ hi := fun i x hx => hall i x (by have := (List.getElem?_eq_some_iff.1 hx).1; omega) hx
     obtain ⟨v1, v2⟩ := tax_grows hbr f1 f2 hal
     have zlo := hlo.sz (show 1 ≤ 4 by omega)
     have zhi := hhi.sz (show 1 ≤ 4 by omega)
     (repeat first|refine wN ?_|refine wP rfl ?_|refine cxK_r rfl ?_|refine cxK_d rfl ?_|refine wO rfl rfl ?_)
     refine VO.call rfl rfl (fk Tryz.func31) (fun wa16 ka16 ba16 => (ratSub_any _ _ (taxq l Q) (taxq l P) 400 400 wa16 (q8.ki z8) (q7.ki z7) (by omega) (by omega)).mono ?_)
     rintro e w16 ⟨r16, rfl, q16, hb16⟩
     obtain ⟨s16, p16, n16, c16, t16, y16, m16, d16, rfl⟩ := q16.form
     refine ⟨_, rfl, hb16, fun kb16 _ bb16 => wV rfl ?_⟩
     (repeat first|refine wN ?_|refine wP rfl ?_|refine cxK_r rfl ?_|refine cxK_d rfl ?_|refine wO rfl rfl ?_)
     have z16 := z8.sub z7
     refine VO.call rfl rfl (fk Tryz.func31) (fun wa17 ka17 ba17 => (ratSub_any _ _ Q P 4 4 wa17 (q6.ki z6) (q5.ki z5) (by omega) (by omega)).mono ?_)
     rintro e w17 ⟨r17, rfl, q17, hb17⟩
     obtain ⟨s17, p17, n17, c17, t17, y17, m17, d17, rfl⟩ := q17.form
     refine ⟨_, rfl, hb17, fun kb17 _ bb17 => wV rfl ?_⟩
     (repeat first|refine wN ?_|refine wP rfl ?_|refine cxK_r rfl ?_|refine cxK_d rfl ?_|refine wO rfl rfl ?_)
     have z17 := z6.sub z5
     refine VO.call rfl rfl (fk Tryz.func32) (fun wa18 ka18 ba18 => (ratMul_any _ _ lo (Q - P) 4 9 wa18 (hlo.kp (kK)) (q17.ki z17) (by omega) (by omega)).mono ?_)
     rintro e w18 ⟨r18, rfl, q18, hb18⟩
     obtain ⟨s18, p18, n18, c18, t18, y18, m18, d18, rfl⟩ := q18.form
     refine ⟨_, rfl, hb18, fun kb18 _ bb18 => wV rfl ?_⟩
     (repeat first|refine wN ?_|refine wP rfl ?_|refine cxK_r rfl ?_|refine cxK_d rfl ?_|refine wO rfl rfl ?_)
     have z18 := zlo.mul z17
     obtain ⟨g7, hg7⟩ : ∃ g, rcmp (taxq l Q - taxq l P) (lo * (Q - P)) = g := ⟨_, rfl⟩
     have hg70 : ¬ g7 < 0 := by have := rcmp_ge.2 v1; omega
     refine VO.call rfl rfl (fk Tryz.func27) (fun wa19 ka19 ba19 => (ratCmp_ok _ _ (taxq l Q - taxq l P) (lo * (Q - P)) 801 13 wa19 (q16.ki z16) (q18.ki z18) (by omega) (by omega) g7 hg7).mono ?_)
     rintro e w19 ⟨rfl, hb19⟩
     skip
     refine ⟨_, rfl, hb19, fun kb19 _ bb19 => wV rfl ?_⟩
     (repeat first|refine wN ?_|refine wP rfl ?_|refine cxK_r rfl ?_|refine cxK_d rfl ?_|refine wO rfl rfl ?_)
     refine VO.fix 143 rfl (congrArg (fun b => AV.val (.bool b)) (decide_eq_false hg70)) ?_
     (repeat first|refine wN ?_|refine wP rfl ?_|refine cxK_r rfl ?_|refine cxK_d rfl ?_|refine wO rfl rfl ?_)
     refine VO.call rfl rfl (fk Tryz.func32) (fun wa20 ka20 ba20 => (ratMul_any _ _ hi (Q - P) 4 9 wa20 (hhi.kp (kK)) (q17.ki z17) (by omega) (by omega)).mono ?_)
     rintro e w20 ⟨r20, rfl, q20, hb20⟩
     obtain ⟨s20, p20, n20, c20, t20, y20, m20, d20, rfl⟩ := q20.form
     refine ⟨_, rfl, hb20, fun kb20 _ bb20 => wV rfl ?_⟩
     (repeat first|refine wN ?_|refine wP rfl ?_|refine cxK_r rfl ?_|refine cxK_d rfl ?_|refine wO rfl rfl ?_)
     have z20 := zhi.mul z17
     obtain ⟨g8, hg8⟩ : ∃ g, rcmp (taxq l Q - taxq l P) (hi * (Q - P)) = g := ⟨_, rfl⟩
     have hg80 : ¬ g8 > 0 := by have := rcmp_le.2 v2; omega
     refine VO.call rfl rfl (fk Tryz.func27) (fun wa21 ka21 ba21 => (ratCmp_ok _ _ (taxq l Q - taxq l P) (hi * (Q - P)) 801 13 wa21 (q16.ki z16) (q20.ki z20) (by omega) (by omega) g8 hg8).mono ?_)
     rintro e w21 ⟨rfl, hb21⟩
     skip
     refine ⟨_, rfl, hb21, fun kb21 _ bb21 => wV rfl ?_⟩
     (repeat first|refine wN ?_|refine wP rfl ?_|refine cxK_r rfl ?_|refine cxK_d rfl ?_|refine wO rfl rfl ?_)
     refine VS.condN rfl (decide_eq_false hg80) ?_
     (repeat first|refine wN ?_|refine wP rfl ?_|refine cxK_r rfl ?_|refine cxK_d rfl ?_|refine wO rfl rfl ?_)
     refine VO.call rfl rfl (fk Tryz.func28) (fun wa22 ka22 ba22 => (ratWhole_any 200 wa22 (by omega) (by omega)).mono ?_)
     rintro e w22 ⟨r22, rfl, q22, hb22⟩
     obtain ⟨s22, p22, n22, c22, t22, y22, m22, d22, rfl⟩ := q22.form
     refine ⟨_, rfl, hb22, fun kb22 _ bb22 => wV rfl ?_⟩
     (repeat first|refine wN ?_|refine wP rfl ?_|refine cxK_r rfl ?_|refine cxK_d rfl ?_|refine wO rfl rfl ?_)
     refine VO.call rfl rfl (fk Tryz.func33) (fun wa23 ka23 ba23 => (rdFromCents_any _ (centsq l Q) 403 wa23 (q9.ki z9) (by omega)).mono ?_)
     rintro e w23 ⟨r23, rfl, q23, hb23⟩
     obtain ⟨s23, p23, n23, c23, t23, y23, m23, d23, rfl⟩ := q23.form
     refine ⟨_, rfl, hb23, fun kb23 _ bb23 => wV rfl ?_⟩
     (repeat first|refine wN ?_|refine wP rfl ?_|refine cxK_r rfl ?_|refine cxK_d rfl ?_|refine wO rfl rfl ?_)
     have z23 := cents_rsz z9 (by omega)
     refine VO.call rfl rfl (fk Tryz.func31) (fun wa24 ka24 ba24 => (ratSub_any _ _ (Rat.divInt (centsq l Q) 100) (taxq l Q) 404 400 wa24 (q23.ki z23) (q8.ki z8) (by omega) (by omega)).mono ?_)
     rintro e w24 ⟨r24, rfl, q24, hb24⟩
     obtain ⟨s24, p24, n24, c24, t24, y24, m24, d24, rfl⟩ := q24.form
     refine ⟨_, rfl, hb24, fun kb24 _ bb24 => wV rfl ?_⟩
     (repeat first|refine wN ?_|refine wP rfl ?_|refine cxK_r rfl ?_|refine cxK_d rfl ?_|refine wO rfl rfl ?_)
     have z24 := z23.sub z8
     have z22 : RSz ((200 : Int) : Rat) 1 := whole_sz (by decide)
     refine VO.call rfl rfl (fk Tryz.func32) (fun wa25 ka25 ba25 => (ratMul_any _ _ ((200 : Int) : Rat) (Rat.divInt (centsq l Q) 100 - taxq l Q) 1 805 wa25 (q22.ki z22) (q24.ki z24) (by omega) (by omega)).mono ?_)
     rintro e w25 ⟨r25, rfl, q25, hb25⟩
     obtain ⟨s25, p25, n25, c25, t25, y25, m25, d25, rfl⟩ := q25.form
     refine ⟨_, rfl, hb25, fun kb25 _ bb25 => wV rfl ?_⟩
     (repeat first|refine wN ?_|refine wP rfl ?_|refine cxK_r rfl ?_|refine cxK_d rfl ?_|refine wO rfl rfl ?_)
     have z25 := z22.mul z24
     obtain ⟨n1', n2'⟩ := cents_near (taxq l Q)
     obtain ⟨W, hW⟩ : ∃ W, W = ((200 : Int) : Rat) * (Rat.divInt (centsq l Q) 100 - taxq l Q) := ⟨_, rfl⟩
     replace n1' : W ≤ ((1 : Int) : Rat) := by rw [hW]; exact n1'
     replace n2' : ((-1 : Int) : Rat) ≤ W := by rw [hW]; exact n2'
     rw [← hW] at q25 z25
     refine VO.call rfl rfl (fk Tryz.func14) (fun wa26 ka26 ba26 => (bRefund_ok _ _ _ l 4 403 P Q wa26 (hv4.beh (br_ok 4) ba26) (q5.ki z5) (q6.ki z6) (by omega) (by omega) (by omega) 0 hcd (centsq l P - centsq l Q) rfl (by omega)).mono ?_)
     rintro e w26 ⟨r26, rfl, q26, z26, hb26⟩
     obtain ⟨s26, p26, n26, c26, rfl⟩ := q26.form
     refine ⟨_, rfl, hb26, fun kb26 _ bb26 => wV rfl ?_⟩
     (repeat first|refine wN ?_|refine wP rfl ?_|refine cxK_r rfl ?_|refine cxK_d rfl ?_|refine wO rfl rfl ?_)
     refine VO.call rfl rfl (fk Tryz.func14) (fun wa27 ka27 ba27 => (bRefund_ok _ _ _ l 4 403 Q Z wa27 (hv4.beh (br_ok 4) ba27) (q6.ki z6) (hci.kp (Kp.of (U := UU) ba27)) (by omega) (by omega) (by omega) 0 hcd (centsq l Q - centsq l Z) rfl (by omega)).mono ?_)
     rintro e w27 ⟨r27, rfl, q27, z27, hb27⟩
     obtain ⟨s27, p27, n27, c27, rfl⟩ := q27.form
     refine ⟨_, rfl, hb27, fun kb27 _ bb27 => wV rfl ?_⟩
     (repeat first|refine wN ?_|refine wP rfl ?_|refine cxK_r rfl ?_|refine cxK_d rfl ?_|refine wO rfl rfl ?_)
     refine VO.call rfl rfl (fk Tryz.func14) (fun wa28 ka28 ba28 => (bRefund_ok _ _ _ l 4 403 P Z wa28 (hv4.beh (br_ok 4) ba28) (q5.ki z5) (hci.kp (Kp.of (U := UU) ba28)) (by omega) (by omega) (by omega) 0 hcd (centsq l P - centsq l Z) rfl (by omega)).mono ?_)
     rintro e w28 ⟨r28, rfl, q28, z28, hb28⟩
     obtain ⟨s28, p28, n28, c28, rfl⟩ := q28.form
     refine ⟨_, rfl, hb28, fun kb28 _ bb28 => wV rfl ?_⟩
     (repeat first|refine wN ?_|refine wP rfl ?_|refine cxK_r rfl ?_|refine cxK_d rfl ?_|refine wO rfl rfl ?_)
     refine VO.call rfl rfl (fk Tryz.func28) (fun wa29 ka29 ba29 => (ratWhole_any 1 wa29 (by omega) (by omega)).mono ?_)
     rintro e w29 ⟨r29, rfl, q29, hb29⟩
     obtain ⟨s29, p29, n29, c29, t29, y29, m29, d29, rfl⟩ := q29.form
     refine ⟨_, rfl, hb29, fun kb29 _ bb29 => wV rfl ?_⟩
     (repeat first|refine wN ?_|refine wP rfl ?_|refine cxK_r rfl ?_|refine cxK_d rfl ?_|refine wO rfl rfl ?_)
     obtain ⟨g9, hg9⟩ : ∃ g, rcmp W ((1 : Int) : Rat) = g := ⟨_, rfl⟩
     have hg90 : g9 ≤ 0 := by have := rcmp_le.2 n1'; omega
     refine VO.call rfl rfl (fk Tryz.func27) (fun wa30 ka30 ba30 => (ratCmp_ok _ _ W ((1 : Int) : Rat) 806 1 wa30 (q25.ki z25) (q29.ki (whole_sz (by decide))) (by omega) (by omega) g9 hg9).mono ?_)
     rintro e w30 ⟨rfl, hb30⟩
     skip
     refine ⟨_, rfl, hb30, fun kb30 _ bb30 => wV rfl ?_⟩
     (repeat first|refine wN ?_|refine wP rfl ?_|refine cxK_r rfl ?_|refine cxK_d rfl ?_|refine wO rfl rfl ?_)
     refine VO.fix 182 rfl (congrArg (fun b => AV.val (.bool b)) (decide_eq_true hg90)) ?_
     (repeat first|refine wN ?_|refine wP rfl ?_|refine cxK_r rfl ?_|refine cxK_d rfl ?_|refine wO rfl rfl ?_)
     refine VO.call rfl rfl (fk Tryz.func28) (fun wa31 ka31 ba31 => (ratWhole_any (-1) wa31 (by omega) (by omega)).mono ?_)
     rintro e w31 ⟨r31, rfl, q31, hb31⟩
     obtain ⟨s31, p31, n31, c31, t31, y31, m31, d31, rfl⟩ := q31.form
     refine ⟨_, rfl, hb31, fun kb31 _ bb31 => wV rfl ?_⟩
     (repeat first|refine wN ?_|refine wP rfl ?_|refine cxK_r rfl ?_|refine cxK_d rfl ?_|refine wO rfl rfl ?_)
     obtain ⟨g10, hg10⟩ : ∃ g, rcmp W ((-1 : Int) : Rat) = g := ⟨_, rfl⟩
     have hg100 : g10 ≥ 0 := by have := rcmp_ge.2 n2'; omega
     refine VO.call rfl rfl (fk Tryz.func27) (fun wa32 ka32 ba32 => (ratCmp_ok _ _ W ((-1 : Int) : Rat) 806 1 wa32 (q25.ki z25) (q31.ki (whole_sz (by decide))) (by omega) (by omega) g10 hg10).mono ?_)
     rintro e w32 ⟨rfl, hb32⟩
     skip
     refine ⟨_, rfl, hb32, fun kb32 _ bb32 => wV rfl ?_⟩
     (repeat first|refine wN ?_|refine wP rfl ?_|refine cxK_r rfl ?_|refine cxK_d rfl ?_|refine wO rfl rfl ?_)
     refine VO.fix 188 rfl (congrArg (fun b => AV.val (.bool b)) (decide_eq_true hg100)) ?_
     (repeat first|refine wN ?_|refine wP rfl ?_|refine cxK_r rfl ?_|refine cxK_d rfl ?_|refine wO rfl rfl ?_)
     refine VO.call rfl rfl (fk Tryz.func35) (fun wa33 ka33 ba33 => (badd_any _ _ (centsq l P - centsq l Q) (centsq l Q - centsq l Z) 403 403 wa33 (q26.ki z26) (q27.ki z27) (by omega) (by omega)).mono ?_)
     rintro e w33 ⟨r33, rfl, q33, hb33⟩
     obtain ⟨s33, p33, n33, c33, rfl⟩ := q33.form
     refine ⟨_, rfl, hb33, fun kb33 _ bb33 => wV rfl ?_⟩
     (repeat first|refine wN ?_|refine wP rfl ?_|refine cxK_r rfl ?_|refine cxK_d rfl ?_|refine wO rfl rfl ?_)
     have z33 : Sz (centsq l P - centsq l Q + (centsq l Q - centsq l Z)) 404 := Sz.add z26 z27 (Nat.le_refl _) (Nat.le_refl _)
     refine VO.call rfl rfl (fk Tryz.func34) (fun wa34 ka34 ba34 => (bcmp_ok _ _ (centsq l P - centsq l Q + (centsq l Q - centsq l Z)) (centsq l P - centsq l Z) 404 403 wa34 (q33.ki z33) (q28.ki z28) (by omega) (by omega) 0 (ref_add _ _ _)).mono ?_)
     rintro e w34 ⟨rfl, hb34⟩
     skip
     refine ⟨_, rfl, hb34, fun kb34 _ bb34 => wV rfl ?_⟩
     (repeat first|refine wN ?_|refine wP rfl ?_|refine cxK_r rfl ?_|refine cxK_d rfl ?_|refine wO rfl rfl ?_)
     refine VO.call rfl rfl (fk Tryz.func8) (fun wa35 ka35 ba35 => (works28_any wa35).mono ?_)
     rintro e w35 ⟨rfl, hb35⟩
     skip
     refine ⟨_, rfl, hb35, fun kb35 _ bb35 => wV rfl ?_⟩
     (repeat first|refine wN ?_|refine wP rfl ?_|refine cxK_r rfl ?_|refine cxK_d rfl ?_|refine wO rfl rfl ?_)
     refine VS.ret (cxK_ok _ _) rfl rfl (fun wz kz bz => ?_)
     exact ⟨rfl, bz⟩
end Go.Proofs.YtofdiijioejljaaGreat
