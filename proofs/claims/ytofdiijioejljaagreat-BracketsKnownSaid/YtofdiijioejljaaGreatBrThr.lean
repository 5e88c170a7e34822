/- Tax by brackets: cents, refund, rate; the reference's part, tax, cents, refund, rate. -/
import Derived.Test.YtofdiijioejljaaGreatBrTwo
import Derived.Test.YtofdiijioejljaaGreatRoundA
import Derived.Test.YtofdiijioejljaaGreatRef05
set_option linter.all false
set_option maxRecDepth 4000
namespace Go.Proofs.YtofdiijioejljaaGreat
open Go.RowKit
attribute [local irreducible] vcOps VS

theorem Sz.hf {q : Rat} {k : Nat} (h : RSz q k) : Sz (hf q) (up1 k + 1) := by
 have h0 : Sz q.floor (up1 k) := (Sz.floor h).mono (by unfold up1; omega)
 have h1 : Sz (q.floor + 1) (up1 k + 1) := Sz.add h0 (Sz.small (by decide) : Sz 1 1) (Nat.le_refl _) (by unfold up1; omega)
 unfold Proofs.YtofdiijioejljaaGreat.hf
 split
 ·exact h0.mono (by omega)
 ·split
  ·exact h1
  ·split
   ·exact h0.mono (by omega)
   ·exact h1
theorem r100 : RSz ((100 : Int) : Rat) 1 := by
 have : ((100 : Int) : Rat) = Rat.divInt 100 1 := by rw [Rat.divInt_eq_div]; grind
 rw [this]
 exact RSz.of (by decide) (by decide)
def centsq (l : List RBr) (a : Rat) : Int := hf (taxq l a * ((100 : Int) : Rat))
theorem centsq_sz {l : List RBr} {a : Rat} {k : Nat} (h : RSz (taxq l a) k) : Sz (centsq l a) (k + 2) := (Sz.hf (h.mul r100)).mono (by unfold up1; omega)
theorem bCents_any (v u : Value) (l : List RBr) (kk : Nat) (a : Rat) (w : World) (hv : SlIn (BrE kk) 8 w v l) (hu : RatIn w u a kk) (hk1 : 1 ≤ kk) (hk : kk ≤ 1000) (hn : l.length ≤ 64) :
  Calls Tryz.prog 12 #[v, u] w fun o w' => ∃ x, o = .returned (.tuple #[x, .int .i64 (tcode l)]) ∧ IntOwn w' w.heap.size x (centsq l a) ∧ Sz (centsq l a) (tsz l.length kk + 2) ∧ Beh w w' := by
 obtain ⟨p, c, rfl, hnc, hcm⟩ := hv.form
 obtain ⟨is, ip, im, ic, it, ir, jm, jc, rfl⟩ := hu.form
 have hsz := tsz_le hn hk
 refine calm_enter (C := cxOf Tryz.prog w _) (args := [_, _]) Tryz.func12 rfl Tryz.ntmps12 (Nat.le_of_ble_eq_true rfl) ?_
 (repeat first|refine wN ?_|refine wP rfl ?_|refine cx_r rfl ?_|refine cx_d rfl ?_|refine wO rfl rfl ?_)
 refine VO.call rfl rfl (fk Tryz.func11) (fun wa1 ka1 ba1 => (bTax_any _ _ l kk a wa1 (hv.beh (br_ok kk) ba1) (hu.kp (Kp.of (U := UU) ba1)) hk1 hk hn).mono ?_)
 rintro e w1 ⟨r1, rfl, q1, z1, hb1⟩
 obtain ⟨s1, p1, n1, c1, t1, y1, m1, d1, rfl⟩ := q1.form
 refine ⟨_, rfl, hb1, fun kb1 _ bb1 => wV rfl ?_⟩
 (repeat first|refine wN ?_|refine wP rfl ?_|refine cx_r rfl ?_|refine cx_d rfl ?_|refine wO rfl rfl ?_)
 refine VO.call rfl rfl (fk Tryz.func42) (fun wa2 ka2 ba2 => (rdCents_any _ (taxq l a) (tsz l.length kk) wa2 (q1.ki z1) (by omega)).mono ?_)
 rintro e w2 ⟨r2, rfl, q2, hb2⟩
 obtain ⟨s2, p2, n2, c2, rfl⟩ := q2.form
 refine ⟨_, rfl, hb2, fun kb2 _ bb2 => wV rfl ?_⟩
 (repeat first|refine wN ?_|refine wP rfl ?_|refine cx_r rfl ?_|refine cx_d rfl ?_|refine wO rfl rfl ?_)
 refine VS.ret (cx_ok _ _) rfl rfl (fun wz kz bz => ?_)
 exact ⟨_, rfl, (q2.k).mono ba2.size, centsq_sz z1, bz⟩
theorem bRefund_any (v u u' : Value) (l : List RBr) (kk : Nat) (a b : Rat) (w : World) (hv : SlIn (BrE kk) 8 w v l) (hu : RatIn w u a kk) (hu' : RatIn w u' b kk) (hk1 : 1 ≤ kk) (hk : kk ≤ 1000) (hn : l.length ≤ 64) :
  Calls Tryz.prog 14 #[v, u, u'] w fun o w' => ∃ x, o = .returned (.tuple #[x, .int .i64 (tcode l)]) ∧ IntOwn w' w.heap.size x (centsq l a - centsq l b) ∧ Sz (centsq l a - centsq l b) (tsz l.length kk + 3) ∧ Beh w w' := by
 obtain ⟨p, c, rfl, hnc, hcm⟩ := hv.form
 obtain ⟨is, ip, im, ic, it, ir, jm, jc, rfl⟩ := hu.form
 obtain ⟨js, jp, jn, je, jt, jr, km, kc, rfl⟩ := hu'.form
 have hsz := tsz_le hn hk
 refine calm_enter (C := cxOf Tryz.prog w _) (args := [_, _, _]) Tryz.func14 rfl Tryz.ntmps14 (Nat.le_of_ble_eq_true rfl) ?_
 (repeat first|refine wN ?_|refine wP rfl ?_|refine cx_r rfl ?_|refine cx_d rfl ?_|refine wO rfl rfl ?_)
 refine VO.call rfl rfl (fk Tryz.func12) (fun wa1 ka1 ba1 => (bCents_any _ _ l kk a wa1 (hv.beh (br_ok kk) ba1) (hu.kp (Kp.of (U := UU) ba1)) hk1 hk hn).mono ?_)
 rintro e w1 ⟨r1, rfl, q1, z1, hb1⟩
 obtain ⟨s1, p1, n1, c1, rfl⟩ := q1.form
 refine ⟨_, rfl, hb1, fun kb1 _ bb1 => wV rfl ?_⟩
 (repeat first|refine wN ?_|refine wP rfl ?_|refine cx_r rfl ?_|refine cx_d rfl ?_|refine wO rfl rfl ?_)
 refine VO.call rfl rfl (fk Tryz.func12) (fun wa2 ka2 ba2 => (bCents_any _ _ l kk b wa2 (hv.beh (br_ok kk) ba2) (hu'.kp (Kp.of (U := UU) ba2)) hk1 hk hn).mono ?_)
 rintro e w2 ⟨r2, rfl, q2, z2, hb2⟩
 obtain ⟨s2, p2, n2, c2, rfl⟩ := q2.form
 refine ⟨_, rfl, hb2, fun kb2 _ bb2 => wV rfl ?_⟩
 (repeat first|refine wN ?_|refine wP rfl ?_|refine cx_r rfl ?_|refine cx_d rfl ?_|refine wO rfl rfl ?_)
 refine VO.call rfl rfl (fk Tryz.func44) (fun wa3 ka3 ba3 => (bsub_any _ _ (centsq l a) (centsq l b) (tsz l.length kk + 2) (tsz l.length kk + 2) wa3 (q1.ki z1) (q2.ki z2) (by omega) (by omega)).mono ?_)
 rintro e w3 ⟨r3, rfl, q3, hb3⟩
 obtain ⟨s3, p3, n3, c3, rfl⟩ := q3.form
 refine ⟨_, rfl, hb3, fun kb3 _ bb3 => wV rfl ?_⟩
 (repeat first|refine wN ?_|refine wP rfl ?_|refine cx_r rfl ?_|refine cx_d rfl ?_|refine wO rfl rfl ?_)
 refine VS.ret (cx_ok _ _) rfl rfl (fun wz kz bz => ?_)
 refine ⟨_, rfl, (q3.k).mono ba3.size, ?_, bz⟩
 rw [Int.sub_eq_add_neg]
 exact Sz.add z1 z2.neg (Nat.le_refl _) (Nat.le_refl _)
end Go.Proofs.YtofdiijioejljaaGreat
/- Tax by brackets: the rate. -/
namespace Go.Proofs.YtofdiijioejljaaGreat
open Go.RowKit
attribute [local irreducible] vcOps VS

def rate0 (l : List RBr) : Rat := match l with | x :: _ => x.2.q | [] => 0
def rateq (l : List RBr) (a : Rat) : Rat := if bright l = true then brate a (rate0 l) (brs l) else 0
theorem rate_tail {l : List RBr} {a : Rat} (h : bright l = true) : rateq l a = brate a (rate0 l) ((brs l).drop 1) := by
 unfold rateq
 rw [if_pos h]
 cases l with
 | nil => rfl
 | cons x r =>
  show brate a (if x.1.q ≤ a then x.2.q else x.2.q) (brs r) = brate a x.2.q (brs r)
  rw [ite_self]
theorem SlIn.drop1 {α : Type} {E : World → List Value → α → Prop} {sz : Nat} {w : World} {p : Option Addr} {n c : Nat} {es : List α} (h : SlIn E sz w (.slice p n c) es) (hn : 1 ≤ n) : SlIn E sz w (.slice (if c = 1 then p else p.map (·.add (1 * sz))) (n - 1) (c - 1)) (es.drop 1) := by
 obtain ⟨p', d, e, h1, h2, h3⟩ := h
 cases e
 refine ⟨_, _, by rw [List.length_drop], by rw [List.length_drop]; omega, by omega, fun i q hq => ?_⟩
 have hlt := (List.getElem?_eq_some_iff.1 hq).1
 rw [List.length_drop] at hlt
 rw [List.getElem?_drop, Nat.add_comm] at hq
 obtain ⟨b', off', cs, rfl, h4, h5⟩ := h3 (i + 1) q hq
 rw [if_neg (by omega)]
 refine ⟨b', off' + 1 * sz, cs, by rw [Option.map_some, Addr.add_mid], fun j u hj => ?_, h5⟩
 have := h4 j u hj
 rw [Nat.succ_mul] at this
 rw [Nat.one_mul, show off' + sz + i * sz + j = off' + (i * sz + sz) + j by omega]
 exact this
theorem BrE.rate {kk : Nat} {w : World} {y : RBr} {s1 t1 s2 t2 : Bool} {p1 r1 p2 r2 : Option Addr} {n1 c1 m1 d1 n2 c2 m2 d2 : Nat} (h : BrE kk w [.bool s1, .slice p1 n1 c1, .bool t1, .slice r1 m1 d1, .bool s2, .slice p2 n2 c2, .bool t2, .slice r2 m2 d2] y) : RatIn w (.agg #[.bool s2, .slice p2 n2 c2, .bool t2, .slice r2 m2 d2]) y.2.q kk := by
 obtain ⟨_, _, _, _, _, _, _, _, e, _, h2, _, _, h3, h4⟩ := h
 cases e
 exact h2.in h3 h4
theorem BrE.from {kk : Nat} {w : World} {y : RBr} {s1 t1 s2 t2 : Bool} {p1 r1 p2 r2 : Option Addr} {n1 c1 m1 d1 n2 c2 m2 d2 : Nat} (h : BrE kk w [.bool s1, .slice p1 n1 c1, .bool t1, .slice r1 m1 d1, .bool s2, .slice p2 n2 c2, .bool t2, .slice r2 m2 d2] y) : RatIn w (.agg #[.bool s1, .slice p1 n1 c1, .bool t1, .slice r1 m1 d1]) y.1.q kk := by
 obtain ⟨_, _, _, _, _, _, _, _, e, h1, _, h3, h4, _⟩ := h
 cases e
 exact h1.in h3 h4
theorem rsum_one (q : Rat) : rsum [q] = q := by show 0 + q = q; grind
set_option maxRecDepth 4000 in
set_option maxHeartbeats 4000000 in
theorem bRate_any (v u : Value) (l : List RBr) (kk : Nat) (a : Rat) (w : World) (hv : SlIn (BrE kk) 8 w v l) (hu : RatIn w u a kk) (hk1 : 1 ≤ kk) (hk : kk ≤ 1000) (hn : l.length ≤ 64) :
  Calls Tryz.prog 13 #[v, u] w fun o w' => ∃ x, o = .returned (.tuple #[x, .int .i64 (tcode l)]) ∧ RatOwn w' w.heap.size x (rateq l a) ∧ RSz (rateq l a) kk ∧ Beh w w' := by
 obtain ⟨p, c, rfl, hnc, hcm⟩ := hv.form
 obtain ⟨is, ip, im, ic, it, ir, jm, jc, rfl⟩ := hu.form
 obtain ⟨N, hN⟩ : ∃ N, N = l.length := ⟨_, rfl⟩
 rw [← hN] at hv hnc hn
 rw [← hN]
 refine calm_enter (C := cxOf Tryz.prog w _) (args := [_, _]) Tryz.func13 rfl Tryz.ntmps13 (Nat.le_of_ble_eq_true rfl) ?_
 (repeat first|refine wN ?_|refine wP rfl ?_|refine cx_r rfl ?_|refine cx_d rfl ?_|refine wO rfl rfl ?_)
 cases hb : bright l with
 | false =>
  have htc : tcode l = 2 := by unfold tcode; rw [hb]; rfl
  have htq : rateq l a = 0 := by unfold rateq; rw [hb]; rfl
  refine VO.call rfl rfl (fk Tryz.func19) (fun wa1 ka1 ba1 => (bRight_ok _ l kk wa1 (hv.beh (br_ok kk) ba1) (by omega) false hb).mono ?_)
  rintro e w1 ⟨rfl, hb1⟩
  skip
  refine ⟨_, rfl, hb1, fun kb1 _ bb1 => wV rfl ?_⟩
  (repeat first|refine wN ?_|refine wP rfl ?_|refine cx_r rfl ?_|refine cx_d rfl ?_|refine wO rfl rfl ?_)
  refine VO.call rfl rfl (fk Tryz.func28) (fun wa2 ka2 ba2 => (ratWhole_any 0 wa2 (by omega) (by omega)).mono ?_)
  rintro e w2 ⟨r2, rfl, q2, hb2⟩
  obtain ⟨s2, p2, n2, c2, t2, y2, m2, d2, rfl⟩ := q2.form
  refine ⟨_, rfl, hb2, fun kb2 _ bb2 => wV rfl ?_⟩
  (repeat first|refine wN ?_|refine wP rfl ?_|refine cx_r rfl ?_|refine cx_d rfl ?_|refine wO rfl rfl ?_)
  refine VS.ret (cx_ok _ _) rfl rfl (fun wz kz bz => ?_)
  rw [htc, htq]
  exact ⟨_, rfl, (q2.k).mono ba2.size, RSz.zero.mono hk1, bz⟩
 | true =>
  have htc : tcode l = 0 := by unfold tcode; rw [hb]; rfl
  have hN1 : 0 < N := by rw [hN]; exact (bright_iff.1 hb).1
  obtain ⟨e, he⟩ : ∃ e, l[0]? = some e := ⟨_, List.getElem?_eq_getElem (by omega)⟩
  obtain ⟨b, off, cs', hpp, hc, hE⟩ := hv.at he
  have hE0 := hE
  obtain ⟨ap, ac, ar, ad, bp, bc, br, bd, rfl, -⟩ := hE
  subst hpp
  have hr0 : rate0 l = e.2.q := by
   cases l with
   | nil => cases he
   | cons x r => cases he; rfl
  have hvt := hv.drop1 hN1
  refine VO.call rfl rfl (fk Tryz.func19) (fun wa1 ka1 ba1 => (bRight_ok _ l kk wa1 (hv.beh (br_ok kk) ba1) (by omega) true hb).mono ?_)
  rintro e w1 ⟨rfl, hb1⟩
  skip
  refine ⟨_, rfl, hb1, fun kb1 _ bb1 => wV rfl ?_⟩
  (repeat first|refine wN ?_|refine wP rfl ?_|refine cx_r rfl ?_|refine cx_d rfl ?_|refine wO rfl rfl ?_)
  refine VO.cond rfl ⟨by omega, by omega⟩ ?_
  refine wV rfl ?_
  (repeat first|refine wN ?_|refine wP rfl ?_|refine cx_r rfl ?_|refine cx_d rfl ?_|refine wO rfl rfl ?_)
  refine VO.read rfl [.bool e.1.1, .slice ap e.1.2.1.length ac, .bool e.1.2.2.1, .slice ar e.1.2.2.2.length ad, .bool e.2.1, .slice bp e.2.2.1.length bc, .bool e.2.2.2.1, .slice br e.2.2.2.2.length bd] rfl (cells_at hc 0 _ ⟨[], rfl⟩) (wV rfl ?_)
  (repeat first|refine wN ?_|refine wP rfl ?_|refine cx_r rfl ?_|refine cx_d rfl ?_|refine wO rfl rfl ?_)
  obtain ⟨q, hq⟩ : ∃ q, q = if c = 1 then some (⟨b, off, none⟩ : Addr) else (some (⟨b, off, none⟩ : Addr)).map (·.add (1 * 8)) := ⟨_, rfl⟩
  rw [← hq] at hvt
  refine VO.cond rfl ⟨(by decide : (0 : Int) ≤ 1), (show (1 : Int) ≤ (N : Int) by omega), (show (N : Int) ≤ (c : Int) by omega), (show (c : Int) ≤ 9223372036854775807 by omega)⟩ ?_
  refine VO.fix 17 rfl (congrArg AV.val (show Value.slice (if c = 1 then some (⟨b, off, none⟩ : Addr) else (some (⟨b, off, none⟩ : Addr)).map (·.add (1 * 8))) ((N : Int).toNat - 1) (c - 1) = .slice q (N - 1) (c - 1) by rw [← hq, Int.toNat_natCast])) ?_
  refine wV rfl ?_
  (repeat first|refine wN ?_|refine wP rfl ?_|refine cx_r rfl ?_|refine cx_d rfl ?_|refine wO rfl rfl ?_)
  obtain ⟨M1, hM1⟩ : ∃ M1, M1 = N - 1 := ⟨_, rfl⟩
  rw [← hM1] at hvt
  rw [← hM1]
  have hld : (l.drop 1).length = M1 := by rw [List.length_drop]; omega
  refine VS.loop (J := fun m L M w' => ∃ (z : Nat) (y : RBr) (s1 t1 s2 t2 : Bool) (p1 r1 p2 r2 : Option Addr) (n1 c1 m1 d1 n2 c2 m2 d2 : Nat), z ≤ M1 ∧ m = M1 - z ∧ L = [(17, .val (.slice q M1 (c - 1))), (18, .val (.int .i64 (M1 : Int))), (19, .val (.int .i64 (z : Int))), (3, .box 3 0), (4, .box 4 0), (6, .box 6 0)] ∧
   M = [(3, (27, ([.bool is, .slice ip im ic, .bool it, .slice ir jm jc] : List Value).map .val)), (4, (27, ([.bool false, .slice none 0 0, .bool false, .slice none 0 0] : List Value).map .val)), (6, (59, ([.bool s1, .slice p1 n1 c1, .bool t1, .slice r1 m1 d1, .bool s2, .slice p2 n2 c2, .bool t2, .slice r2 m2 d2] : List Value).map .val))] ∧
   BrE kk w' [.bool s1, .slice p1 n1 c1, .bool t1, .slice r1 m1 d1, .bool s2, .slice p2 n2 c2, .bool t2, .slice r2 m2 d2] y ∧ y.2.q = brate a (rate0 l) (((brs l).drop 1).take z)) M1
   ⟨_, _, ?_, ?_, ?_, ?_, ⟨0, e, _, _, _, _, _, _, _, _, _, _, _, _, _, _, _, _, by omega, rfl, rfl, rfl, (hE0.kp (T := fun _ => false) kb1), by rw [hr0]; rfl⟩⟩ ?_
  ·(repeat first|exact trivial|refine ⟨rfl, ?_⟩)
  ·(repeat first|exact trivial|refine ⟨rfl, ?_⟩)
  ·rfl
  ·(repeat first|exact trivial|refine ⟨ClosedC.lit rfl, ?_⟩|refine ⟨ClosedC.vals _, ?_⟩)
  rintro m L M wJ ⟨z, y, s1, t1, s2, t2, p1, r1, p2, r2, n1, c1, m1, d1, n2, c2, m2, d2, hz, rfl, rfl, rfl, hY, hyr⟩
  (repeat first|refine wN ?_|refine wP rfl ?_|refine cx_r rfl ?_|refine cx_d rfl ?_|refine wO rfl rfl ?_)
  by_cases hlt : z < M1
  ·refine VS.condY rfl (decide_eq_true (Int.ofNat_lt.2 hlt)) ?_
   obtain ⟨x, hx⟩ : ∃ x, (l.drop 1)[z]? = some x := ⟨_, List.getElem?_eq_getElem (by omega)⟩
   obtain ⟨b2, off2, cs2, hq2, hc2, hX⟩ := hvt.at hx
   have hX0 := hX
   obtain ⟨xp, xc, xr, xd, yp, yc, yr, yd, rfl, -⟩ := hX
   have hxl : ((brs l).drop 1)[z]? = some x.br := by
    rw [List.getElem?_drop]
    rw [List.getElem?_drop] at hx
    exact brs_at hx
   have hsn := brate_snoc (a := a) (r0 := rate0 l) hxl
   rw [← hyr] at hsn
   rw [hq2]
   obtain ⟨cg, hcg⟩ : ∃ cg, rcmp x.1.q a = cg := ⟨_, rfl⟩
   have hcg0 : x.1.q ≤ a ↔ cg ≤ 0 := by rw [← hcg]; exact rcmp_le.symm
   (repeat first|refine wN ?_|refine wP rfl ?_|refine cx_r rfl ?_|refine cx_d rfl ?_|refine wO rfl rfl ?_)
   refine VO.cond rfl ⟨by omega, by omega⟩ ?_
   refine wV rfl ?_
   (repeat first|refine wN ?_|refine wP rfl ?_|refine cx_r rfl ?_|refine cx_d rfl ?_|refine wO rfl rfl ?_)
   refine VO.read rfl [.bool x.1.1, .slice xp x.1.2.1.length xc, .bool x.1.2.2.1, .slice xr x.1.2.2.2.length xd, .bool x.2.1, .slice yp x.2.2.1.length yc, .bool x.2.2.2.1, .slice yr x.2.2.2.2.length yd] rfl (cells_at hc2 0 _ ⟨[], rfl⟩) (wV rfl ?_)
   (repeat first|refine wN ?_|refine wP rfl ?_|refine cx_r rfl ?_|refine cx_d rfl ?_|refine wO rfl rfl ?_)
   refine VO.call rfl rfl (fk Tryz.func27) (fun wa2 ka2 ba2 => (ratCmp_ok _ _ x.1.q a kk kk wa2 (hX0.from.kp (Kp.of (U := UU) ba2)) (hu.kp (Kp.of (U := UU) ba2)) (by omega) (by omega) cg hcg).mono ?_)
   rintro e w2 ⟨rfl, hb2⟩
   skip
   refine ⟨_, rfl, hb2, fun kb2 _ bb2 => wV rfl ?_⟩
   (repeat first|refine wN ?_|refine wP rfl ?_|refine cx_r rfl ?_|refine cx_d rfl ?_|refine wO rfl rfl ?_)
   by_cases hle : cg ≤ 0
   ·refine VS.condY rfl (decide_eq_true hle) ?_
    rw [if_pos (show x.br.1 ≤ a from hcg0.2 hle)] at hsn
    (repeat first|refine wN ?_|refine wP rfl ?_|refine cx_r rfl ?_|refine cx_d rfl ?_|refine wO rfl rfl ?_)
    refine VS.back (M1 - (z + 1)) (by omega) ⟨_, _, ?_, ?_, ?_, ?_, ⟨z + 1, x, _, _, _, _, _, _, _, _, _, _, _, _, _, _, _, _, by omega, rfl, rfl, rfl, hX0.kp (Kp.of (U := UU) bb2), hsn.symm⟩⟩
    ·refine ⟨by rw [← hq2]; rfl, rfl, ?_, rfl, rfl, rfl, trivial⟩
     rw [← nat_step (i := z) (by omega)]; rfl
    ·(repeat first|exact trivial|refine ⟨rfl, ?_⟩)
    ·rfl
    ·(repeat first|exact trivial|refine ⟨ClosedC.lit rfl, ?_⟩|refine ⟨ClosedC.vals _, ?_⟩)
   ·refine VS.condN rfl (decide_eq_false hle) ?_
    rw [if_neg (show ¬ x.br.1 ≤ a from fun h => hle (hcg0.1 h))] at hsn
    (repeat first|refine wN ?_|refine wP rfl ?_|refine cx_r rfl ?_|refine cx_d rfl ?_|refine wO rfl rfl ?_)
    refine VS.back (M1 - (z + 1)) (by omega) ⟨_, _, ?_, ?_, ?_, ?_, ⟨z + 1, y, _, _, _, _, _, _, _, _, _, _, _, _, _, _, _, _, by omega, rfl, rfl, rfl, hY.kp (T := fun _ => false) kb2, hsn.symm⟩⟩
    ·refine ⟨by rw [← hq2]; rfl, rfl, ?_, rfl, rfl, rfl, trivial⟩
     rw [← nat_step (i := z) (by omega)]; rfl
    ·(repeat first|exact trivial|refine ⟨rfl, ?_⟩)
    ·rfl
    ·(repeat first|exact trivial|refine ⟨ClosedC.lit rfl, ?_⟩|refine ⟨ClosedC.vals _, ?_⟩)
  ·refine VS.condN rfl (decide_eq_false (fun e => hlt (Int.ofNat_lt.1 e))) ?_
   have hzM : z = M1 := by omega
   have hfin : y.2.q = rateq l a := by
    rw [hyr, rate_tail hb, List.take_of_length_le]
    rw [List.length_drop]; unfold brs; rw [List.length_map]; omega
   have hYr := hY.rate
   rw [hfin] at hYr
   have hYz := hYr.sz hk1
   (repeat first|refine wN ?_|refine wP rfl ?_|refine cx_r rfl ?_|refine cx_d rfl ?_|refine wO rfl rfl ?_)
   refine VO.callF rfl (fk Tryz.func43) (fun wa3 β ka3 ba3 ho => (ratSum_any _ [rateq l a] kk wa3 (ownV_rats (ho.own 32 (.base (List.mem_singleton.2 rfl)) _ _ rfl) [] (vs := [[.bool s2, .slice p2 n2 c2, .bool t2, .slice r2 m2 d2]]) (by rfl) rfl (RatRow.cons (hYr.kp (T := fun _ => false) ka3) RatRow.nil) (Nat.le_of_ble_eq_true rfl) (by decide)) (by show stepSz kk 1 ≤ _; unfold stepSz up1; omega)).mono ?_)
   rintro e w3 ⟨r3, rfl, q3, -, hb3⟩
   obtain ⟨e1, e2, e3, e4, e5, e6, e7, e8, rfl⟩ := q3.form
   refine ⟨_, rfl, hb3, fun kb3 _ bb3 => wV rfl ?_⟩
   (repeat first|refine wN ?_|refine wP rfl ?_|refine cx_r rfl ?_|refine cx_d rfl ?_|refine wO rfl rfl ?_)
   refine VS.ret (cx_ok _ _) rfl rfl (fun wz kz bz => ?_)
   rw [htc]
   exact ⟨_, rfl, ((q3.k).mono ba3.size).cast (rsum_one _), hYz, bz⟩
end Go.Proofs.YtofdiijioejljaaGreat
/- Tax by brackets: the reference's part, tax, cents, rate, refund. -/
namespace Go.Proofs.YtofdiijioejljaaGreat
open Go.RowKit
attribute [local irreducible] vcOps VS

theorem rmore_one (f : Rat) : rbest rmore 0 [f] = if 0 < f then f else 0 := by
 show (if rmore f 0 = true then f else 0) = _
 by_cases h : 0 < f
 ·rw [if_pos (rmore_iff.2 h), if_pos h]
 ·rw [if_neg (fun e => h (rmore_iff.1 e)), if_neg h]
def qpart (l : List RBr) (a : Rat) (i : Nat) (x : RBr) : Rat := if 0 < bend l a i - x.1.q then bend l a i - x.1.q else 0
theorem qpart_eq (l : List RBr) (a : Rat) (i : Nat) (x : RBr) : qpart l a i x = bpart a x.br ((brs l).drop (i + 1)) := rfl
theorem q28Right_ok (v : Value) (l : List RBr) (kk : Nat) (w : World) (hv : SlIn (BrE kk) 8 w v l) (hk : kk ≤ 1000000) (b : Bool) (hb : bright l = b) :
  Calls Tryz.prog 20 #[v] w fun o w' => o = .returned (.bool b) ∧ Beh w w' := hb ▸ qRight28_any v l kk w hv hk
set_option maxRecDepth 4000 in
set_option maxHeartbeats 4000000 in
theorem q28part_any (p : Option Addr) (N c : Nat) (u : Value) (l : List RBr) (kk : Nat) (a : Rat) (i : Nat) (x : RBr) (w : World) (hv : SlIn (BrE kk) 8 w (.slice p N c) l) (hN : N = l.length) (hx : l[i]? = some x) (hu : RatIn w u a kk) (hk1 : 1 ≤ kk) (hk : kk ≤ 1000) (hn : l.length ≤ 64) :
  Calls Tryz.prog 48 #[.slice p N c, .int .i64 (i : Int), u] w fun o w' => ∃ r, o = .returned r ∧ RatRd w' r (qpart l a i x) ∧ RSz (qpart l a i x) (kk + kk + 1) ∧ Beh w w' := by
 obtain ⟨is, ip, im, ic, it, ir, jm, jc, rfl⟩ := hu.form
 obtain ⟨hnc, hcm⟩ := hv.cap
 rw [← hN] at hnc hn
 have hi : i < N := by rw [hN]; exact (List.getElem?_eq_some_iff.1 hx).1
 obtain ⟨b, off, cs', hpp, hc, hE⟩ := hv.at hx
 have hE0 := hE
 obtain ⟨ap, ac, ar, ad, bp, bc, br, bd, rfl, -⟩ := hE
 subst hpp
 have hfr := hE0.from
 have hfz := hfr.sz hk1
 have haz := hu.sz hk1
 have hqz : RSz (bend l a i) kk → RSz (qpart l a i x) (kk + kk + 1) := fun h => by
  unfold qpart
  split
  ·exact h.sub hfz
  ·exact RSz.zero.mono (by omega)
 have e1 := nat_step (i := i) (by omega)
 refine calm_enter (C := cxOf Tryz.prog w _) (args := [_, _, _]) Tryz.func48 rfl Tryz.ntmps48 (Nat.le_of_ble_eq_true rfl) ?_
 (repeat first|refine wN ?_|refine wP rfl ?_|refine cx_r rfl ?_|refine cx_d rfl ?_|refine wO rfl rfl ?_)
 by_cases hnx : i + 1 < N
 ·refine VS.condY rfl (decide_eq_true (show IntKind.i64.wrap ((i : Int) + 1) < (N : Int) by rw [e1]; omega)) ?_
  obtain ⟨y, hy'⟩ : ∃ y, l[i + 1]? = some y := ⟨_, List.getElem?_eq_getElem (by omega)⟩
  obtain ⟨b', off', cs2, hpp, hc', hE'⟩ := hv.at hy'
  cases hpp
  have hbe := bend_next (a := a) hy'
  have hE1 := hE'
  obtain ⟨cp, cc, cr, cd, dp, dc, dr, dd, rfl, -⟩ := hE'
  have hfy := hE1.from
  have hbz : RSz (bend l a i) kk := by
   rw [hbe]
   split
   ·exact hfy.sz hk1
   ·exact haz
  have hbe' : rbest rless a [y.1.q] = bend l a i := by rw [rless_one, hbe]
  (repeat first|refine wN ?_|refine wP rfl ?_|refine cx_r rfl ?_|refine cx_d rfl ?_|refine wO rfl rfl ?_)
  refine VO.fix 17 rfl (congrArg (fun z => AV.val (.int .i64 z)) (e1)) ?_
  (repeat first|refine wN ?_|refine wP rfl ?_|refine cx_r rfl ?_|refine cx_d rfl ?_|refine wO rfl rfl ?_)
  refine VO.cond rfl ⟨by omega, by omega⟩ ?_
  refine wV rfl ?_
  (repeat first|refine wN ?_|refine wP rfl ?_|refine cx_r rfl ?_|refine cx_d rfl ?_|refine wO rfl rfl ?_)
  refine VO.read rfl [.bool y.1.1, .slice cp y.1.2.1.length cc, .bool y.1.2.2.1, .slice cr y.1.2.2.2.length cd] rfl (cells_at hc' 0 _ ⟨_, rfl⟩) (wV rfl ?_)
  (repeat first|refine wN ?_|refine wP rfl ?_|refine cx_r rfl ?_|refine cx_d rfl ?_|refine wO rfl rfl ?_)
  refine VO.callF rfl (fk Tryz.func84) (fun wa1 β ka1 ba1 ho => (q04Min_any _ a [y.1.q] kk wa1 (ownV_rats (ho.own 21 (.base (List.mem_singleton.2 rfl)) _ _ rfl) [] (vs := [[.bool is, .slice ip im ic, .bool it, .slice ir jm jc], [.bool y.1.1, .slice cp y.1.2.1.length cc, .bool y.1.2.2.1, .slice cr y.1.2.2.2.length cd]]) (by rfl) rfl (RatRow.cons (hu.kp (Kp.of (U := UU) ba1)) (RatRow.cons (hfy.kp (Kp.of (U := UU) ba1)) RatRow.nil)) (Nat.le_of_ble_eq_true rfl) (by decide)) (by omega) (Nat.le_of_ble_eq_true rfl)).mono ?_)
  rintro e w1 ⟨r1, rfl, q1, -, hb1⟩
  obtain ⟨s1, p1, n1, c1, t1, y1, m1, d1, rfl⟩ := q1.form
  rw [hbe'] at q1
  refine ⟨_, rfl, hb1, fun kb1 _ bb1 => wV rfl ?_⟩
  (repeat first|refine wN ?_|refine wP rfl ?_|refine cx_r rfl ?_|refine cx_d rfl ?_|refine wO rfl rfl ?_)
  refine VO.call rfl rfl (fk Tryz.func45) (fun wa2 ka2 ba2 => (q04Zero_any wa2).mono ?_)
  rintro e w2 ⟨r2, rfl, q2, hb2⟩
  obtain ⟨s2, p2, n2, c2, t2, y2, m2, d2, rfl⟩ := q2.form
  refine ⟨_, rfl, hb2, fun kb2 _ bb2 => wV rfl ?_⟩
  (repeat first|refine wN ?_|refine wP rfl ?_|refine cx_r rfl ?_|refine cx_d rfl ?_|refine wO rfl rfl ?_)
  refine VO.cond rfl ⟨by omega, by omega⟩ ?_
  refine wV rfl ?_
  (repeat first|refine wN ?_|refine wP rfl ?_|refine cx_r rfl ?_|refine cx_d rfl ?_|refine wO rfl rfl ?_)
  refine VO.read rfl [.bool x.1.1, .slice ap x.1.2.1.length ac, .bool x.1.2.2.1, .slice ar x.1.2.2.2.length ad] rfl (cells_at hc 0 _ ⟨_, rfl⟩) (wV rfl ?_)
  (repeat first|refine wN ?_|refine wP rfl ?_|refine cx_r rfl ?_|refine cx_d rfl ?_|refine wO rfl rfl ?_)
  refine VO.call rfl rfl (fk Tryz.func86) (fun wa3 ka3 ba3 => (q04Sub_any _ _ (bend l a i) x.1.q kk kk wa3 (q1.ki hbz) (hfr.kp (Kp.of (U := UU) ba3)) (by omega) (by omega)).mono ?_)
  rintro e w3 ⟨r3, rfl, q3, hb3⟩
  obtain ⟨s3, p3, n3, c3, t3, y3, m3, d3, rfl⟩ := q3.form
  refine ⟨_, rfl, hb3, fun kb3 _ bb3 => wV rfl ?_⟩
  (repeat first|refine wN ?_|refine wP rfl ?_|refine cx_r rfl ?_|refine cx_d rfl ?_|refine wO rfl rfl ?_)
  refine VO.callF rfl (fk Tryz.func85) (fun wa4 β ka4 ba4 ho => (q04Max_any _ 0 [bend l a i - x.1.q] (kk + kk + 1) wa4 (ownV_rats (ho.own 31 (.base (List.mem_singleton.2 rfl)) _ _ rfl) [] (vs := [[.bool s2, .slice p2 n2 c2, .bool t2, .slice y2 m2 d2], [.bool s3, .slice p3 n3 c3, .bool t3, .slice y3 m3 d3]]) (by rfl) rfl (RatRow.cons (q2.ki (RSz.zero.mono (by omega))) (RatRow.cons (q3.ki (hbz.sub hfz)) RatRow.nil)) (Nat.le_of_ble_eq_true rfl) (by decide)) (by omega) (Nat.le_of_ble_eq_true rfl)).mono ?_)
  rintro e w4 ⟨r4, rfl, q4, -, hb4⟩
  obtain ⟨s4, p4, n4, c4, t4, y4, m4, d4, rfl⟩ := q4.form
  rw [rmore_one] at q4
  refine ⟨_, rfl, hb4, fun kb4 _ bb4 => wV rfl ?_⟩
  (repeat first|refine wN ?_|refine wP rfl ?_|refine cx_r rfl ?_|refine cx_d rfl ?_|refine wO rfl rfl ?_)
  refine VS.ret (cx_ok _ _) rfl rfl (fun wz kz bz => ?_)
  exact ⟨_, rfl, q4.k, hqz hbz, bz⟩
 ·refine VS.condN rfl (decide_eq_false (show ¬ IntKind.i64.wrap ((i : Int) + 1) < (N : Int) by rw [e1]; omega)) ?_
  have hbe := bend_last (l := l) (a := a) (i := i) (by omega)
  have hbz : RSz (bend l a i) kk := by rw [hbe]; exact haz
  (repeat first|refine wN ?_|refine wP rfl ?_|refine cx_r rfl ?_|refine cx_d rfl ?_|refine wO rfl rfl ?_)
  refine VO.call rfl rfl (fk Tryz.func45) (fun wa2 ka2 ba2 => (q04Zero_any wa2).mono ?_)
  rintro e w2 ⟨r2, rfl, q2, hb2⟩
  obtain ⟨s2, p2, n2, c2, t2, y2, m2, d2, rfl⟩ := q2.form
  refine ⟨_, rfl, hb2, fun kb2 _ bb2 => wV rfl ?_⟩
  (repeat first|refine wN ?_|refine wP rfl ?_|refine cx_r rfl ?_|refine cx_d rfl ?_|refine wO rfl rfl ?_)
  refine VO.cond rfl ⟨by omega, by omega⟩ ?_
  refine wV rfl ?_
  (repeat first|refine wN ?_|refine wP rfl ?_|refine cx_r rfl ?_|refine cx_d rfl ?_|refine wO rfl rfl ?_)
  refine VO.read rfl [.bool x.1.1, .slice ap x.1.2.1.length ac, .bool x.1.2.2.1, .slice ar x.1.2.2.2.length ad] rfl (cells_at hc 0 _ ⟨_, rfl⟩) (wV rfl ?_)
  (repeat first|refine wN ?_|refine wP rfl ?_|refine cx_r rfl ?_|refine cx_d rfl ?_|refine wO rfl rfl ?_)
  refine VO.call rfl rfl (fk Tryz.func86) (fun wa3 ka3 ba3 => (q04Sub_any _ _ (bend l a i) x.1.q kk kk wa3 (hbe.symm ▸ hu.kp (Kp.of (U := UU) ba3)) (hfr.kp (Kp.of (U := UU) ba3)) (by omega) (by omega)).mono ?_)
  rintro e w3 ⟨r3, rfl, q3, hb3⟩
  obtain ⟨s3, p3, n3, c3, t3, y3, m3, d3, rfl⟩ := q3.form
  refine ⟨_, rfl, hb3, fun kb3 _ bb3 => wV rfl ?_⟩
  (repeat first|refine wN ?_|refine wP rfl ?_|refine cx_r rfl ?_|refine cx_d rfl ?_|refine wO rfl rfl ?_)
  refine VO.callF rfl (fk Tryz.func85) (fun wa4 β ka4 ba4 ho => (q04Max_any _ 0 [bend l a i - x.1.q] (kk + kk + 1) wa4 (ownV_rats (ho.own 31 (.base (List.mem_singleton.2 rfl)) _ _ rfl) [] (vs := [[.bool s2, .slice p2 n2 c2, .bool t2, .slice y2 m2 d2], [.bool s3, .slice p3 n3 c3, .bool t3, .slice y3 m3 d3]]) (by rfl) rfl (RatRow.cons (q2.ki (RSz.zero.mono (by omega))) (RatRow.cons (q3.ki (hbz.sub hfz)) RatRow.nil)) (Nat.le_of_ble_eq_true rfl) (by decide)) (by omega) (Nat.le_of_ble_eq_true rfl)).mono ?_)
  rintro e w4 ⟨r4, rfl, q4, -, hb4⟩
  obtain ⟨s4, p4, n4, c4, t4, y4, m4, d4, rfl⟩ := q4.form
  rw [rmore_one] at q4
  refine ⟨_, rfl, hb4, fun kb4 _ bb4 => wV rfl ?_⟩
  (repeat first|refine wN ?_|refine wP rfl ?_|refine cx_r rfl ?_|refine cx_d rfl ?_|refine wO rfl rfl ?_)
  refine VS.ret (cx_ok _ _) rfl rfl (fun wz kz bz => ?_)
  exact ⟨_, rfl, q4.k, hqz hbz, bz⟩
end Go.Proofs.YtofdiijioejljaaGreat
/- Tax by brackets: the reference's tax, cents, rate, refund. -/
namespace Go.Proofs.YtofdiijioejljaaGreat
open Go.RowKit
attribute [local irreducible] vcOps VS

theorem bpre_step {l : List RBr} {a : Rat} {i : Nat} {x : RBr} (h : l[i]? = some x) : bpre l a (i + 1) = bpre l a i + qpart l a i x * x.2.q := by
 have h2 := btax_drop (a := a) (brs_at h)
 rw [← qpart_eq] at h2
 have h4 : x.br.2 = x.2.q := rfl
 rw [h4] at h2
 unfold bpre
 rw [h2]
 grind
theorem bpre_all (l : List RBr) (a : Rat) {N : Nat} (hN : N = l.length) : bpre l a N = btax a (brs l) := by
 unfold bpre
 rw [List.drop_of_length_le (by unfold brs; rw [List.length_map]; omega)]
 show _ - (0 : Rat) = _
 grind
set_option maxRecDepth 4000 in
set_option maxHeartbeats 4000000 in
theorem q28Tax_any (v u : Value) (l : List RBr) (kk : Nat) (a : Rat) (w : World) (hv : SlIn (BrE kk) 8 w v l) (hu : RatIn w u a kk) (hk1 : 1 ≤ kk) (hk : kk ≤ 1000) (hn : l.length ≤ 64) :
  Calls Tryz.prog 15 #[v, u] w fun o w' => ∃ x, o = .returned (.tuple #[x, .int .i64 (tcode l)]) ∧ RatOwn w' w.heap.size x (taxq l a) ∧ RSz (taxq l a) (tsz l.length kk) ∧ Beh w w' := by
 obtain ⟨p, c, rfl, hnc, hcm⟩ := hv.form
 obtain ⟨is, ip, im, ic, it, ir, jm, jc, rfl⟩ := hu.form
 obtain ⟨N, hN⟩ : ∃ N, N = l.length := ⟨_, rfl⟩
 rw [← hN] at hv hnc
 have hn' : N ≤ 64 := by omega
 rw [← hN]
 refine calm_enter (C := cxOf Tryz.prog w _) (args := [_, _]) Tryz.func15 rfl Tryz.ntmps15 (Nat.le_of_ble_eq_true rfl) ?_
 (repeat first|refine wN ?_|refine wP rfl ?_|refine cx_r rfl ?_|refine cx_d rfl ?_|refine wO rfl rfl ?_)
 cases hb : bright l with
 | false =>
  have htc : tcode l = 2 := by unfold tcode; rw [hb]; rfl
  have htq : taxq l a = 0 := by unfold taxq; rw [hb]; rfl
  refine VO.call rfl rfl (fk Tryz.func20) (fun wa1 ka1 ba1 => (q28Right_ok _ l kk wa1 (hv.beh (br_ok kk) ba1) (by omega) false hb).mono ?_)
  rintro e w1 ⟨rfl, hb1⟩
  skip
  refine ⟨_, rfl, hb1, fun kb1 _ bb1 => wV rfl ?_⟩
  (repeat first|refine wN ?_|refine wP rfl ?_|refine cx_r rfl ?_|refine cx_d rfl ?_|refine wO rfl rfl ?_)
  refine VO.call rfl rfl (fk Tryz.func45) (fun wa2 ka2 ba2 => (q04Zero_any wa2).mono ?_)
  rintro e w2 ⟨r2, rfl, q2, hb2⟩
  obtain ⟨s2, p2, n2, c2, t2, y2, m2, d2, rfl⟩ := q2.form
  refine ⟨_, rfl, hb2, fun kb2 _ bb2 => wV rfl ?_⟩
  (repeat first|refine wN ?_|refine wP rfl ?_|refine cx_r rfl ?_|refine cx_d rfl ?_|refine wO rfl rfl ?_)
  refine VS.ret (cx_ok _ _) rfl rfl (fun wz kz bz => ?_)
  rw [htc, htq]
  exact ⟨_, rfl, (q2.k).mono ba2.size, RSz.zero.mono (by unfold tsz; omega), bz⟩
 | true =>
  have htc : tcode l = 0 := by unfold tcode; rw [hb]; rfl
  have htq : taxq l a = btax a (brs l) := by unfold taxq; rw [hb]; rfl
  have hbi := binc_right hb
  refine VO.call rfl rfl (fk Tryz.func20) (fun wa1 ka1 ba1 => (q28Right_ok _ l kk wa1 (hv.beh (br_ok kk) ba1) (by omega) true hb).mono ?_)
  rintro e w1 ⟨rfl, hb1⟩
  skip
  refine ⟨_, rfl, hb1, fun kb1 _ bb1 => wV rfl ?_⟩
  (repeat first|refine wN ?_|refine wP rfl ?_|refine cx_r rfl ?_|refine cx_d rfl ?_|refine wO rfl rfl ?_)
  refine VO.call rfl rfl (fk Tryz.func45) (fun wa2 ka2 ba2 => (q04Zero_any wa2).mono ?_)
  rintro e w2 ⟨r2, rfl, q2, hb2⟩
  obtain ⟨s2, p2, n2, c2, t2, y2, m2, d2, rfl⟩ := q2.form
  refine ⟨_, rfl, hb2, fun kb2 _ bb2 => wV rfl ?_⟩
  (repeat first|refine wN ?_|refine wP rfl ?_|refine cx_r rfl ?_|refine cx_d rfl ?_|refine wO rfl rfl ?_)
  refine VS.loop (J := fun n L M w' => ∃ i s p' n' c' t r m d, i ≤ N ∧ n = N - i ∧ L = [(0, .val (.slice p N c)), (7, .val (.int .i64 (i : Int))), (3, .box 3 0), (4, .box 4 0), (6, .box 6 0)] ∧
   M = [(3, (35, ([.bool is, .slice ip im ic, .bool it, .slice ir jm jc] : List Value).map .val)), (4, (35, ([.bool false, .slice none 0 0, .bool false, .slice none 0 0] : List Value).map .val)), (6, (35, ([.bool s, .slice p' n' c', .bool t, .slice r m d] : List Value).map .val))] ∧ RatOwn w' w.heap.size (.agg #[.bool s, .slice p' n' c', .bool t, .slice r m d]) (bpre l a i) ∧ RSz (bpre l a i) (tsz i kk)) N
   ⟨_, _, ?_, ?_, ?_, ?_, ⟨0, _, _, _, _, _, _, _, _, by omega, rfl, rfl, rfl, ((q2.k).mono ba2.size).cast (bpre_zero l a).symm, by rw [bpre_zero]; exact RSz.zero.mono (by unfold tsz; omega)⟩⟩ ?_
  ·(repeat first|exact trivial|refine ⟨rfl, ?_⟩)
  ·(repeat first|exact trivial|refine ⟨rfl, ?_⟩)
  ·rfl
  ·(repeat first|exact trivial|refine ⟨ClosedC.lit rfl, ?_⟩|refine ⟨ClosedC.vals _, ?_⟩)
  rintro n L M w' ⟨i, s, p', n', c', t, r, m, d, hi, rfl, rfl, rfl, ho, hz'⟩
  (repeat first|refine wN ?_|refine wP rfl ?_|refine cx_r rfl ?_|refine cx_d rfl ?_|refine wO rfl rfl ?_)
  by_cases hlt : i < N
  ·refine VS.condY rfl (decide_eq_true (Int.ofNat_lt.2 hlt)) ?_
   obtain ⟨x, hx⟩ : ∃ x, l[i]? = some x := ⟨_, List.getElem?_eq_getElem (by omega)⟩
   obtain ⟨b, off, cs', hpp, hc, hE⟩ := hv.at hx
   have hE0 := hE
   obtain ⟨ap, ac, ar, ad, bp, bc, br, bd, rfl, -⟩ := hE
   have hrr := hE0.rate
   have hrz := hrr.sz hk1
   have hiz := tsz_le (n := i) (kk := kk) (by omega) hk
   (repeat first|refine wN ?_|refine wP rfl ?_|refine cx_r rfl ?_|refine cx_d rfl ?_|refine wO rfl rfl ?_)
   refine VO.call rfl rfl (fk Tryz.func48) (fun wa3 ka3 ba3 => (q28part_any p N c _ l kk a i x wa3 (hv.beh (br_ok kk) ba3) hN hx (hu.kp (Kp.of (U := UU) ba3)) hk1 hk hn).mono ?_)
   rintro e w3 ⟨r3, rfl, q3, z3, hb3⟩
   obtain ⟨s3, p3, n3, c3, t3, y3, m3, d3, rfl⟩ := q3.form
   refine ⟨_, rfl, hb3, fun kb3 _ bb3 => wV rfl ?_⟩
   (repeat first|refine wN ?_|refine wP rfl ?_|refine cx_r rfl ?_|refine cx_d rfl ?_|refine wO rfl rfl ?_)
   subst hpp
   refine VO.cond rfl ⟨by omega, by omega⟩ ?_
   refine wV rfl ?_
   (repeat first|refine wN ?_|refine wP rfl ?_|refine cx_r rfl ?_|refine cx_d rfl ?_|refine wO rfl rfl ?_)
   refine VO.read rfl [.bool x.2.1, .slice bp x.2.2.1.length bc, .bool x.2.2.2.1, .slice br x.2.2.2.2.length bd] rfl (cells_at hc 4 _ ⟨[], rfl⟩) (wV rfl ?_)
   (repeat first|refine wN ?_|refine wP rfl ?_|refine cx_r rfl ?_|refine cx_d rfl ?_|refine wO rfl rfl ?_)
   refine VO.call rfl rfl (fk Tryz.func47) (fun wa4 ka4 ba4 => (q04Mul_any _ _ (qpart l a i x) x.2.q (kk + kk + 1) kk wa4 (q3.ki z3) (hrr.kp (Kp.of (U := UU) ba4)) (by omega) (by omega)).mono ?_)
   rintro e w4 ⟨r4, rfl, q4, hb4⟩
   obtain ⟨s4, p4, n4, c4, t4, y4, m4, d4, rfl⟩ := q4.form
   refine ⟨_, rfl, hb4, fun kb4 _ bb4 => wV rfl ?_⟩
   (repeat first|refine wN ?_|refine wP rfl ?_|refine cx_r rfl ?_|refine cx_d rfl ?_|refine wO rfl rfl ?_)
   have hmz := (z3.mul hrz).mono (show kk + kk + 1 + kk ≤ 3 * kk + 1 by omega)
   refine VO.call rfl rfl (fk Tryz.func46) (fun wa5 ka5 ba5 => (q04Add_any _ _ (bpre l a i) (qpart l a i x * x.2.q) (tsz i kk) (3 * kk + 1) wa5 (ho.ki hz') (q4.ki hmz) (by omega) (by omega)).mono ?_)
   rintro e w5 ⟨r5, rfl, q5, hb5⟩
   obtain ⟨s5, p5, n5, c5, t5, y5, m5, d5, rfl⟩ := q5.form
   refine ⟨_, rfl, hb5, fun kb5 _ bb5 => wV rfl ?_⟩
   (repeat first|refine wN ?_|refine wP rfl ?_|refine cx_r rfl ?_|refine cx_d rfl ?_|refine wO rfl rfl ?_)
   refine VS.back (N - (i + 1)) (by omega) ⟨_, _, ?_, ?_, ?_, ?_, ⟨i + 1, _, _, _, _, _, _, _, _, by omega, rfl, rfl, rfl, ((q5.k).mono ba5.size).cast (bpre_step hx).symm, by rw [bpre_step hx, tsz_succ]; exact hz'.add hmz⟩⟩
   ·refine ⟨rfl, ?_, rfl, rfl, rfl, trivial⟩
    rw [← nat_step (i := i) (by omega)]; rfl
   ·(repeat first|exact trivial|refine ⟨rfl, ?_⟩)
   ·rfl
   ·(repeat first|exact trivial|refine ⟨ClosedC.lit rfl, ?_⟩|refine ⟨ClosedC.vals _, ?_⟩)
  ·refine VS.condN rfl (decide_eq_false (fun e => hlt (Int.ofNat_lt.1 e))) ?_
   have hiN : i = N := by omega
   rw [hiN, bpre_all l a hN, ← htq] at ho hz'
   (repeat first|refine wN ?_|refine wP rfl ?_|refine cx_r rfl ?_|refine cx_d rfl ?_|refine wO rfl rfl ?_)
   refine VS.ret (cx_ok _ _) rfl rfl (fun wz kz bz => ?_)
   rw [htc]
   exact ⟨_, rfl, ho.k, hz', bz⟩
theorem q28Cents_any (v u : Value) (l : List RBr) (kk : Nat) (a : Rat) (w : World) (hv : SlIn (BrE kk) 8 w v l) (hu : RatIn w u a kk) (hk1 : 1 ≤ kk) (hk : kk ≤ 1000) (hn : l.length ≤ 64) :
  Calls Tryz.prog 16 #[v, u] w fun o w' => ∃ x, o = .returned (.tuple #[x, .int .i64 (tcode l)]) ∧ IntOwn w' w.heap.size x (centsq l a) ∧ Sz (centsq l a) (tsz l.length kk + 2) ∧ Beh w w' := by
 obtain ⟨p, c, rfl, hnc, hcm⟩ := hv.form
 obtain ⟨is, ip, im, ic, it, ir, jm, jc, rfl⟩ := hu.form
 have hsz := tsz_le hn hk
 refine calm_enter (C := cxOf Tryz.prog w _) (args := [_, _]) Tryz.func16 rfl Tryz.ntmps16 (Nat.le_of_ble_eq_true rfl) ?_
 (repeat first|refine wN ?_|refine wP rfl ?_|refine cx_r rfl ?_|refine cx_d rfl ?_|refine wO rfl rfl ?_)
 refine VO.call rfl rfl (fk Tryz.func15) (fun wa1 ka1 ba1 => (q28Tax_any _ _ l kk a wa1 (hv.beh (br_ok kk) ba1) (hu.kp (Kp.of (U := UU) ba1)) hk1 hk hn).mono ?_)
 rintro e w1 ⟨r1, rfl, q1, z1, hb1⟩
 obtain ⟨s1, p1, n1, c1, t1, y1, m1, d1, rfl⟩ := q1.form
 refine ⟨_, rfl, hb1, fun kb1 _ bb1 => wV rfl ?_⟩
 (repeat first|refine wN ?_|refine wP rfl ?_|refine cx_r rfl ?_|refine cx_d rfl ?_|refine wO rfl rfl ?_)
 refine VO.call rfl rfl (fk Tryz.func49) (fun wa2 ka2 ba2 => (q05Cents_any _ (taxq l a) (tsz l.length kk) wa2 (q1.ki z1) (by omega)).mono ?_)
 rintro e w2 ⟨r2, rfl, q2, hb2⟩
 obtain ⟨s2, p2, n2, c2, rfl⟩ := q2.form
 refine ⟨_, rfl, hb2, fun kb2 _ bb2 => wV rfl ?_⟩
 (repeat first|refine wN ?_|refine wP rfl ?_|refine cx_r rfl ?_|refine cx_d rfl ?_|refine wO rfl rfl ?_)
 refine VS.ret (cx_ok _ _) rfl rfl (fun wz kz bz => ?_)
 exact ⟨_, rfl, (q2.k).mono ba2.size, centsq_sz z1, bz⟩
theorem q28Refund_any (v u u' : Value) (l : List RBr) (kk : Nat) (a b : Rat) (w : World) (hv : SlIn (BrE kk) 8 w v l) (hu : RatIn w u a kk) (hu' : RatIn w u' b kk) (hk1 : 1 ≤ kk) (hk : kk ≤ 1000) (hn : l.length ≤ 64) :
  Calls Tryz.prog 18 #[v, u, u'] w fun o w' => ∃ x, o = .returned (.tuple #[x, .int .i64 (tcode l)]) ∧ IntOwn w' w.heap.size x (centsq l a - centsq l b) ∧ Sz (centsq l a - centsq l b) (tsz l.length kk + 3) ∧ Beh w w' := by
 obtain ⟨p, c, rfl, hnc, hcm⟩ := hv.form
 obtain ⟨is, ip, im, ic, it, ir, jm, jc, rfl⟩ := hu.form
 obtain ⟨js, jp, jn, je, jt, jr, km, kc, rfl⟩ := hu'.form
 have hsz := tsz_le hn hk
 refine calm_enter (C := cxOf Tryz.prog w _) (args := [_, _, _]) Tryz.func18 rfl Tryz.ntmps18 (Nat.le_of_ble_eq_true rfl) ?_
 (repeat first|refine wN ?_|refine wP rfl ?_|refine cx_r rfl ?_|refine cx_d rfl ?_|refine wO rfl rfl ?_)
 refine VO.call rfl rfl (fk Tryz.func16) (fun wa1 ka1 ba1 => (q28Cents_any _ _ l kk a wa1 (hv.beh (br_ok kk) ba1) (hu.kp (Kp.of (U := UU) ba1)) hk1 hk hn).mono ?_)
 rintro e w1 ⟨r1, rfl, q1, z1, hb1⟩
 obtain ⟨s1, p1, n1, c1, rfl⟩ := q1.form
 refine ⟨_, rfl, hb1, fun kb1 _ bb1 => wV rfl ?_⟩
 (repeat first|refine wN ?_|refine wP rfl ?_|refine cx_r rfl ?_|refine cx_d rfl ?_|refine wO rfl rfl ?_)
 refine VO.call rfl rfl (fk Tryz.func16) (fun wa2 ka2 ba2 => (q28Cents_any _ _ l kk b wa2 (hv.beh (br_ok kk) ba2) (hu'.kp (Kp.of (U := UU) ba2)) hk1 hk hn).mono ?_)
 rintro e w2 ⟨r2, rfl, q2, z2, hb2⟩
 obtain ⟨s2, p2, n2, c2, rfl⟩ := q2.form
 refine ⟨_, rfl, hb2, fun kb2 _ bb2 => wV rfl ?_⟩
 (repeat first|refine wN ?_|refine wP rfl ?_|refine cx_r rfl ?_|refine cx_d rfl ?_|refine wO rfl rfl ?_)
 refine VO.call rfl rfl (fk Tryz.func51) (fun wa3 ka3 ba3 => (rsub_any _ _ (centsq l a) (centsq l b) (tsz l.length kk + 2) (tsz l.length kk + 2) wa3 (q1.ki z1) (q2.ki z2) (by omega) (by omega)).mono ?_)
 rintro e w3 ⟨r3, rfl, q3, hb3⟩
 obtain ⟨s3, p3, n3, c3, rfl⟩ := q3.form
 refine ⟨_, rfl, hb3, fun kb3 _ bb3 => wV rfl ?_⟩
 (repeat first|refine wN ?_|refine wP rfl ?_|refine cx_r rfl ?_|refine cx_d rfl ?_|refine wO rfl rfl ?_)
 refine VS.ret (cx_ok _ _) rfl rfl (fun wz kz bz => ?_)
 refine ⟨_, rfl, (q3.k).mono ba3.size, ?_, bz⟩
 rw [Int.sub_eq_add_neg]
 exact Sz.add z1 z2.neg (Nat.le_refl _) (Nat.le_refl _)
theorem bright_ok {l : List RBr} (h : bright l = true) {i : Nat} {x : RBr} (hx : l[i]? = some x) : x.1.ok = true ∧ x.2.ok = true := by
 have := (bright_iff.1 h).2 i (List.getElem?_eq_some_iff.1 hx).1 x hx
 unfold bok at this
 rw [Bool.and_eq_true, Bool.and_eq_true] at this
 exact this.1
theorem BrE.rateRd {kk : Nat} {w : World} {y : RBr} {s1 t1 s2 t2 : Bool} {p1 r1 p2 r2 : Option Addr} {n1 c1 m1 d1 n2 c2 m2 d2 : Nat} (h : BrE kk w [.bool s1, .slice p1 n1 c1, .bool t1, .slice r1 m1 d1, .bool s2, .slice p2 n2 c2, .bool t2, .slice r2 m2 d2] y) (hok : y.2.ok = true) : RatRd w (.agg #[.bool s2, .slice p2 n2 c2, .bool t2, .slice r2 m2 d2]) y.2.q := by
 obtain ⟨_, _, _, _, _, _, _, _, e, _, h2, _, _, h3, h4⟩ := h
 cases e
 exact rq_right h2 hok
set_option maxRecDepth 4000 in
set_option maxHeartbeats 4000000 in
theorem q28Rate_any (v u : Value) (l : List RBr) (kk : Nat) (a : Rat) (w : World) (hv : SlIn (BrE kk) 8 w v l) (hu : RatIn w u a kk) (hk1 : 1 ≤ kk) (hk : kk ≤ 1000) (hn : l.length ≤ 64) :
  Calls Tryz.prog 17 #[v, u] w fun o w' => ∃ x, o = .returned (.tuple #[x, .int .i64 (tcode l)]) ∧ RatRd w' x (rateq l a) ∧ RSz (rateq l a) kk ∧ Beh w w' := by
 obtain ⟨p, c, rfl, hnc, hcm⟩ := hv.form
 obtain ⟨is, ip, im, ic, it, ir, jm, jc, rfl⟩ := hu.form
 obtain ⟨N, hN⟩ : ∃ N, N = l.length := ⟨_, rfl⟩
 rw [← hN] at hv hnc hn
 rw [← hN]
 refine calm_enter (C := cxOf Tryz.prog w _) (args := [_, _]) Tryz.func17 rfl Tryz.ntmps17 (Nat.le_of_ble_eq_true rfl) ?_
 (repeat first|refine wN ?_|refine wP rfl ?_|refine cx_r rfl ?_|refine cx_d rfl ?_|refine wO rfl rfl ?_)
 cases hb : bright l with
 | false =>
  have htc : tcode l = 2 := by unfold tcode; rw [hb]; rfl
  have htq : rateq l a = 0 := by unfold rateq; rw [hb]; rfl
  refine VO.call rfl rfl (fk Tryz.func20) (fun wa1 ka1 ba1 => (q28Right_ok _ l kk wa1 (hv.beh (br_ok kk) ba1) (by omega) false hb).mono ?_)
  rintro e w1 ⟨rfl, hb1⟩
  skip
  refine ⟨_, rfl, hb1, fun kb1 _ bb1 => wV rfl ?_⟩
  (repeat first|refine wN ?_|refine wP rfl ?_|refine cx_r rfl ?_|refine cx_d rfl ?_|refine wO rfl rfl ?_)
  refine VO.call rfl rfl (fk Tryz.func45) (fun wa2 ka2 ba2 => (q04Zero_any wa2).mono ?_)
  rintro e w2 ⟨r2, rfl, q2, hb2⟩
  obtain ⟨s2, p2, n2, c2, t2, y2, m2, d2, rfl⟩ := q2.form
  refine ⟨_, rfl, hb2, fun kb2 _ bb2 => wV rfl ?_⟩
  (repeat first|refine wN ?_|refine wP rfl ?_|refine cx_r rfl ?_|refine cx_d rfl ?_|refine wO rfl rfl ?_)
  refine VS.ret (cx_ok _ _) rfl rfl (fun wz kz bz => ?_)
  rw [htc, htq]
  exact ⟨_, rfl, q2.kr, RSz.zero.mono hk1, bz⟩
 | true =>
  have htc : tcode l = 0 := by unfold tcode; rw [hb]; rfl
  have hN1 : 0 < N := by rw [hN]; exact (bright_iff.1 hb).1
  obtain ⟨e, he⟩ : ∃ e, l[0]? = some e := ⟨_, List.getElem?_eq_getElem (by omega)⟩
  obtain ⟨b, off, cs', hpp, hc, hE⟩ := hv.at he
  have hE0 := hE
  obtain ⟨ap, ac, ar, ad, bp, bc, br, bd, rfl, -⟩ := hE
  subst hpp
  have hr0 : rate0 l = e.2.q := by
   cases l with
   | nil => cases he
   | cons x r => cases he; rfl
  have hrt := hE0.rateRd (bright_ok hb he).2
  have hrz := hE0.rate.sz hk1
  refine VO.call rfl rfl (fk Tryz.func20) (fun wa1 ka1 ba1 => (q28Right_ok _ l kk wa1 (hv.beh (br_ok kk) ba1) (by omega) true hb).mono ?_)
  rintro e w1 ⟨rfl, hb1⟩
  skip
  refine ⟨_, rfl, hb1, fun kb1 _ bb1 => wV rfl ?_⟩
  (repeat first|refine wN ?_|refine wP rfl ?_|refine cx_r rfl ?_|refine cx_d rfl ?_|refine wO rfl rfl ?_)
  refine VO.cond rfl ⟨by omega, by omega⟩ ?_
  refine wV rfl ?_
  (repeat first|refine wN ?_|refine wP rfl ?_|refine cx_r rfl ?_|refine cx_d rfl ?_|refine wO rfl rfl ?_)
  refine VO.read rfl [.bool e.2.1, .slice bp e.2.2.1.length bc, .bool e.2.2.2.1, .slice br e.2.2.2.2.length bd] rfl (cells_at hc 4 _ ⟨[], rfl⟩) (wV rfl ?_)
  (repeat first|refine wN ?_|refine wP rfl ?_|refine cx_r rfl ?_|refine cx_d rfl ?_|refine wO rfl rfl ?_)
  refine VS.loop (J := fun m L M w' => ∃ (z : Nat) (y : Rat) (s t : Bool) (p' r' : Option Addr) (n' c' m' d' : Nat), z ≤ N ∧ m = N - z ∧ L = [(0, .val (.slice (some ⟨b, off, none⟩) N c)), (7, .val (.int .i64 (z : Int))), (3, .box 3 0), (4, .box 4 0), (6, .box 6 0)] ∧
   M = [(3, (35, ([.bool is, .slice ip im ic, .bool it, .slice ir jm jc] : List Value).map .val)), (4, (35, ([.bool false, .slice none 0 0, .bool false, .slice none 0 0] : List Value).map .val)), (6, (35, ([.bool s, .slice p' n' c', .bool t, .slice r' m' d'] : List Value).map .val))] ∧
   RatRd w' (.agg #[.bool s, .slice p' n' c', .bool t, .slice r' m' d']) y ∧ RSz y kk ∧ y = brate a (rate0 l) ((brs l).take z)) N
   ⟨_, _, ?_, ?_, ?_, ?_, ⟨0, e.2.q, _, _, _, _, _, _, _, _, by omega, rfl, rfl, rfl, hrt.kp (T := fun _ => false) kb1, hrz, by rw [hr0]; rfl⟩⟩ ?_
  ·(repeat first|exact trivial|refine ⟨rfl, ?_⟩)
  ·(repeat first|exact trivial|refine ⟨rfl, ?_⟩)
  ·rfl
  ·(repeat first|exact trivial|refine ⟨ClosedC.lit rfl, ?_⟩|refine ⟨ClosedC.vals _, ?_⟩)
  rintro m L M wJ ⟨z, y, s, t, p', r', n', c', m', d', hz, rfl, rfl, rfl, hY, hYz, hyr⟩
  (repeat first|refine wN ?_|refine wP rfl ?_|refine cx_r rfl ?_|refine cx_d rfl ?_|refine wO rfl rfl ?_)
  by_cases hlt : z < N
  ·refine VS.condY rfl (decide_eq_true (Int.ofNat_lt.2 hlt)) ?_
   obtain ⟨x, hx⟩ : ∃ x, l[z]? = some x := ⟨_, List.getElem?_eq_getElem (by omega)⟩
   obtain ⟨b2, off2, cs2, hq2, hc2, hX⟩ := hv.at hx
   cases hq2
   have hX0 := hX
   obtain ⟨xp, xc, xr, xd, yp, yc, yr, yd, rfl, -⟩ := hX
   have hsn := brate_snoc (a := a) (r0 := rate0 l) (brs_at hx)
   rw [← hyr] at hsn
   obtain ⟨cg, hcg⟩ : ∃ cg, rcmp x.1.q a = cg := ⟨_, rfl⟩
   have hcg0 : x.1.q ≤ a ↔ cg ≤ 0 := by rw [← hcg]; exact rcmp_le.symm
   (repeat first|refine wN ?_|refine wP rfl ?_|refine cx_r rfl ?_|refine cx_d rfl ?_|refine wO rfl rfl ?_)
   refine VO.cond rfl ⟨by omega, by omega⟩ ?_
   refine wV rfl ?_
   (repeat first|refine wN ?_|refine wP rfl ?_|refine cx_r rfl ?_|refine cx_d rfl ?_|refine wO rfl rfl ?_)
   refine VO.read rfl [.bool x.1.1, .slice xp x.1.2.1.length xc, .bool x.1.2.2.1, .slice xr x.1.2.2.2.length xd] rfl (cells_at hc2 0 _ ⟨_, rfl⟩) (wV rfl ?_)
   (repeat first|refine wN ?_|refine wP rfl ?_|refine cx_r rfl ?_|refine cx_d rfl ?_|refine wO rfl rfl ?_)
   refine VO.call rfl rfl (fk Tryz.func50) (fun wa2 ka2 ba2 => (q04Cmp_ok _ _ x.1.q a kk kk wa2 (hX0.from.kp (Kp.of (U := UU) ba2)) (hu.kp (Kp.of (U := UU) ba2)) (by omega) (by omega) cg hcg).mono ?_)
   rintro e w2 ⟨rfl, hb2⟩
   skip
   refine ⟨_, rfl, hb2, fun kb2 _ bb2 => wV rfl ?_⟩
   (repeat first|refine wN ?_|refine wP rfl ?_|refine cx_r rfl ?_|refine cx_d rfl ?_|refine wO rfl rfl ?_)
   by_cases hle : cg ≤ 0
   ·refine VS.condY rfl (decide_eq_true hle) ?_
    rw [if_pos (show x.br.1 ≤ a from hcg0.2 hle)] at hsn
    (repeat first|refine wN ?_|refine wP rfl ?_|refine cx_r rfl ?_|refine cx_d rfl ?_|refine wO rfl rfl ?_)
    refine VO.cond rfl ⟨by omega, by omega⟩ ?_
    refine wV rfl ?_
    (repeat first|refine wN ?_|refine wP rfl ?_|refine cx_r rfl ?_|refine cx_d rfl ?_|refine wO rfl rfl ?_)
    refine VO.read rfl [.bool x.2.1, .slice yp x.2.2.1.length yc, .bool x.2.2.2.1, .slice yr x.2.2.2.2.length yd] rfl (cells_at hc2 4 _ ⟨[], rfl⟩) (wV rfl ?_)
    (repeat first|refine wN ?_|refine wP rfl ?_|refine cx_r rfl ?_|refine cx_d rfl ?_|refine wO rfl rfl ?_)
    refine VS.back (N - (z + 1)) (by omega) ⟨_, _, ?_, ?_, ?_, ?_, ⟨z + 1, x.2.q, _, _, _, _, _, _, _, _, by omega, rfl, rfl, rfl, (hX0.rateRd (bright_ok hb hx).2).kp (Kp.of (U := UU) bb2), hX0.rate.sz hk1, hsn.symm⟩⟩
    ·refine ⟨rfl, ?_, rfl, rfl, rfl, trivial⟩
     rw [← nat_step (i := z) (by omega)]; rfl
    ·(repeat first|exact trivial|refine ⟨rfl, ?_⟩)
    ·rfl
    ·(repeat first|exact trivial|refine ⟨ClosedC.lit rfl, ?_⟩|refine ⟨ClosedC.vals _, ?_⟩)
   ·refine VS.condN rfl (decide_eq_false hle) ?_
    rw [if_neg (show ¬ x.br.1 ≤ a from fun h => hle (hcg0.1 h))] at hsn
    (repeat first|refine wN ?_|refine wP rfl ?_|refine cx_r rfl ?_|refine cx_d rfl ?_|refine wO rfl rfl ?_)
    refine VS.back (N - (z + 1)) (by omega) ⟨_, _, ?_, ?_, ?_, ?_, ⟨z + 1, y, _, _, _, _, _, _, _, _, by omega, rfl, rfl, rfl, hY.kp (T := fun _ => false) kb2, hYz, hsn.symm⟩⟩
    ·refine ⟨rfl, ?_, rfl, rfl, rfl, trivial⟩
     rw [← nat_step (i := z) (by omega)]; rfl
    ·(repeat first|exact trivial|refine ⟨rfl, ?_⟩)
    ·rfl
    ·(repeat first|exact trivial|refine ⟨ClosedC.lit rfl, ?_⟩|refine ⟨ClosedC.vals _, ?_⟩)
  ·refine VS.condN rfl (decide_eq_false (fun e => hlt (Int.ofNat_lt.1 e))) ?_
   have hfin : y = rateq l a := by
    rw [hyr, List.take_of_length_le (by unfold brs; rw [List.length_map]; omega)]
    unfold rateq; rw [hb]; rfl
   rw [hfin] at hY hYz
   (repeat first|refine wN ?_|refine wP rfl ?_|refine cx_r rfl ?_|refine cx_d rfl ?_|refine wO rfl rfl ?_)
   refine VS.ret (cx_ok _ _) rfl rfl (fun wz kz bz => ?_)
   rw [htc]
   exact ⟨_, rfl, hY.kp (T := fun _ => false) kz, hYz, bz⟩
end Go.Proofs.YtofdiijioejljaaGreat
