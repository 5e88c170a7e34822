/- Tax by brackets: the iterator over the parts of an income. -/
import Derived.Test.YtofdiijioejljaaGreatRange
import Derived.Test.YtofdiijioejljaaGreatBrOne
import Derived.Shelf.Abstract
set_option linter.all false
set_option maxRecDepth 4000
namespace Go.Proofs.YtofdiijioejljaaGreat
open Go.RowKit
attribute [local irreducible] vcOps VS

theorem cls_at {w : World} {b : Nat} {t : TypeId} {cs : List Value} (h : Cls w b t cs.toArray) (off : Nat) (ds : List Value) (hd : ds <+: cs.drop off) : ∀ (j : Nat) (u : Value), ds[j]? = some u → w.cell? ((⟨b, off, none⟩ : Addr).add j) = some u := by
 intro j u hj
 obtain ⟨t, ht⟩ := hd
 rw [Addr.add_mid]
 refine Cls.cell (b := b) h ?_
 rw [List.getElem?_toArray, ← List.getElem?_drop, ← ht, List.getElem?_append_left (List.getElem?_eq_some_iff.1 hj).1]
 exact hj
theorem SlIn.cap {α : Type} {E : World → List Value → α → Prop} {sz : Nat} {w : World} {p : Option Addr} {n c : Nat} {es : List α} (h : SlIn E sz w (.slice p n c) es) : es.length ≤ c ∧ c ≤ 9223372036854775807 := by
 obtain ⟨q, d, e, h1, h2⟩ := h.form
 cases e
 exact ⟨h1, h2⟩
theorem YieldAt.mono {P : Program} {l : Nat} {args : Array Value} {W : World} {R R' : Ending → World → Prop} (h : YieldAt Fence.wide 0 P l args W R) (hr : ∀ e W', R e W' → R' e W') : YieldAt Fence.wide 0 P l args W R' := by
 obtain ⟨fn, tmps, assign, body, h1, h2⟩ := h
 exact ⟨fn, tmps, assign, body, h1, h2.mono hr⟩
def brs (l : List RBr) : List Br := l.map RBr.br
theorem brs_at {l : List RBr} {i : Nat} {x : RBr} (h : l[i]? = some x) : (brs l)[i]? = some x.br := by unfold brs; rw [List.getElem?_map, h]; rfl
def bend (l : List RBr) (a : Rat) (i : Nat) : Rat := btop a ((brs l).drop (i + 1))
theorem bend_last {l : List RBr} {a : Rat} {i : Nat} (h : l.length ≤ i + 1) : bend l a i = a := by
 unfold bend
 rw [List.drop_of_length_le (by unfold brs; rw [List.length_map]; omega)]
 rfl
theorem bend_next {l : List RBr} {a : Rat} {i : Nat} {y : RBr} (h : l[i + 1]? = some y) : bend l a i = if y.1.q < a then y.1.q else a := by
 unfold bend
 rw [btop_drop, brs_at h]
 rfl
theorem rless_one (a f : Rat) : rbest rless a [f] = if f < a then f else a := by
 show (if rless f a = true then f else a) = _
 by_cases h : f < a
 ·rw [if_pos (rless_iff.2 h), if_pos h]
 ·rw [if_neg (fun e => h (rless_iff.1 e)), if_neg h]
structure Cap (l : List RBr) (kk : Nat) (a : Rat) (B1 B2 : Nat) (p : Option Addr) (c : Nat) (cs : List Value) (w : World) : Prop where
 row : SlIn (BrE kk) 8 w (.slice p l.length c) l
 box1 : Cls w B1 22 [.slice p l.length c].toArray
 box2 : Cls w B2 27 cs.toArray
 inc : RatIn w (.agg cs.toArray) a kk
def BrPr (l : List RBr) (kk : Nat) (a : Rat) (i : Nat) (vs : Array Value) (w : World) : Prop :=
 ∃ x s p n c t r m d bs, l[i]? = some x ∧ x.1.q < a ∧ vs = #[.agg #[.bool s, .slice p n c, .bool t, .slice r m d], .agg (List.toArray bs)] ∧ RatIn w (.agg #[.bool s, .slice p n c, .bool t, .slice r m d]) (bend l a i) kk ∧ BrE kk w bs x
def BrFin (l : List RBr) (a : Rat) (i : Nat) : Prop := i ≤ l.length ∧ ∀ x, l[i]? = some x → a ≤ x.1.q
set_option maxRecDepth 4000 in
set_option maxHeartbeats 4000000 in
theorem parts1_any (l : List RBr) (kk : Nat) (hk1 : 1 ≤ kk) (hk : kk ≤ 1000) (a : Rat) (ly B1 B2 : Nat) (p : Option Addr) (c : Nat) (is : Bool) (ip : Option Addr) (im ic : Nat) (it : Bool) (ir : Option Addr) (jm jc : Nat) (J : Nat → World → Prop)
  (hcap : ∀ i W, J i W → Cap l kk a B1 B2 p c [.bool is, .slice ip im ic, .bool it, .slice ir jm jc] W) (hbeh : ∀ i W W', J i W → Beh W W' → J i W')
  (hy : ∀ i vs W, J i W → BrPr l kk a i vs W → YieldAt Fence.wide 0 Tryz.prog ly vs W fun e W' => e = .returned (.bool true) ∧ J (i + 1) W') (w : World) (h0 : J 0 w) :
  Calls Tryz.prog 76 #[.func (.yield ly) #[] #[], .pointer (some ⟨B1, 0, none⟩), .pointer (some ⟨B2, 0, none⟩)] w fun o w' => (∃ v, o = .returned v) ∧ ∃ i, BrFin l a i ∧ J i w' := by
 obtain ⟨N, hN⟩ : ∃ N, N = l.length := ⟨_, rfl⟩
 obtain ⟨hnc, hcm⟩ := (hcap 0 w h0).row.cap
 rw [← hN] at hnc
 refine calm_enter (C := cxOf Tryz.prog w _) (args := [_, _, _]) Tryz.func76 rfl Tryz.ntmps76 (Nat.le_of_ble_eq_true rfl) ?_
 (repeat first|refine wN ?_|refine wP rfl ?_|refine cx_r rfl ?_|refine cx_d rfl ?_|refine wO rfl rfl ?_)
 refine VO.read rfl [.slice p l.length c] rfl (cls_at (hcap 0 w h0).box1 0 _ ⟨[], rfl⟩) (wV rfl ?_)
 (repeat first|refine wN ?_|refine wP rfl ?_|refine cx_r rfl ?_|refine cx_d rfl ?_|refine wO rfl rfl ?_)
 rw [← hN]
 refine VS.loopR (fun W => cxOf Tryz.prog W _) (J := fun m L W => ∃ i : Nat, i ≤ N ∧ m = N - i ∧ J i W ∧ L = [(0, .func (.yield ly) #[] #[]), (1, .pointer (some ⟨B1, 0, none⟩)), (2, .pointer (some ⟨B2, 0, none⟩)), (7, .slice p N c), (8, .int .i64 (N : Int)), (9, .int .i64 (i : Int))]) (fun _ => rfl) (fun _ => rfl) (fun W => Beh.refl W) N
  (fun w' hkw how => ⟨_, ?hL, 0, by omega, rfl, hbeh 0 w w' h0 how, rfl⟩) ?_
 case hL => exact ⟨rfl, rfl, rfl, rfl, rfl, rfl, trivial⟩
 rintro m L w ⟨i, hi, rfl, hJ, rfl⟩
 have hC := hcap i w hJ
 obtain ⟨hrow, hbx1, hbx2, hin⟩ := hC
 rw [← hN] at hrow hbx1
 (repeat first|refine wN ?_|refine wP rfl ?_|refine cx_r rfl ?_|refine cx_d rfl ?_|refine wO rfl rfl ?_)
 by_cases hlt : i < N
 ·refine VS.condY rfl (decide_eq_true (Int.ofNat_lt.2 hlt)) ?_
  obtain ⟨e, he⟩ : ∃ e, l[i]? = some e := ⟨_, List.getElem?_eq_getElem (by omega)⟩
  obtain ⟨b, off, cs', hpp, hc, hE⟩ := hrow.at he
  have hE0 := hE
  obtain ⟨⟨s1, x1, t1, y1⟩, ⟨s2, x2, t2, y2⟩⟩ := e
  obtain ⟨ap, ac, ar, ad, bp, bc, br, bd, rfl, hf, hr, g1, g2, g3, g4⟩ := hE
  replace hf : RatRaw w (.agg #[.bool s1, .slice ap x1.length ac, .bool t1, .slice ar y1.length ad]) s1 x1 t1 y1 := hf
  replace g1 : x1.length ≤ kk := g1
  replace g2 : y1.length ≤ kk := g2
  have hfi := hf.in g1 g2
  subst hpp
  (repeat first|refine wN ?_|refine wP rfl ?_|refine cx_r rfl ?_|refine cx_d rfl ?_|refine wO rfl rfl ?_)
  refine VO.cond rfl ⟨by omega, by omega⟩ ?_
  refine wV rfl ?_
  (repeat first|refine wN ?_|refine wP rfl ?_|refine cx_r rfl ?_|refine cx_d rfl ?_|refine wO rfl rfl ?_)
  refine VO.read rfl [.bool s1, .slice ap x1.length ac, .bool t1, .slice ar y1.length ad, .bool s2, .slice bp x2.length bc, .bool t2, .slice br y2.length bd] rfl (cells_at hc 0 _ ⟨[], rfl⟩) (wV rfl ?_)
  (repeat first|refine wN ?_|refine wP rfl ?_|refine cx_r rfl ?_|refine cx_d rfl ?_|refine wO rfl rfl ?_)
  refine VO.read rfl [.bool is, .slice ip im ic, .bool it, .slice ir jm jc] rfl (cls_at hbx2 0 _ ⟨[], rfl⟩) (wV rfl ?_)
  (repeat first|refine wN ?_|refine wP rfl ?_|refine cx_r rfl ?_|refine cx_d rfl ?_|refine wO rfl rfl ?_)
  obtain ⟨cg, hcg⟩ : ∃ cg, rcmp (rq s1 x1 t1 y1) a = cg := ⟨_, rfl⟩
  have hcg0 : a ≤ rq s1 x1 t1 y1 ↔ cg ≥ 0 := by rw [← hcg]; exact rcmp_ge.symm
  refine VO.call rfl rfl (fk Tryz.func27) (fun wa1 ka1 ba1 => (ratCmp_ok _ _ (rq s1 x1 t1 y1) a kk kk wa1 (hfi.kp (Kp.of (U := UU) ba1)) (hin.kp (Kp.of (U := UU) ba1)) (by omega) (by omega) cg hcg).mono ?_)
  rintro e w1 ⟨rfl, hb1⟩
  skip
  refine ⟨_, rfl, hb1, fun kb1 _ bb1 => wV rfl ?_⟩
  (repeat first|refine wN ?_|refine wP rfl ?_|refine cx_r rfl ?_|refine cx_d rfl ?_|refine wO rfl rfl ?_)
  by_cases hge : cg ≥ 0
  ·refine VS.condY rfl (decide_eq_true hge) ?_
   (repeat first|refine wN ?_|refine wP rfl ?_|refine cx_r rfl ?_|refine cx_d rfl ?_|refine wO rfl rfl ?_)
   refine VS.ret (cx_ok _ _) rfl rfl (fun wz kz bz => ?_)
   refine ⟨⟨_, rfl⟩, i, ⟨by omega, fun x hx => ?_⟩, hbeh i w wz hJ bz⟩
   rw [he] at hx; cases hx
   exact hcg0.2 hge
  refine VS.condN rfl (decide_eq_false hge) ?_
  have hxa : rq s1 x1 t1 y1 < a := Rat.not_le.1 fun h => hge (hcg0.1 h)
  (repeat first|refine wN ?_|refine wP rfl ?_|refine cx_r rfl ?_|refine cx_d rfl ?_|refine wO rfl rfl ?_)
  refine VO.read rfl [.bool is, .slice ip im ic, .bool it, .slice ir jm jc] rfl (cls_at hbx2 0 _ ⟨[], rfl⟩) (wV rfl ?_)
  (repeat first|refine wN ?_|refine wP rfl ?_|refine cx_r rfl ?_|refine cx_d rfl ?_|refine wO rfl rfl ?_)
  refine VO.read rfl [.slice (some ⟨b, off, none⟩) N c] rfl (cls_at hbx1 0 _ ⟨[], rfl⟩) (wV rfl ?_)
  (repeat first|refine wN ?_|refine wP rfl ?_|refine cx_r rfl ?_|refine cx_d rfl ?_|refine wO rfl rfl ?_)
  by_cases hnx : i + 1 < N
  ·refine VS.condY rfl (decide_eq_true (show IntKind.i64.wrap ((i : Int) + 1) < (N : Int) by rw [nat_step (by omega)]; omega)) ?_
   obtain ⟨y, hy'⟩ : ∃ y, l[i + 1]? = some y := ⟨_, List.getElem?_eq_getElem (by omega)⟩
   obtain ⟨b', off', cs2, hpp, hc', hE'⟩ := hrow.at hy'
   cases hpp
   have hbe := bend_next (a := a) hy'
   obtain ⟨⟨u1, v1, a1, b1⟩, ⟨u2, v2, a2, b2⟩⟩ := y
   obtain ⟨cp, cc, cr, cd, dp, dc, dr, dd, rfl, hfy, -, k1, k2, -, -⟩ := hE'
   replace hfy : RatRaw w (.agg #[.bool u1, .slice cp v1.length cc, .bool a1, .slice cr b1.length cd]) u1 v1 a1 b1 := hfy
   replace k1 : v1.length ≤ kk := k1
   replace k2 : b1.length ≤ kk := k2
   replace hbe : bend l a i = if rq u1 v1 a1 b1 < a then rq u1 v1 a1 b1 else a := hbe
   have hfyi := hfy.in k1 k2
   (repeat first|refine wN ?_|refine wP rfl ?_|refine cx_r rfl ?_|refine cx_d rfl ?_|refine wO rfl rfl ?_)
   refine VO.read rfl [.slice (some ⟨b, off, none⟩) N c] rfl (cls_at hbx1 0 _ ⟨[], rfl⟩) (wV rfl ?_)
   (repeat first|refine wN ?_|refine wP rfl ?_|refine cx_r rfl ?_|refine cx_d rfl ?_|refine wO rfl rfl ?_)
   refine VO.fix 28 rfl (congrArg (fun z => AV.val (.int .i64 z)) (nat_step (i := i) (by omega))) ?_
   (repeat first|refine wN ?_|refine wP rfl ?_|refine cx_r rfl ?_|refine cx_d rfl ?_|refine wO rfl rfl ?_)
   refine VO.cond rfl ⟨by omega, by omega⟩ ?_
   refine wV rfl ?_
   (repeat first|refine wN ?_|refine wP rfl ?_|refine cx_r rfl ?_|refine cx_d rfl ?_|refine wO rfl rfl ?_)
   refine VO.read rfl [.bool u1, .slice cp v1.length cc, .bool a1, .slice cr b1.length cd] rfl (cells_at hc' 0 _ ⟨_, rfl⟩) (wV rfl ?_)
   (repeat first|refine wN ?_|refine wP rfl ?_|refine cx_r rfl ?_|refine cx_d rfl ?_|refine wO rfl rfl ?_)
   refine VO.callF rfl (fk Tryz.func30) (fun wa2 β ka2 ba2 ho => (ratMin_any _ _ a [rq u1 v1 a1 b1] kk wa2 (hin.kp (Kp.of (U := UU) ba2)) (ownV_rats (ho.own 32 (.base (List.mem_singleton.2 rfl)) _ _ rfl) [] (vs := [[.bool u1, .slice cp v1.length cc, .bool a1, .slice cr b1.length cd]]) (by rfl) rfl (RatRow.cons (hfyi.kp (Kp.of (U := UU) ba2)) RatRow.nil) (Nat.le_of_ble_eq_true rfl) (by decide)) (by omega) (Nat.le_of_ble_eq_true rfl)).mono ?_)
   rintro e w2 ⟨r2, rfl, q2, -, hb2⟩
   obtain ⟨e1, e2, e3, e4, e5, e6, e7, e8, rfl⟩ := q2.form
   have hbe' : rbest rless a [rq u1 v1 a1 b1] = bend l a i := by rw [rless_one, hbe]
   have hbz : RSz (bend l a i) kk := by
    rw [hbe]
    split
    ·exact hfyi.sz hk1
    ·exact hin.sz hk1
   refine ⟨_, rfl, hb2, fun kb2 _ bb2 => wV rfl ?_⟩
   (repeat (first | refine wN ?_ | refine wP rfl ?_ | refine wO rfl rfl ?_))
   refine VS.regionY (cx_ok _ _) 3 rfl rfl rfl rfl rfl rfl rfl rfl (wV rfl ?_)
   refine wN ?_
   refine ⟨ly, _, fun W => cxOf Tryz.prog W _, rfl, rfl, fun _ => rfl, fun _ => rfl, fun W => Beh.refl W, (show 37 < 40 by decide), (show 38 < 40 by decide), fun w9 kw ow => ?_⟩
   refine YieldAt.mono (hy i _ w9 (hbeh i w w9 hJ ow) ⟨_, _, _, _, _, _, _, _, _, [.bool s1, .slice ap x1.length ac, .bool t1, .slice ar y1.length ad, .bool s2, .slice bp x2.length bc, .bool t2, .slice br y2.length bd], he, hxa, rfl, ((q2.cast hbe').k).in hbz, (br_ok kk).kp hE0 (Kp.of (U := UU) ow)⟩) ?_
   rintro e w ⟨rfl, hJ2⟩
   refine ⟨rfl, [(0, .func (.yield ly) #[] #[]), (1, .pointer (some ⟨B1, 0, none⟩)), (2, .pointer (some ⟨B2, 0, none⟩)), (7, .slice (some ⟨b, off, none⟩) N c), (8, .int .i64 (N : Int)), (9, .int .i64 (i : Int))], ⟨rfl, rfl, rfl, rfl, rfl, rfl, trivial⟩, rfl, ?_⟩
   (repeat first|refine wN ?_|refine wP rfl ?_|refine cx_r rfl ?_|refine cx_d rfl ?_|refine wO rfl rfl ?_)
   refine VS.backR rfl (N - (i + 1)) (by omega) [(0, .func (.yield ly) #[] #[]), (1, .pointer (some ⟨B1, 0, none⟩)), (2, .pointer (some ⟨B2, 0, none⟩)), (7, .slice (some ⟨b, off, none⟩) N c), (8, .int .i64 (N : Int)), (9, .int .i64 ((i + 1 : Nat) : Int))] ⟨rfl, rfl, rfl, rfl, rfl, ?_, trivial⟩ (fun w' hk' ho' => ⟨i + 1, by omega, rfl, hbeh _ w w' hJ2 ho', rfl⟩)
   rw [← nat_step (i := i) (by omega)]; rfl
  ·refine VS.condN rfl (decide_eq_false (show ¬ IntKind.i64.wrap ((i : Int) + 1) < (N : Int) by rw [nat_step (by omega)]; omega)) ?_
   have hbe := bend_last (l := l) (a := a) (i := i) (by omega)
   (repeat (first | refine wN ?_ | refine wP rfl ?_ | refine wO rfl rfl ?_))
   refine VS.regionY (cx_ok _ _) 3 rfl rfl rfl rfl rfl rfl rfl rfl (wV rfl ?_)
   refine wN ?_
   refine ⟨ly, _, fun W => cxOf Tryz.prog W _, rfl, rfl, fun _ => rfl, fun _ => rfl, fun W => Beh.refl W, (show 37 < 40 by decide), (show 38 < 40 by decide), fun w9 kw ow => ?_⟩
   refine YieldAt.mono (hy i _ w9 (hbeh i w w9 hJ ow) ⟨_, _, _, _, _, _, _, _, _, [.bool s1, .slice ap x1.length ac, .bool t1, .slice ar y1.length ad, .bool s2, .slice bp x2.length bc, .bool t2, .slice br y2.length bd], he, hxa, rfl, (by rw [hbe]; exact hin.kp (Kp.of (U := UU) ow)), (br_ok kk).kp hE0 (Kp.of (U := UU) ow)⟩) ?_
   rintro e w ⟨rfl, hJ2⟩
   refine ⟨rfl, [(0, .func (.yield ly) #[] #[]), (1, .pointer (some ⟨B1, 0, none⟩)), (2, .pointer (some ⟨B2, 0, none⟩)), (7, .slice (some ⟨b, off, none⟩) N c), (8, .int .i64 (N : Int)), (9, .int .i64 (i : Int))], ⟨rfl, rfl, rfl, rfl, rfl, rfl, trivial⟩, rfl, ?_⟩
   (repeat first|refine wN ?_|refine wP rfl ?_|refine cx_r rfl ?_|refine cx_d rfl ?_|refine wO rfl rfl ?_)
   refine VS.backR rfl (N - (i + 1)) (by omega) [(0, .func (.yield ly) #[] #[]), (1, .pointer (some ⟨B1, 0, none⟩)), (2, .pointer (some ⟨B2, 0, none⟩)), (7, .slice (some ⟨b, off, none⟩) N c), (8, .int .i64 (N : Int)), (9, .int .i64 ((i + 1 : Nat) : Int))] ⟨rfl, rfl, rfl, rfl, rfl, ?_, trivial⟩ (fun w' hk' ho' => ⟨i + 1, by omega, rfl, hbeh _ w w' hJ2 ho', rfl⟩)
   rw [← nat_step (i := i) (by omega)]; rfl
 ·refine VS.condN rfl (decide_eq_false (fun e => hlt (Int.ofNat_lt.1 e))) ?_
  have hiN : i = N := by omega
  (repeat first|refine wN ?_|refine wP rfl ?_|refine cx_r rfl ?_|refine cx_d rfl ?_|refine wO rfl rfl ?_)
  refine VS.endA (cx_ok _ _) rfl fun wz β kz bz en => ?_
  refine ⟨⟨_, rfl⟩, i, ⟨by omega, fun x hx => ?_⟩, hbeh i w wz hJ bz⟩
  rw [List.getElem?_eq_none (by omega)] at hx; cases hx
end Go.Proofs.YtofdiijioejljaaGreat
/- Tax by brackets: the tax. -/
namespace Go.Proofs.YtofdiijioejljaaGreat
open Go.RowKit
attribute [local irreducible] vcOps VS

theorem parts_any (lp : Option Addr) (ln lc : Nat) (s : Bool) (p : Option Addr) (n c : Nat) (t : Bool) (r : Option Addr) (m d : Nat) (w : World) :
  Calls Tryz.prog 40 #[.slice lp ln lc, .agg #[.bool s, .slice p n c, .bool t, .slice r m d]] w fun o w' => ∃ B1 B2, o = .returned (.func (.func 76) #[] #[.pointer (some ⟨B1, 0, none⟩), .pointer (some ⟨B2, 0, none⟩)]) ∧
   Cls w' B1 22 [.slice lp ln lc].toArray ∧ Cls w' B2 27 [.bool s, .slice p n c, .bool t, .slice r m d].toArray ∧ w.heap.size ≤ B1 ∧ w.heap.size ≤ B2 ∧ Beh w w' := by
 refine calm_enter (C := cxOf Tryz.prog w _) (args := [_, _]) Tryz.func40 rfl Tryz.ntmps40 (Nat.le_of_ble_eq_true rfl) ?_
 (repeat first|refine wN ?_|refine wP rfl ?_|refine cx_r rfl ?_|refine cx_d rfl ?_|refine wO rfl rfl ?_)
 refine VS.retA (cx_ok _ _) rfl (fun wz β kz bz en => ?_)
 exact ⟨β 2, β 3, rfl, (en.own 2 _ _ rfl).cls, (en.own 3 _ _ rfl).cls, (en.own 2 _ _ rfl).new, (en.own 3 _ _ rfl).new, bz⟩

theorem binc_right {l : List RBr} (h : bright l = true) : binc (brs l) := by
 obtain ⟨_, h2⟩ := bright_iff.1 h
 refine binc_of fun i x y hx hy => ?_
 unfold brs at hx hy
 rw [List.getElem?_map] at hx hy
 cases hx' : l[i]? with
 | none => rw [hx'] at hx; cases hx
 | some u =>
  cases hy' : l[i + 1]? with
  | none => rw [hy'] at hy; cases hy
  | some v =>
   rw [hx'] at hx; rw [hy'] at hy
   cases hx; cases hy
   have := h2 (i + 1) (List.getElem?_eq_some_iff.1 hy').1 v hy'
   unfold bok at this
   rw [Bool.and_eq_true, Bool.and_eq_true, Bool.and_eq_true] at this
   have h3 := this.2.2
   show u.1.q < v.1.q
   have e : bprev l (i + 1) = some u := hx'
   rw [e] at h3
   exact of_decide_eq_true h3
def bpre (l : List RBr) (a : Rat) (i : Nat) : Rat := btax a (brs l) - btax a ((brs l).drop i)
theorem bpre_zero (l : List RBr) (a : Rat) : bpre l a 0 = 0 := by unfold bpre; rw [List.drop_zero]; grind
theorem bpre_succ {l : List RBr} {a : Rat} {i : Nat} {x : RBr} (hi : binc (brs l)) (h : l[i]? = some x) (hx : x.1.q < a) : bpre l a (i + 1) = bpre l a i + (bend l a i - x.1.q) * x.2.q := by
 have h1 := brs_at h
 have h2 := btax_drop (a := a) h1
 have h3 : bpart a x.br ((brs l).drop (i + 1)) = bend l a i - x.1.q := by
  refine bpart_in hx ?_
  have := binc_drop i hi
  obtain ⟨hl, e⟩ := List.getElem?_eq_some_iff.1 h1
  rw [List.drop_eq_getElem_cons hl, e] at this
  exact this
 rw [h3] at h2
 have h4 : x.br.2 = x.2.q := rfl
 rw [h4] at h2
 unfold bpre
 rw [h2]
 grind
theorem bpre_end {l : List RBr} {a : Rat} {i : Nat} (hi : binc (brs l)) (h : BrFin l a i) : bpre l a i = btax a (brs l) := by
 unfold bpre
 have : btax a ((brs l).drop i) = 0 := by
  cases hx : l[i]? with
  | none =>
   have hn := List.getElem?_eq_none_iff.1 hx
   rw [List.drop_of_length_le (by unfold brs; rw [List.length_map]; exact hn)]
   rfl
  | some x =>
   have h1 := brs_at hx
   obtain ⟨hl, e⟩ := List.getElem?_eq_some_iff.1 h1
   have h2 := binc_drop i hi
   rw [List.drop_eq_getElem_cons hl, e] at h2 ⊢
   exact btax_hi h2 (h.2 x hx)
 rw [this]; grind
def taxq (l : List RBr) (a : Rat) : Rat := if bright l = true then btax a (brs l) else 0
def tcode (l : List RBr) : Int := if bright l = true then 0 else 2
def tsz (n kk : Nat) : Nat := 1 + n * (3 * kk + 2)
theorem tsz_le {n kk : Nat} (hn : n ≤ 64) (hk : kk ≤ 1000) : tsz n kk ≤ 1000000 := by
 unfold tsz
 have h1 : n * (3 * kk + 2) ≤ 64 * (3 * kk + 2) := Nat.mul_le_mul_right _ hn
 omega
theorem tsz_succ (i kk : Nat) : tsz (i + 1) kk = tsz i kk + (3 * kk + 1) + 1 := by unfold tsz; rw [Nat.succ_mul]; omega
theorem tsz_mono {i n kk : Nat} (h : i ≤ n) : tsz i kk ≤ tsz n kk := by
 unfold tsz
 have := Nat.mul_le_mul_right (3 * kk + 2) h
 omega
theorem bRight_ok (v : Value) (l : List RBr) (kk : Nat) (w : World) (hv : SlIn (BrE kk) 8 w v l) (hk : kk ≤ 1000000) (b : Bool) (hb : bright l = b) :
  Calls Tryz.prog 19 #[v] w fun o w' => o = .returned (.bool b) ∧ Beh w w' := hb ▸ bRight_any v l kk w hv hk
theorem some_ne {α : Type} {x : Option α} {v : α} (h : x = some v) : x ≠ none := fun e => by rw [h] at e; cases e
abbrev cxB (P : Program) (w : World) (N : Nat) (g : Nat) (ha : AdOk (KU UU) [g] w) : Cx := adCx P w N (KU UU) (fun t => Nat.beq t 23) table (fun _ _ => trivial) [g] (one_nodup g) ha
theorem cxB_ok (w : World) (N g : Nat) (ha : AdOk (KU UU) [g] w) : (cxB Tryz.prog w N g ha).Ok := table_ok
theorem cxB_mixed (w : World) (N g : Nat) (ha : AdOk (KU UU) [g] w) : (cxB Tryz.prog w N g ha).P.follows .mixedOrders = true := by show Tryz.prog.follows .mixedOrders = true; kernel_rfl
def TaxJ (l : List RBr) (kk : Nat) (a : Rat) (g B : Nat) (w1 : World) (i : Nat) (W : World) : Prop :=
 But [g] w1 W ∧ i ≤ l.length ∧ ∃ s p n c t r m d, Cls W g 27 [.bool s, .slice p n c, .bool t, .slice r m d].toArray ∧ RatOwn W B (.agg #[.bool s, .slice p n c, .bool t, .slice r m d]) (bpre l a i) ∧ RSz (bpre l a i) (tsz i kk)
set_option maxRecDepth 4000 in
set_option maxHeartbeats 4000000 in
theorem bTax_any (v u : Value) (l : List RBr) (kk : Nat) (a : Rat) (w : World) (hv : SlIn (BrE kk) 8 w v l) (hu : RatIn w u a kk) (hk1 : 1 ≤ kk) (hk : kk ≤ 1000) (hn : l.length ≤ 64) :
  Calls Tryz.prog 11 #[v, u] w fun o w' => ∃ x, o = .returned (.tuple #[x, .int .i64 (tcode l)]) ∧ RatOwn w' w.heap.size x (taxq l a) ∧ RSz (taxq l a) (tsz l.length kk) ∧ Beh w w' := by
 obtain ⟨p, c, rfl, hnc, hcm⟩ := hv.form
 obtain ⟨is, ip, im, ic, it, ir, jm, jc, rfl⟩ := hu.form
 refine calm_enterM (C := cxOf Tryz.prog w _) (args := [_, _]) Tryz.func11 rfl Tryz.ntmps11 (Nat.le_of_ble_eq_true rfl) ?_
 (repeat first|refine wN ?_|refine wP rfl ?_|refine cx_r rfl ?_|refine cx_d rfl ?_|refine wO rfl rfl ?_)
 refine VO.call rfl rfl (fk Tryz.func28) (fun wa1 ka1 ba1 => (ratWhole_any 0 wa1 (by omega) (by omega)).mono ?_)
 rintro e w1 ⟨r1, rfl, q1, hb1⟩
 obtain ⟨s1, p1, n1, c1, t1, y1, m1, d1, rfl⟩ := q1.form
 refine ⟨_, rfl, hb1, fun kb1 _ bb1 => wV rfl ?_⟩
 (repeat first|refine wN ?_|refine wP rfl ?_|refine cx_r rfl ?_|refine cx_d rfl ?_|refine wO rfl rfl ?_)
 cases hb : bright l with
 | false =>
  have htc : tcode l = 2 := by unfold tcode; rw [hb]; rfl
  have htq : taxq l a = 0 := by unfold taxq; rw [hb]; rfl
  refine VO.call rfl rfl (fk Tryz.func19) (fun wa2 ka2 ba2 => (bRight_ok _ l kk wa2 (hv.beh (br_ok kk) ba2) (by omega) false hb).mono ?_)
  rintro e w2 ⟨rfl, hb2⟩
  skip
  refine ⟨_, rfl, hb2, fun kb2 _ bb2 => wV rfl ?_⟩
  (repeat first|refine wN ?_|refine wP rfl ?_|refine cx_r rfl ?_|refine cx_d rfl ?_|refine wO rfl rfl ?_)
  refine VS.retM (cx_ok _ _) rfl rfl (fun wz kz bz => ?_)
  rw [htc, htq]
  exact ⟨_, rfl, (q1.k).mono ba1.size, RSz.zero.mono (by unfold tsz; omega), bz⟩
 | true =>
  have htc : tcode l = 0 := by unfold tcode; rw [hb]; rfl
  have htq : taxq l a = btax a (brs l) := by unfold taxq; rw [hb]; rfl
  have hbi := binc_right hb
  refine VO.call rfl rfl (fk Tryz.func19) (fun wa2 ka2 ba2 => (bRight_ok _ l kk wa2 (hv.beh (br_ok kk) ba2) (by omega) true hb).mono ?_)
  rintro e w2 ⟨rfl, hb2⟩
  skip
  refine ⟨_, rfl, hb2, fun kb2 _ bb2 => wV rfl ?_⟩
  (repeat (first | refine wN ?_ | refine wP rfl ?_ | refine wO rfl rfl ?_))
  refine VS.regionC (cx_ok _ _) 2 rfl rfl rfl (wV rfl ?_)
  refine wN ?_
  refine ⟨_, _, _, rfl, rfl, fk Tryz.func40, fun w3 k3 o3 => (parts_any p l.length c is ip im ic it ir jm jc w3).mono ?_⟩
  rintro e w4 ⟨B1, B2, rfl, hB1, hB2, hl1, hl2, hb4⟩
  refine ⟨_, rfl, hb4, fun β a3 a4 hr3 hr4 k4 => ?_⟩
  have hn6 := (hr3.own 6 _ _ rfl).new
  have hn4 := (hr3.own 4 _ _ rfl).new
  have hc6 := (hr4.own 6 _ _ rfl).cls
  have hc4 := (hr4.own 4 _ _ rfl).cls
  have hlt6 := (hr3.own 6 _ _ rfl).cls.lt
  have hap : β 6 ≠ β 4 := fun e => by
   have := hr4.apart 6 4 (some_ne rfl) (some_ne rfl) e
   omega
  have hsz4 : a4.tmps.size = 29 := hr4.size
  replace hc6 : Cls w4 (β 6) 27 [.bool s1, .slice p1 n1 c1, .bool t1, .slice y1 m1 d1].toArray := hc6
  replace hc4 : Cls w4 (β 4) 27 [.bool false, .slice none 0 0, .bool false, .slice none 0 0].toArray := hc4
  have hs4 : w3.heap.size ≤ w4.heap.size := hb4.size
  have hb34 : Beh w w4 := o3.thn hb4
  have hcap : ∀ i W, TaxJ l kk a (β 6) w.heap.size w4 i W → Cap l kk a B1 B2 p c [.bool is, .slice ip im ic, .bool it, .slice ir jm jc] W := fun i W h => by
   have hbw : Beh w W := But.beh hb34 h.1 (fun g hg => by rw [List.mem_singleton] at hg; rw [hg]; exact hn6)
   exact ⟨hv.beh (br_ok kk) hbw, (h.1.blk _ hB1.lt (fun hm => by rw [List.mem_singleton] at hm; omega)).trans hB1, (h.1.blk _ hB2.lt (fun hm => by rw [List.mem_singleton] at hm; omega)).trans hB2, hu.kp (Kp.of (U := UU) hbw)⟩
  refine wp_block ((wpIn_wide (n := 0)).1 (wpIn_range (Bo := β 6) hc6.lt (gf := 76) (lb := #[.pointer (some ⟨B1, 0, none⟩), .pointer (some ⟨B2, 0, none⟩)]) (hr4.tmp 16 _ rfl) (enters_of Tryz.func76 (by kernel_rfl) rfl)
   (TaxJ l kk a (β 6) w.heap.size w4) (BrPr l kk a) (BrFin l a) ?hput ?hbeh ?h0 ?hps ?hseq ?hround ?hdone))
  case hput =>
   rintro i W q r r' ⟨g1, g0, s, p', n, c', t, r2, m, d, g2, g3, g4⟩ hq hl
   exact ⟨g1.put hq _, g0, s, p', n, c', t, r2, m, d, g2.put hl _, g3.kp (T := fun _ => false) (KpS.put hl), g4⟩
  case hbeh =>
   rintro i W W' ⟨g1, g0, s, p', n, c', t, r2, m, d, g2, g3, g4⟩ hb
   exact ⟨g1.thn (But.of hb), g0, s, p', n, c', t, r2, m, d, g2.beh hb, g3.kp (Kp.of (U := UU) hb), g4⟩
  case h0 =>
   refine ⟨But.of (Beh.refl _), Nat.zero_le _, _, _, _, _, _, _, _, _, hc6, ?_, by rw [bpre_zero]; exact RSz.zero.mono (by unfold tsz; omega)⟩
   rw [bpre_zero]
   exact (q1.kp (T := fun _ => false) (kT kb2 k4)).mono ba1.size
  case hps =>
   rintro i vs W ⟨x, s, p', n, c', t, r2, m, d, bs, -, -, rfl, -⟩
   rfl
  case hseq =>
   intro ly J' W _ hJ' hJJ hY h0'
   exact callsIn_wide.2 (parts1_any l kk hk1 hk a ly B1 B2 p c is ip im ic it ir jm jc J' (fun i W h => hcap i W (hJJ i W h)) hJ' hY W h0')
  case hdone =>
   rintro D i W hD hF ⟨g1, g0, s, p', n, c', t, r2, m, d, g2, g3, g4⟩ hDW
   have hc4' := (g1.blk _ hc4.lt (fun hm => by rw [List.mem_singleton] at hm; exact hap hm.symm)).trans hc4
   refine tail_sum (K := KU UU) (x := 6) (y := 4) (d := 28) (z := 5) (a := { a4 with defers := { target := .collected D, args := #[] } :: a4.defers }) (cx_ok w 29 27 _ rfl) rfl rfl rfl rfl rfl rfl rfl rfl rfl rfl rfl (hr4.tmp 6 _ rfl) (hr4.tmp 4 _ rfl) (show 28 < a4.tmps.size by rw [hsz4]; decide) (show 5 < a4.tmps.size by rw [hsz4]; decide) rfl rfl g2 hc4' rfl rfl rfl rfl rfl rfl hDW (show _ :: a4.defers = _ by rw [hr4.defers]) ?_
   intro W' kW hbW
   rw [htc, htq, ← bpre_end hbi hF]
   exact ⟨_, rfl, g3.kp kW, g4.mono (tsz_mono g0), But.beh (But.beh hb34 g1 (fun g hg => by rw [List.mem_singleton] at hg; rw [hg]; exact hn6)) hbW (fun g hg => by
    have := g1.size
    have := hb34.size
    rcases List.mem_cons.1 hg with rfl | hg
    ·exact hn4
    ·rw [List.mem_singleton] at hg; omega)⟩
  case hround =>
   rintro ly i vs W hly ⟨g1, g0, s, p', n, c', t, r2, m, d, g2, g3, g4⟩ ⟨x, es, ep, en, ec, et, er, em, ed, bs, hx, hxa, rfl, hend, hE⟩ ⟨rr, hrr⟩
   obtain ⟨ap, ac, ar, ad, bp, bc, br, bd, hbs, hf, hr, k1, k2, k3', k5⟩ := hE
   obtain ⟨⟨xs1, x1, xt1, y1'⟩, ⟨xs2, x2, xt2, y2'⟩⟩ := x
   replace hbs : bs = [.bool xs1, .slice ap x1.length ac, .bool xt1, .slice ar y1'.length ad, .bool xs2, .slice bp x2.length bc, .bool xt2, .slice br y2'.length bd] := hbs
   subst hbs
   replace hf : RatRaw W (.agg #[.bool xs1, .slice ap x1.length ac, .bool xt1, .slice ar y1'.length ad]) xs1 x1 xt1 y1' := hf
   replace hr : RatRaw W (.agg #[.bool xs2, .slice bp x2.length bc, .bool xt2, .slice br y2'.length bd]) xs2 x2 xt2 y2' := hr
   have hfi : RatIn W _ (rq xs1 x1 xt1 y1') kk := hf.in k1 k2
   have hri : RatIn W _ (rq xs2 x2 xt2 y2') kk := hr.in k3' k5
   have hlW := g1.size
   refine VSI.start (C := cxOf Tryz.prog W 29) ?_ (Knows.rel (L := [(6, .pointer (some ⟨β 6, 0, none⟩)), (17, .agg #[.bool es, .slice ep en ec, .bool et, .slice er em ed]), (18, .agg #[.bool xs1, .slice ap x1.length ac, .bool xt1, .slice ar y1'.length ad, .bool xs2, .slice bp x2.length bc, .bool xt2, .slice br y2'.length bd])]) ?hkn (Beh.refl W)) (KpS.refl _ _)
   case hkn =>
    have h6 : a4.tmps.getD 6 undef = .pointer (some ⟨β 6, 0, none⟩) := hr4.tmp 6 _ rfl
    refine ⟨rfl, by simp [hsz4], fun q hq => ?_⟩
    simp only [List.mem_cons, List.not_mem_nil, or_false] at hq
    rw [Array.getD_eq_getD_getElem?] at h6 ⊢
    rcases hq with rfl | rfl | rfl
    ·refine ⟨show 6 < 29 by decide, ?_⟩
     simpa [Array.getElem?_setIfInBounds] using h6
    ·refine ⟨show 17 < 29 by decide, ?_⟩
     simp [Array.getElem?_setIfInBounds, hsz4]
    ·refine ⟨show 18 < 29 by decide, ?_⟩
     simp [Array.getElem?_setIfInBounds, hsz4]
   refine VSI.seq (VSI.region (Broad.round _) (cx_ok _ _) rfl rfl (wN (VSI.region (Broad.round _) (cx_ok _ _) rfl rfl (wN (VSI.done fun β2 a2 W2 hr2 hk2 => ?_)))))
   refine ⟨hr2.old, fun r' => ?_⟩
   have hb2 : Beh W W2 := hr2.old
   have hrr2 : W2.heap[ly]? = some (.loop rr) := (Below.block hb2 _ (Array.getElem?_eq_some_iff.1 hrr).1).trans hrr
   have hc6 : Cls (W2.putObj ly (.loop r')) (β 6) 27 [.bool s, .slice p' n c', .bool t, .slice r2 m d].toArray := (g2.beh hb2).put hrr2 _
   have hc7 : Cls (W2.putObj ly (.loop r')) (β2 7) 27 [.bool es, .slice ep en ec, .bool et, .slice er em ed].toArray := (hr2.own 7 _ _ rfl).cls.put hrr2 _
   have hc8 : Cls (W2.putObj ly (.loop r')) (β2 8) 59 [.bool xs1, .slice ap x1.length ac, .bool xt1, .slice ar y1'.length ad, .bool xs2, .slice bp x2.length bc, .bool xt2, .slice br y2'.length bd].toArray := (hr2.own 8 _ _ rfl).cls.put hrr2 _
   have hn7 : W.heap.size ≤ β2 7 := (hr2.own 7 _ _ rfl).new
   have hn8 : W.heap.size ≤ β2 8 := (hr2.own 8 _ _ rfl).new
   have hg6 := g2.lt
   have kk2 : Kp UU W (W2.putObj ly (.loop r')) := hk2.thn (KpS.put hrr2)
   have hkn2 : Knows 29 ((6, .pointer (some ⟨β 6, 0, none⟩)) :: [(7, .pointer (some ⟨β2 7, 0, none⟩)), (8, .pointer (some ⟨β2 8, 0, none⟩))]) a2 := by
    refine ⟨hr2.defers, hr2.size, fun q hq => ?_⟩
    simp only [List.mem_cons, List.not_mem_nil, or_false] at hq
    rcases hq with rfl | rfl | rfl
    ·exact ⟨show 6 < 29 by decide, hr2.tmp 6 _ rfl⟩
    ·exact ⟨show 7 < 29 by decide, hr2.tmp 7 _ rfl⟩
    ·exact ⟨show 8 < 29 by decide, hr2.tmp 8 _ rfl⟩
   have hb3 : But [β 6] w4 (W2.putObj ly (.loop r')) := (g1.thn (But.of hb2)).put hly _
   refine VSI.start (C := cxB Tryz.prog (W2.putObj ly (.loop r')) 29 (β 6) (ad1 hc6 rfl rfl)) ?_ (rel_ad1 _ _ hkn2 hc6 rfl rfl) (KpS.refl _ _)
   refine VSI.block (VSI.draw (Broad.round _) (fun ⟨_, _, h⟩ => (by cases h.1)) (cxB_ok _ _ _ _) (cxB_mixed _ _ _ _) rfl rfl ?_)
   refine VO.readAt rfl [.bool es, .slice ep en ec, .bool et, .slice er em ed] rfl (fun j u hj => at_ad1 (by rw [Addr.add_mid]; show β2 7 ≠ β 6; omega) (cls_at hc7 0 _ ⟨[], rfl⟩ j u hj)) (wV rfl ?_)
   refine VO.readAt rfl [.bool xs1, .slice ap x1.length ac, .bool xt1, .slice ar y1'.length ad] rfl (fun j u hj => at_ad1 (by rw [Addr.add_mid]; show β2 8 ≠ β 6; omega) (cls_at hc8 0 _ ⟨_, rfl⟩ j u hj)) (wV rfl ?_)
   have hez : RSz (bend l a i) kk := hend.sz hk1
   have hxz : RSz (rq xs1 x1 xt1 y1') kk := hfi.sz hk1
   have hrz : RSz (rq xs2 x2 xt2 y2') kk := hri.sz hk1
   have hiz := tsz_le (n := i) (by omega) hk
   refine VO.call rfl rfl (fk Tryz.func31) (fun wa5 ka5 ba5 => (ratSub_any _ _ (bend l a i) (rq xs1 x1 xt1 y1') kk kk wa5 (hend.kp (T := fun _ => false) (kT kk2 ka5)) (hfi.kp (T := fun _ => false) (kT kk2 ka5)) (by omega) (by omega)).mono ?_)
   rintro e w5 ⟨r5, rfl, q5, hb5⟩
   obtain ⟨s5, p5, n5, c5, t5, y5, m5, d5, rfl⟩ := q5.form
   have hq5z := hez.sub hxz
   refine ⟨_, rfl, hb5, fun kb5 _ bb5 => wV rfl ?_⟩
   refine VO.readAt rfl [.bool xs2, .slice bp x2.length bc, .bool xt2, .slice br y2'.length bd] rfl (fun j u hj => at_ad1 (by rw [Addr.add_mid]; show β2 8 ≠ β 6; omega) (cls_at hc8 4 _ ⟨[], rfl⟩ j u hj)) (wV rfl ?_)
   refine VO.call rfl rfl (fk Tryz.func32) (fun wa6 ka6 ba6 => (ratMul_any _ _ (bend l a i - rq xs1 x1 xt1 y1') (rq xs2 x2 xt2 y2') (kk + kk + 1) kk wa6 ((q5.kp (T := fun _ => false) ka6).in hq5z) (hri.kp (T := fun _ => false) (kT kk2 (kT kb5 ka6))) (by omega) (by omega)).mono ?_)
   rintro e w6 ⟨r6, rfl, q6, hb6⟩
   obtain ⟨s6, p6, n6, c6, t6, y6, m6, d6, rfl⟩ := q6.form
   have hq6z := (hq5z.mul hrz).mono (show kk + kk + 1 + kk ≤ 3 * kk + 1 by omega)
   refine ⟨_, rfl, hb6, fun kb6 _ bb6 => wV rfl ?_⟩
   refine VO.call rfl rfl (fk Tryz.func41) (fun wa7 ka7 ba7 => (ratAdd_any _ _ (bpre l a i) ((bend l a i - rq xs1 x1 xt1 y1') * rq xs2 x2 xt2 y2') (tsz i kk) (3 * kk + 1) wa7 ((g3.kp (T := fun _ => false) (kT kk2 (kT kb5 (kT kb6 ka7)))).in g4) ((q6.kp (T := fun _ => false) ka7).in hq6z) (by omega) (by omega)).mono ?_)
   rintro e w7 ⟨r7, rfl, q7, hb7⟩
   obtain ⟨s7, p7, n7, c7, t7, y7, m7, d7, rfl⟩ := q7.form
   refine ⟨_, rfl, hb7, fun kb7 _ bb7 => wV rfl ?_⟩
   refine wN (VSI.blk (VSI.done fun β3 a5 W3 hr5 hk5 => ?_))
   have hbs := bpre_succ (a := a) hbi hx hxa
   have hoc : Cls W3 (β 6) 27 [.bool s7, .slice p7 n7 c7, .bool t7, .slice y7 m7 d7].toArray := own1 (hr5.own 58 _ _ rfl) rfl
   have hsb : w.heap.size ≤ wa7.heap.size := by
    have e1 := hb34.size
    have e2 := hb3.size
    have e3 := ba7.1.size
    exact Nat.le_trans e1 (Nat.le_trans e2 e3)
   refine ⟨rfl, hr5.old.1, hb3.thn hr5.old.1, ?_, s7, p7, n7, c7, t7, y7, m7, d7, hoc, ?_, ?_⟩
   ·have := (List.getElem?_eq_some_iff.1 hx).1; omega
   ·exact ((q7.kp (T := fun _ => false) hk5).mono hsb).cast (by rw [hbs]; rfl)
   ·rw [hbs, tsz_succ]
    exact g4.add hq6z
end Go.Proofs.YtofdiijioejljaaGreat
