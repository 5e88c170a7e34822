/- What the reference's functions of expenses compute: Error, Part, Due, Balance, Of. -/
import Derived.Test.YtohlmpibnnkanaaGreatTimBase
import Derived.Test.YtohlmpibnnkanaaGreatRef04B
set_option linter.all false
set_option maxRecDepth 4000
namespace Go.Proofs.YtohlmpibnnkanaaGreat
open Go.RowKit
attribute [local irreducible] vcOps VS

theorem whole_one {n : Int} (h : 0 ≤ n) (h1 : n ≤ 1000000) : RSz (n : Rat) 1 := by
 have : ((n : Int) : Rat) = Rat.divInt n 1 := by rw [Rat.divInt_eq_div]; grind
 rw [this]
 exact RSz.of (by omega) (by omega)
theorem rcode_pos {n : Int} (h : 1 ≤ n) : rcode (n : Rat) = 0 := by
 unfold rcode
 rw [if_neg]
 intro e
 have := Rat.intCast_inj.1 (show ((n : Int) : Rat) = ((0 : Int) : Rat) from e)
 omega
set_option maxHeartbeats 1000000 in
theorem q18Error_any (v : Value) (e : RExp) (kk : Nat) (w : World) (hv : ExpV kk w v e) (hk : kk ≤ 134217728) (c : Int) (hc : (if ewrong e.exp = true then 2 else 0) = c) :
  Calls Tryz.prog 37 #[v] w fun o w' => o = .returned (.int .i64 c) ∧ Beh w w' := by
 obtain ⟨cs, rfl, p, cp, r, d, rfl, hy, hn, hq, h1, h2⟩ := hv
 obtain ⟨y, n, s, xs, t, ys⟩ := e
 have hew : ewrong (RExp.exp (y, n, s, xs, t, ys)) = (decide (y < 0) || (decide (y > 9999) || (decide (n < 1) || (decide (n > 40) || !rtB s xs t ys)))) := rfl
 rw [hew] at hc
 replace hq : RatRaw w (.agg #[.bool s, .slice p xs.length cp, .bool t, .slice r ys.length d]) s xs t ys := hq
 replace h1 : xs.length ≤ kk := h1
 replace h2 : ys.length ≤ kk := h2
 refine calm_enter (C := cxOf Tryz.prog w _) (args := [_]) Tryz.func37 rfl Tryz.ntmps37 (Nat.le_of_ble_eq_true rfl) ?_
 (repeat first|refine wN ?_|refine wP rfl ?_|refine cx_r rfl ?_|refine cx_d rfl ?_|refine wO rfl rfl ?_)
 by_cases a1 : y < 0
 ·refine VO.fix 6 rfl (congrArg (fun b => AV.val (.bool b)) (decide_eq_true a1)) ?_
  (repeat first|refine wN ?_|refine wP rfl ?_|refine cx_r rfl ?_|refine cx_d rfl ?_|refine wO rfl rfl ?_)
  refine VS.ret (cx_ok _ _) rfl rfl (fun wz kz bz => ?_)
  exact ⟨by rw [← hc, decide_eq_true a1]; rfl, bz⟩
 refine VO.fix 6 rfl (congrArg (fun b => AV.val (.bool b)) (decide_eq_false a1)) ?_
 (repeat first|refine wN ?_|refine wP rfl ?_|refine cx_r rfl ?_|refine cx_d rfl ?_|refine wO rfl rfl ?_)
 by_cases a2 : y > 9999
 ·refine VO.fix 11 rfl (congrArg (fun b => AV.val (.bool b)) (decide_eq_true a2)) ?_
  (repeat first|refine wN ?_|refine wP rfl ?_|refine cx_r rfl ?_|refine cx_d rfl ?_|refine wO rfl rfl ?_)
  refine VS.ret (cx_ok _ _) rfl rfl (fun wz kz bz => ?_)
  exact ⟨by rw [← hc, decide_eq_true a2, Bool.true_or, Bool.or_true]; rfl, bz⟩
 refine VO.fix 11 rfl (congrArg (fun b => AV.val (.bool b)) (decide_eq_false a2)) ?_
 (repeat first|refine wN ?_|refine wP rfl ?_|refine cx_r rfl ?_|refine cx_d rfl ?_|refine wO rfl rfl ?_)
 by_cases a3 : n < 1
 ·refine VO.fix 16 rfl (congrArg (fun b => AV.val (.bool b)) (decide_eq_true a3)) ?_
  (repeat first|refine wN ?_|refine wP rfl ?_|refine cx_r rfl ?_|refine cx_d rfl ?_|refine wO rfl rfl ?_)
  refine VS.ret (cx_ok _ _) rfl rfl (fun wz kz bz => ?_)
  exact ⟨by rw [← hc, decide_eq_true a3]; simp [tup], bz⟩
 refine VO.fix 16 rfl (congrArg (fun b => AV.val (.bool b)) (decide_eq_false a3)) ?_
 (repeat first|refine wN ?_|refine wP rfl ?_|refine cx_r rfl ?_|refine cx_d rfl ?_|refine wO rfl rfl ?_)
 by_cases a4 : n > 40
 ·refine VO.fix 21 rfl (congrArg (fun b => AV.val (.bool b)) (decide_eq_true a4)) ?_
  (repeat first|refine wN ?_|refine wP rfl ?_|refine cx_r rfl ?_|refine cx_d rfl ?_|refine wO rfl rfl ?_)
  refine VS.ret (cx_ok _ _) rfl rfl (fun wz kz bz => ?_)
  exact ⟨by rw [← hc, decide_eq_true a4]; simp [tup], bz⟩
 refine VO.fix 21 rfl (congrArg (fun b => AV.val (.bool b)) (decide_eq_false a4)) ?_
 (repeat first|refine wN ?_|refine wP rfl ?_|refine cx_r rfl ?_|refine cx_d rfl ?_|refine wO rfl rfl ?_)
 refine VO.call rfl rfl (fk Tryz.func82) (fun wa1 ka1 ba1 => (q04Right_any s t xs ys _ wa1 (hq.k) (by omega) (by omega)).mono ?_)
 rintro e w1 ⟨rfl, hb1⟩
 rw [decide_eq_false a1, decide_eq_false a2, decide_eq_false a3, decide_eq_false a4] at hc
 cases hr : rtB s xs t ys with
 | true =>
  rw [hr] at hc
  refine ⟨_, rfl, hb1, fun kb1 _ bb1 => wV rfl ?_⟩
  (repeat first|refine wN ?_|refine wP rfl ?_|refine cx_r rfl ?_|refine cx_d rfl ?_|refine wO rfl rfl ?_)
  refine VS.ret (cx_ok _ _) rfl rfl (fun wz kz bz => ?_)
  exact ⟨by rw [← hc]; rfl, bz⟩
 | false =>
  rw [hr] at hc
  refine ⟨_, rfl, hb1, fun kb1 _ bb1 => wV rfl ?_⟩
  (repeat first|refine wN ?_|refine wP rfl ?_|refine cx_r rfl ?_|refine cx_d rfl ?_|refine wO rfl rfl ?_)
  refine VS.ret (cx_ok _ _) rfl rfl (fun wz kz bz => ?_)
  exact ⟨by rw [← hc]; rfl, bz⟩
set_option maxHeartbeats 1000000 in
theorem q18Part_any (v : Value) (e : RExp) (kk : Nat) (z : Int) (w : World) (hv : ExpV kk w v e) (hk : kk ≤ 1048576) (hz : i64b z) :
  Calls Tryz.prog 30 #[v, .int .i64 z] w fun o w' => ∃ x, o = .returned x ∧ RatOwn w' w.heap.size x (epart e.exp z) ∧ Beh w w' := by
 have hv0 := hv
 obtain ⟨cs, rfl, p, cp, r, d, rfl, hy, hn, hq, h1, h2⟩ := hv
 obtain ⟨z1, z2⟩ := hz
 obtain ⟨C, hC⟩ : ∃ C, C = epart e.exp z := ⟨_, rfl⟩
 rw [← hC]
 unfold epart at hC
 refine calm_enter (C := cxOf Tryz.prog w _) (args := [_, _]) Tryz.func30 rfl Tryz.ntmps30 (Nat.le_of_ble_eq_true rfl) ?_
 (repeat first|refine wN ?_|refine wP rfl ?_|refine cx_r rfl ?_|refine cx_d rfl ?_|refine wO rfl rfl ?_)
 cases hw : ewrong e.exp with
 | true =>
  rw [hw, if_pos (.inl rfl)] at hC
  subst hC
  refine VO.call rfl rfl (fk Tryz.func37) (fun wa1 ka1 ba1 => (q18Error_any _ e kk wa1 (hv0.k) (by omega) 2 (by rw [hw]; rfl)).mono ?_)
  rintro e w1 ⟨rfl, hb1⟩
  skip
  refine ⟨_, rfl, hb1, fun kb1 _ bb1 => wV rfl ?_⟩
  (repeat first|refine wN ?_|refine wP rfl ?_|refine cx_r rfl ?_|refine cx_d rfl ?_|refine wO rfl rfl ?_)
  refine VO.call rfl rfl (fk Tryz.func52) (fun wa2 ka2 ba2 => (q04Zero_any wa2).mono ?_)
  rintro e w2 ⟨r2, rfl, q2, hb2⟩
  obtain ⟨s2, p2, n2, c2, t2, y2, m2, d2, rfl⟩ := q2.form
  refine ⟨_, rfl, hb2, fun kb2 _ bb2 => wV rfl ?_⟩
  (repeat first|refine wN ?_|refine wP rfl ?_|refine cx_r rfl ?_|refine cx_d rfl ?_|refine wO rfl rfl ?_)
  refine VS.ret (cx_ok _ _) rfl rfl (fun wz kz bz => ?_)
  exact ⟨_, rfl, (q2.kp kz).mono ba2.size, bz⟩
 | false =>
  obtain ⟨g1, g2, g3, g4⟩ := exp_right hw
  rw [hw] at hC
  refine VO.call rfl rfl (fk Tryz.func37) (fun wa1 ka1 ba1 => (q18Error_any _ e kk wa1 (hv0.k) (by omega) 0 (by rw [hw]; rfl)).mono ?_)
  rintro e w1 ⟨rfl, hb1⟩
  skip
  refine ⟨_, rfl, hb1, fun kb1 _ bb1 => wV rfl ?_⟩
  (repeat first|refine wN ?_|refine wP rfl ?_|refine cx_r rfl ?_|refine cx_d rfl ?_|refine wO rfl rfl ?_)
  by_cases a1 : z ≤ e.1
  ·rw [if_pos (.inr (.inl a1))] at hC
   subst hC
   refine VO.fix 16 rfl (congrArg (fun b => AV.val (.bool b)) (decide_eq_true a1)) ?_
   (repeat first|refine wN ?_|refine wP rfl ?_|refine cx_r rfl ?_|refine cx_d rfl ?_|refine wO rfl rfl ?_)
   refine VO.call rfl rfl (fk Tryz.func52) (fun wa2 ka2 ba2 => (q04Zero_any wa2).mono ?_)
   rintro e w2 ⟨r2, rfl, q2, hb2⟩
   obtain ⟨s2, p2, n2, c2, t2, y2, m2, d2, rfl⟩ := q2.form
   refine ⟨_, rfl, hb2, fun kb2 _ bb2 => wV rfl ?_⟩
   (repeat first|refine wN ?_|refine wP rfl ?_|refine cx_r rfl ?_|refine cx_d rfl ?_|refine wO rfl rfl ?_)
   refine VS.ret (cx_ok _ _) rfl rfl (fun wz kz bz => ?_)
   exact ⟨_, rfl, (q2.kp kz).mono ba2.size, bz⟩
  have e1 : IntKind.i64.wrap (z - e.1) = z - e.1 := IntWalk.i64_in _ (by omega)
  refine VO.fix 16 rfl (congrArg (fun b => AV.val (.bool b)) (decide_eq_false a1)) ?_
  (repeat first|refine wN ?_|refine wP rfl ?_|refine cx_r rfl ?_|refine cx_d rfl ?_|refine wO rfl rfl ?_)
  by_cases a2 : z > e.1 + e.2.1
  ·rw [if_pos (.inr (.inr a2))] at hC
   subst hC
   refine VS.condY rfl (decide_eq_true (show IntKind.i64.wrap (z - e.1) > e.2.1 by rw [e1]; omega)) ?_
   (repeat first|refine wN ?_|refine wP rfl ?_|refine cx_r rfl ?_|refine cx_d rfl ?_|refine wO rfl rfl ?_)
   refine VO.call rfl rfl (fk Tryz.func52) (fun wa2 ka2 ba2 => (q04Zero_any wa2).mono ?_)
   rintro e w2 ⟨r2, rfl, q2, hb2⟩
   obtain ⟨s2, p2, n2, c2, t2, y2, m2, d2, rfl⟩ := q2.form
   refine ⟨_, rfl, hb2, fun kb2 _ bb2 => wV rfl ?_⟩
   (repeat first|refine wN ?_|refine wP rfl ?_|refine cx_r rfl ?_|refine cx_d rfl ?_|refine wO rfl rfl ?_)
   refine VS.ret (cx_ok _ _) rfl rfl (fun wz kz bz => ?_)
   exact ⟨_, rfl, (q2.kp kz).mono ba2.size, bz⟩
  ·rw [if_neg (by rintro (h | h | h); exact Bool.noConfusion h; exact a1 h; exact a2 h)] at hC
   subst hC
   refine VS.condN rfl (decide_eq_false (show ¬ IntKind.i64.wrap (z - e.1) > e.2.1 by rw [e1]; omega)) ?_
   (repeat first|refine wN ?_|refine wP rfl ?_|refine cx_r rfl ?_|refine cx_d rfl ?_|refine wO rfl rfl ?_)
   refine VO.call rfl rfl (fk Tryz.func79) (fun wa2 ka2 ba2 => (q04Whole_any e.2.1 wa2 (by omega) (by omega)).mono ?_)
   rintro e w2 ⟨r2, rfl, q2, hb2⟩
   obtain ⟨s2, p2, n2, c2, t2, y2, m2, d2, rfl⟩ := q2.form
   refine ⟨_, rfl, hb2, fun kb2 _ bb2 => wV rfl ?_⟩
   (repeat first|refine wN ?_|refine wP rfl ?_|refine cx_r rfl ?_|refine cx_d rfl ?_|refine wO rfl rfl ?_)
   refine VO.call rfl rfl (fk Tryz.func78) (fun wa3 ka3 ba3 => (q04Div_ok _ _ e.exp.2.2.2 (e.2.1 : Rat) kk 1 wa3 ((hq.in h1 h2).k) (q2.ki (whole_one (by omega) (by omega))) (by omega) (by omega) 0 (rcode_pos g3)).mono ?_)
   rintro e w3 ⟨r3, rfl, q3, hb3⟩
   obtain ⟨s3, p3, n3, c3, t3, y3, m3, d3, rfl⟩ := q3.form
   refine ⟨_, rfl, hb3, fun kb3 _ bb3 => wV rfl ?_⟩
   (repeat first|refine wN ?_|refine wP rfl ?_|refine cx_r rfl ?_|refine cx_d rfl ?_|refine wO rfl rfl ?_)
   refine VS.ret (cx_ok _ _) rfl rfl (fun wz kz bz => ?_)
   exact ⟨_, rfl, (((q3.kp kz).mono ba3.size).cast (div_one_eq _ _)), bz⟩
end Go.Proofs.YtohlmpibnnkanaaGreat
/- What the reference's sums over expenses compute: Due, Balance. -/
namespace Go.Proofs.YtohlmpibnnkanaaGreat
open Go.RowKit
attribute [local irreducible] vcOps VS

theorem cells_at {w : World} {b off i sz : Nat} {cs : List Value} (hc : ∀ (j : Nat) (u : Value), cs[j]? = some u → w.cell? ⟨b, off + i * sz + j, none⟩ = some u) (k : Nat) (ds : List Value) (hd : ds <+: cs.drop k) : ∀ (j : Nat) (u : Value), ds[j]? = some u → w.cell? ((⟨b, off + ((i : Nat) : Int).toNat * sz + k, none⟩ : Addr).add j) = some u := by
 intro j u hj
 obtain ⟨t, ht⟩ := hd
 rw [Addr.add_mid, Int.toNat_natCast, Nat.add_assoc]
 refine hc (k + j) u ?_
 rw [← List.getElem?_drop, ← ht, List.getElem?_append_left (List.getElem?_eq_some_iff.1 hj).1]
 exact hj
theorem stepK {kk n : Nat} (hk : kk ≤ 1024) (hn : n ≤ 64) : stepSz (up1 kk + 1) n ≤ 1048576 := by
 have := stepSz_le (k := up1 kk + 1) hn
 have : up1 (up1 kk + 1) ≤ 2000 := by unfold up1; omega
 have h2 : stepSz (up1 kk + 1) 64 ≤ 1048576 := by unfold stepSz; omega
 omega
set_option maxHeartbeats 1000000 in
theorem q18Due_any (v : Value) (l : List RExp) (kk : Nat) (z : Int) (w : World) (hv : SlIn (ExpE kk) 6 w v l) (hk : kk ≤ 1024) (hz : i64b z) (hn : l.length ≤ 64) :
  Calls Tryz.prog 33 #[v, .int .i64 z] w fun o w' => ∃ x, o = .returned x ∧ RatOwn w' w.heap.size x (edueR l z) ∧ RSz (edueR l z) (stepSz (up1 kk + 1) l.length) ∧ Beh w w' := by
 have hfs : ∀ e ∈ l, RSz (epart e.exp z) (up1 kk + 1) := fun e he => by
  obtain ⟨cs, h⟩ := hv.mem he
  exact epart_sz h.sz z
 obtain ⟨K, hKd⟩ : ∃ K, K = up1 kk + 1 := ⟨_, rfl⟩
 have hK : stepSz K l.length ≤ 1048576 := by rw [hKd]; exact stepK hk hn
 have hK2 : up1 K ≤ 2000 := by rw [hKd]; unfold up1; omega
 rw [← hKd] at hfs ⊢
 obtain ⟨p, c, rfl, hnc, hcm⟩ := hv.form
 obtain ⟨N, hN⟩ : ∃ N, N = l.length := ⟨_, rfl⟩
 rw [← hN] at hv hnc hn hK ⊢
 obtain ⟨f, hf⟩ : ∃ f : RExp → Rat, f = fun e => epart e.exp z := ⟨_, rfl⟩
 have hed : edueR l z = rsum (l.map f) := by rw [hf]; rfl
 rw [hed]
 refine calm_enter (C := cxOf Tryz.prog w _) (args := [_, _]) Tryz.func33 rfl Tryz.ntmps33 (Nat.le_of_ble_eq_true rfl) ?_
 (repeat first|refine wN ?_|refine wP rfl ?_|refine cx_r rfl ?_|refine cx_d rfl ?_|refine wO rfl rfl ?_)
 refine VO.call rfl rfl (fk Tryz.func52) (fun wa1 ka1 ba1 => (q04Zero_any wa1).mono ?_)
 rintro e w1 ⟨r1, rfl, q1, hb1⟩
 obtain ⟨s1, p1, n1, c1, t1, y1, m1, d1, rfl⟩ := q1.form
 refine ⟨_, rfl, hb1, fun kb1 _ bb1 => wV rfl ?_⟩
 (repeat first|refine wN ?_|refine wP rfl ?_|refine cx_r rfl ?_|refine cx_d rfl ?_|refine wO rfl rfl ?_)
 refine VS.loop (J := fun n L M w' => ∃ i s p' n' c' t r m d, i ≤ N ∧ n = N - i ∧ L = [(0, .val (.slice p N c)), (1, .val (.int .i64 z)), (6, .val (.int .i64 (i : Int))), (5, .box 5 0), (4, .box 4 0)] ∧
  M = [(4, (52, ([.bool false, .slice none 0 0, .bool false, .slice none 0 0] : List Value).map .val)), (5, (52, ([.bool s, .slice p' n' c', .bool t, .slice r m d] : List Value).map .val))] ∧ RatOwn w' w.heap.size (.agg #[.bool s, .slice p' n' c', .bool t, .slice r m d]) (rsum ((l.map f).take i)) ∧ RSz (rsum ((l.map f).take i)) (stepSz K i)) N
  ⟨_, _, ?_, ?_, ?_, ?_, ⟨0, _, _, _, _, _, _, _, _, by omega, rfl, rfl, rfl, q1.k.mono ba1.size, RSz.zero.mono (by unfold stepSz; omega)⟩⟩ ?_
 ·(repeat first|exact trivial|refine ⟨rfl, ?_⟩)
 ·(repeat first|exact trivial|refine ⟨rfl, ?_⟩)
 ·rfl
 ·(repeat first|exact trivial|refine ⟨ClosedC.lit rfl, ?_⟩|refine ⟨ClosedC.vals _, ?_⟩)
 rintro n L M w' ⟨i, s, p', n', c', t, r, m, d, hi, rfl, rfl, rfl, ho, hz'⟩
 (repeat first|refine wN ?_|refine wP rfl ?_|refine cx_r rfl ?_|refine cx_d rfl ?_|refine wO rfl rfl ?_)
 by_cases hlt : i < N
 ·obtain ⟨e, he⟩ : ∃ e, l[i]? = some e := ⟨_, List.getElem?_eq_getElem (by omega)⟩
  have hfe : (l.map f)[i]? = some (f e) := by rw [List.getElem?_map, he]; rfl
  obtain ⟨b, off, cs, rfl, hc, hE⟩ := hv.at he
  have hE0 := hE
  obtain ⟨ep, ec, er, ed, rfl, -⟩ := hE
  refine VS.condY rfl (decide_eq_true (Int.ofNat_lt.2 hlt)) ?_
  (repeat first|refine wN ?_|refine wP rfl ?_|refine cx_r rfl ?_|refine cx_d rfl ?_|refine wO rfl rfl ?_)
  refine VO.cond rfl ⟨by omega, by omega⟩ (wV rfl ?_)
  refine VO.read rfl [.int .i64 e.1, .int .i64 e.2.1, .bool e.2.2.1, .slice ep e.2.2.2.1.length ec, .bool e.2.2.2.2.1, .slice er e.2.2.2.2.2.length ed] rfl (fun j u hj => by rw [Addr.add_mid, Int.toNat_natCast]; exact hc j u hj) (wV rfl ?_)
  have hfz := hfs e (List.mem_of_getElem? he)
  refine VO.call rfl rfl (fk Tryz.func30) (fun wa2 ka2 ba2 => (q18Part_any _ e kk z wa2 ⟨_, rfl, hE0.kp (Kp.of (U := UU) ba2)⟩ (by omega) hz).mono ?_)
  rintro e w2 ⟨r2, rfl, q2, hb2⟩
  obtain ⟨s2, p2, n2, c2, t2, y2, m2, d2, rfl⟩ := q2.form
  refine ⟨_, rfl, hb2, fun kb2 _ bb2 => wV rfl ?_⟩
  (repeat first|refine wN ?_|refine wP rfl ?_|refine cx_r rfl ?_|refine cx_d rfl ?_|refine wO rfl rfl ?_)
  replace q2 : RatOwn w2 wa2.heap.size (.agg #[.bool s2, .slice p2 n2 c2, .bool t2, .slice y2 m2 d2]) (f e) := by rw [hf]; exact q2
  replace hfz : RSz (f e) K := by rw [hf]; exact hfz
  refine VO.call rfl rfl (fk Tryz.func54) (fun wa3 ka3 ba3 => (q04Add_any _ _ (rsum ((l.map f).take i)) (f e) (stepSz K i) (up1 K) wa3 (ho.ki hz') (q2.ki (hfz.mono (by unfold up1; omega))) (by have := stepSz_le (k := K) hi; omega) (by omega)).mono ?_)
  rintro e w3 ⟨r3, rfl, q3, hb3⟩
  obtain ⟨s3, p3, n3, c3, t3, y3, m3, d3, rfl⟩ := q3.form
  refine ⟨_, rfl, hb3, fun kb3 _ bb3 => wV rfl ?_⟩
  (repeat first|refine wN ?_|refine wP rfl ?_|refine cx_r rfl ?_|refine cx_d rfl ?_|refine wO rfl rfl ?_)
  refine VS.back (N - (i + 1)) (by omega) ⟨_, _, ?_, ?_, ?_, ?_, ⟨i + 1, _, _, _, _, _, _, _, _, by omega, rfl, rfl, rfl, ((q3.k).mono ba3.size).cast (rsum_snoc hfe).symm, by rw [rsum_snoc hfe, stepSz_succ]; exact hz'.add (hfz.mono (by unfold up1; omega))⟩⟩
  ·refine ⟨rfl, rfl, ?_, rfl, rfl, trivial⟩
   rw [← nat_step (i := i) (by omega)]; rfl
  ·(repeat first|exact trivial|refine ⟨rfl, ?_⟩)
  ·rfl
  ·(repeat first|exact trivial|refine ⟨ClosedC.lit rfl, ?_⟩|refine ⟨ClosedC.vals _, ?_⟩)
 ·refine VS.condN rfl (decide_eq_false (fun e => hlt (Int.ofNat_lt.1 e))) ?_
  (repeat first|refine wN ?_|refine wP rfl ?_|refine cx_r rfl ?_|refine cx_d rfl ?_|refine wO rfl rfl ?_)
  refine VS.ret (cx_ok _ _) rfl rfl (fun wz kz bz => ?_)
  obtain rfl : i = N := by omega
  rw [List.take_of_length_le (by rw [List.length_map]; omega)] at ho hz'
  exact ⟨_, rfl, ho.kp kz, hz', bz⟩
theorem epart_in {e : Exp} (h : ewrong e = false) {y : Int} (h1 : e.1 < y) (h2 : y ≤ e.1 + e.2.1) : epart e y = e.2.2.2 * Rat.divInt 1 e.2.1 := by
 unfold epart
 rw [h, if_neg (by simp; omega)]
theorem left_step (q : Rat) (n j : Int) : q * Rat.divInt (n - j) n - q * Rat.divInt 1 n = q * Rat.divInt (n - (j + 1)) n := by
 rw [show n - (j + 1) = (n - j) - 1 by omega, div_sub (a := n - j)]; grind
theorem left_step' (q : Rat) (n : Int) (j : Nat) : q * Rat.divInt (n - ((j + 1 : Nat) : Int)) n = q * Rat.divInt (n - (j : Int)) n - q * Rat.divInt 1 n := by
 rw [left_step, show ((j + 1 : Nat) : Int) = (j : Int) + 1 by omega]
set_option maxRecDepth 4000 in
set_option maxHeartbeats 4000000 in
theorem q18Balance_any (v : Value) (l : List RExp) (kk : Nat) (z : Int) (w : World) (hv : SlIn (ExpE kk) 6 w v l) (hw : ∀ e ∈ l, ewrong e.exp = false) (hk : kk ≤ 1024) (hz : i64b z) (hn : l.length ≤ 64) :
  Calls Tryz.prog 34 #[v, .int .i64 z] w fun o w' => ∃ x, o = .returned x ∧ RatOwn w' w.heap.size x (ebalR l z) ∧ RSz (ebalR l z) (stepSz (up1 kk + 1) l.length) ∧ Beh w w' := by
 have hfs : ∀ e ∈ l, RSz (ebal e.exp z) (up1 kk + 1) := fun e he => by
  obtain ⟨cs, h⟩ := hv.mem he
  exact ebal_sz h.sz (hw e he) z
 obtain ⟨K, hKd⟩ : ∃ K, K = up1 kk + 1 := ⟨_, rfl⟩
 have hK : stepSz K l.length ≤ 1048576 := by rw [hKd]; exact stepK hk hn
 have hK2 : up1 K ≤ 2000 := by rw [hKd]; unfold up1; omega
 have hK3 : K ≤ 2000 := by rw [hKd]; unfold up1; omega
 have hK4 : up1 kk + 1 = K := hKd.symm
 rw [← hKd] at hfs ⊢
 obtain ⟨p, c, rfl, hnc, hcm⟩ := hv.form
 obtain ⟨N, hN⟩ : ∃ N, N = l.length := ⟨_, rfl⟩
 rw [← hN] at hv hnc hn hK ⊢
 obtain ⟨f, hf⟩ : ∃ f : RExp → Rat, f = fun e => ebal e.exp z := ⟨_, rfl⟩
 have hed : ebalR l z = rsum (l.map f) := by rw [hf]; rfl
 have hfe' : ∀ e, f e = ebal e.exp z := fun e => by rw [hf]
 rw [hed]
 obtain ⟨z1, z2⟩ := hz
 refine calm_enter (C := cxOf Tryz.prog w _) (args := [_, _]) Tryz.func34 rfl Tryz.ntmps34 (Nat.le_of_ble_eq_true rfl) ?_
 (repeat first|refine wN ?_|refine wP rfl ?_|refine cx_r rfl ?_|refine cx_d rfl ?_|refine wO rfl rfl ?_)
 refine VO.call rfl rfl (fk Tryz.func52) (fun wa1 ka1 ba1 => (q04Zero_any wa1).mono ?_)
 rintro e w1 ⟨r1, rfl, q1, hb1⟩
 obtain ⟨s1, p1, n1, c1, t1, y1, m1, d1, rfl⟩ := q1.form
 refine ⟨_, rfl, hb1, fun kb1 _ bb1 => wV rfl ?_⟩
 (repeat first|refine wN ?_|refine wP rfl ?_|refine cx_r rfl ?_|refine cx_d rfl ?_|refine wO rfl rfl ?_)
 refine VS.loop (J := fun n L M w' => ∃ i s p' n' c' t r m d, i ≤ N ∧ n = N - i ∧ L = [(0, .val (.slice p N c)), (1, .val (.int .i64 z)), (6, .val (.int .i64 (i : Int))), (5, .box 5 0), (4, .box 4 0)] ∧
  M = [(4, (52, ([.bool false, .slice none 0 0, .bool false, .slice none 0 0] : List Value).map .val)), (5, (52, ([.bool s, .slice p' n' c', .bool t, .slice r m d] : List Value).map .val))] ∧ RatOwn w' w.heap.size (.agg #[.bool s, .slice p' n' c', .bool t, .slice r m d]) (rsum ((l.map f).take i)) ∧ RSz (rsum ((l.map f).take i)) (stepSz K i) ∧ Kp UU w w') N
  ⟨_, _, ?_, ?_, ?_, ?_, ⟨0, _, _, _, _, _, _, _, _, by omega, rfl, rfl, rfl, q1.k.mono ba1.size, RSz.zero.mono (by unfold stepSz; omega), by (with_reducible (repeat (first | assumption | exact kU _ | exact kR _ | exact Kp.of (U := UU) (by assumption) | exact KpS.of (by assumption) | refine kT ?_ (by assumption))))⟩⟩ ?_
 ·(repeat first|exact trivial|refine ⟨rfl, ?_⟩)
 ·(repeat first|exact trivial|refine ⟨rfl, ?_⟩)
 ·rfl
 ·(repeat first|exact trivial|refine ⟨ClosedC.lit rfl, ?_⟩|refine ⟨ClosedC.vals _, ?_⟩)
 rintro n L M w' ⟨i, s, p', n', c', t, r, m, d, hi, rfl, rfl, rfl, ho, hz', hkw⟩
 (repeat first|refine wN ?_|refine wP rfl ?_|refine cx_r rfl ?_|refine cx_d rfl ?_|refine wO rfl rfl ?_)
 by_cases hlt : i < N
 ·obtain ⟨e, he⟩ : ∃ e, l[i]? = some e := ⟨_, List.getElem?_eq_getElem (by omega)⟩
  have hfe : (l.map f)[i]? = some (f e) := by rw [List.getElem?_map, he]; rfl
  have hwe := hw e (List.mem_of_getElem? he)
  have hrt := (ewrong_no hwe).2.2.2.2
  obtain ⟨g1, g2, g3, g4⟩ := exp_right hwe
  obtain ⟨b, off, cs, rfl, hc, hE⟩ := hv.at he
  have hE0 := hE
  obtain ⟨ep, ec, er, ed, rfl, hi1, hi2, hraw, hx1, hx2⟩ := hE
  have hqz := hE0.sz
  have hfz := hfs e (List.mem_of_getElem? he)
  rw [← hfe'] at hfz
  refine VS.condY rfl (decide_eq_true (Int.ofNat_lt.2 hlt)) ?_
  (repeat first|refine wN ?_|refine wP rfl ?_|refine cx_r rfl ?_|refine cx_d rfl ?_|refine wO rfl rfl ?_)
  refine VO.cond rfl ⟨by omega, by omega⟩ (wV rfl ?_)
  refine VO.read rfl [.int .i64 e.1] rfl (cells_at hc 0 _ ⟨_, rfl⟩) (wV rfl ?_)
  (repeat first|refine wN ?_|refine wP rfl ?_|refine cx_r rfl ?_|refine cx_d rfl ?_|refine wO rfl rfl ?_)
  by_cases a1 : e.1 > z
  ·have hf0 : f e = 0 := by rw [hfe']; exact if_pos a1
   refine VS.condY rfl (decide_eq_true a1) ?_
   (repeat first|refine wN ?_|refine wP rfl ?_|refine cx_r rfl ?_|refine cx_d rfl ?_|refine wO rfl rfl ?_)
   refine VS.back (N - (i + 1)) (by omega) ⟨_, _, ?_, ?_, ?_, ?_, ⟨i + 1, _, _, _, _, _, _, _, _, by omega, rfl, rfl, rfl, ho.cast (by rw [rsum_snoc hfe, hf0, Rat.add_zero]), by rw [rsum_snoc hfe, hf0, Rat.add_zero, stepSz_succ]; exact hz'.mono (by omega), hkw⟩⟩
   ·refine ⟨rfl, rfl, ?_, rfl, rfl, trivial⟩
    rw [← nat_step (i := i) (by omega)]; rfl
   ·(repeat first|exact trivial|refine ⟨rfl, ?_⟩)
   ·rfl
   ·(repeat first|exact trivial|refine ⟨ClosedC.lit rfl, ?_⟩|refine ⟨ClosedC.vals _, ?_⟩)
  ·obtain ⟨k1, k2⟩ := ecount_le hwe z
   obtain ⟨T, hT⟩ : ∃ T : Nat, (T : Int) = ecount e.exp z := ⟨(ecount e.exp z).toNat, by omega⟩
   have hT2 : (T : Int) ≤ e.2.1 := by rw [hT]; exact k2
   have hT3 : (T : Int) = if z ≤ e.1 then 0 else if z ≥ e.1 + e.2.1 then e.2.1 else z - e.1 := hT
   have hfv : f e = e.exp.2.2.2 * Rat.divInt (e.2.1 - (T : Int)) e.2.1 := by rw [hfe']; show (if e.1 > z then (0 : Rat) else e.exp.2.2.2 * Rat.divInt (e.2.1 - ecount e.exp z) e.2.1) = _; rw [if_neg a1, ← hT]
   have e0 : IntKind.i64.wrap (e.1 + 1) = e.1 + 1 + ((0 : Nat) : Int) := by rw [IntWalk.i64_in _ (by omega)]; omega
   have hlz : ∀ j : Nat, (j : Int) ≤ e.2.1 → RSz (e.exp.2.2.2 * Rat.divInt (e.2.1 - (j : Int)) e.2.1) K := fun j hj => by rw [← hK4]; exact hqz.mul (RSz.of (by omega) (by omega))
   refine VS.condN rfl (decide_eq_false a1) ?_
   (repeat first|refine wN ?_|refine wP rfl ?_|refine cx_r rfl ?_|refine cx_d rfl ?_|refine wO rfl rfl ?_)
   refine VO.cond rfl ⟨by omega, by omega⟩ (wV rfl ?_)
   refine VO.read rfl [.bool e.2.2.1, .slice ep e.2.2.2.1.length ec, .bool e.2.2.2.2.1, .slice er e.2.2.2.2.2.length ed] rfl (cells_at hc 2 _ ⟨_, rfl⟩) (wV rfl ?_)
   (repeat first|refine wN ?_|refine wP rfl ?_|refine cx_r rfl ?_|refine cx_d rfl ?_|refine wO rfl rfl ?_)
   refine VO.cond rfl ⟨by omega, by omega⟩ (wV rfl ?_)
   refine VO.read rfl [.int .i64 e.1] rfl (cells_at hc 0 _ ⟨_, rfl⟩) (wV rfl ?_)
   (repeat first|refine wN ?_|refine wP rfl ?_|refine cx_r rfl ?_|refine cx_d rfl ?_|refine wO rfl rfl ?_)
   rw [e0]
   refine VS.loop (J := fun mm L M w2 => ∃ (j : Nat) (s4 : Bool) (p4 : Option Addr) (n4 c4 : Nat) (t4 : Bool) (r4 : Option Addr) (m4 d4 : Nat), j ≤ T ∧ mm = T - j ∧ L = [(0, .val (.slice (some ⟨b, off, none⟩) N c)), (1, .val (.int .i64 z)), (6, .val (.int .i64 (i : Int))), (8, .val (.int .i64 (e.1 + 1 + (j : Int)))), (7, .box 7 0), (5, .box 5 0), (4, .box 4 0)] ∧
    M = [(4, (52, ([.bool false, .slice none 0 0, .bool false, .slice none 0 0] : List Value).map .val)), (5, (52, ([.bool s, .slice p' n' c', .bool t, .slice r m d] : List Value).map .val)), (7, (52, ([.bool s4, .slice p4 n4 c4, .bool t4, .slice r4 m4 d4] : List Value).map .val))] ∧
    Kp UU w' w2 ∧ RatRd w2 (.agg #[.bool s4, .slice p4 n4 c4, .bool t4, .slice r4 m4 d4]) (e.exp.2.2.2 * Rat.divInt (e.2.1 - (j : Int)) e.2.1)) T
    ⟨_, _, ?_, ?_, ?_, ?_, ⟨0, e.2.2.1, ep, e.2.2.2.1.length, ec, e.2.2.2.2.1, er, e.2.2.2.2.2.length, ed, by omega, rfl, rfl, rfl, ?_, ?_⟩⟩ ?_
   ·(repeat first|exact trivial|refine ⟨rfl, ?_⟩)
   ·(repeat first|exact trivial|refine ⟨rfl, ?_⟩)
   ·rfl
   ·(repeat first|exact trivial|refine ⟨ClosedC.lit rfl, ?_⟩|refine ⟨ClosedC.vals _, ?_⟩)
   ·(with_reducible (repeat (first | assumption | exact kU _ | exact kR _ | exact Kp.of (U := UU) (by assumption) | exact KpS.of (by assumption) | refine kT ?_ (by assumption))))
   ·rw [show e.2.1 - ((0 : Nat) : Int) = e.2.1 by omega, div_self' (by omega), Rat.mul_one]
    exact (rq_right hraw hrt).kp hkw
   rintro mm L M w2 ⟨j, s4, p4, n4, c4, t4, r4, m4, d4, hj, rfl, rfl, rfl, hk2, hq4⟩
   (repeat first|refine wN ?_|refine wP rfl ?_|refine cx_r rfl ?_|refine cx_d rfl ?_|refine wO rfl rfl ?_)
   have e2 : IntKind.i64.wrap (e.1 + e.2.1) = e.1 + e.2.1 := IntWalk.i64_in _ (by omega)
   by_cases a2 : e.1 + 1 + (j : Int) ≤ z
   ·refine VO.fix 37 rfl (congrArg (fun b => AV.val (.bool b)) (decide_eq_true a2)) ?_
    (repeat first|refine wN ?_|refine wP rfl ?_|refine cx_r rfl ?_|refine cx_d rfl ?_|refine wO rfl rfl ?_)
    refine VO.cond rfl ⟨by omega, by omega⟩ ?_
    refine wV rfl ?_
    (repeat first|refine wN ?_|refine wP rfl ?_|refine cx_r rfl ?_|refine cx_d rfl ?_|refine wO rfl rfl ?_)
    refine VO.read rfl [.int .i64 e.1] rfl (cells_at hc 0 _ ⟨_, rfl⟩) (wV rfl ?_)
    (repeat first|refine wN ?_|refine wP rfl ?_|refine cx_r rfl ?_|refine cx_d rfl ?_|refine wO rfl rfl ?_)
    refine VO.cond rfl ⟨by omega, by omega⟩ ?_
    refine wV rfl ?_
    (repeat first|refine wN ?_|refine wP rfl ?_|refine cx_r rfl ?_|refine cx_d rfl ?_|refine wO rfl rfl ?_)
    refine VO.read rfl [.int .i64 e.2.1] rfl (cells_at hc 1 _ ⟨_, rfl⟩) (wV rfl ?_)
    (repeat first|refine wN ?_|refine wP rfl ?_|refine cx_r rfl ?_|refine cx_d rfl ?_|refine wO rfl rfl ?_)
    by_cases a3 : e.1 + 1 + (j : Int) ≤ e.1 + e.2.1
    ·have hjT : j < T := by split at hT3 <;> (try split at hT3) <;> omega
     refine VS.condY rfl (decide_eq_true (by rw [e2]; exact a3)) ?_
     (repeat first|refine wN ?_|refine wP rfl ?_|refine cx_r rfl ?_|refine cx_d rfl ?_|refine wO rfl rfl ?_)
     refine VO.cond rfl ⟨by omega, by omega⟩ (wV rfl ?_)
     refine VO.read rfl [.int .i64 e.1, .int .i64 e.2.1, .bool e.2.2.1, .slice ep e.2.2.2.1.length ec, .bool e.2.2.2.2.1, .slice er e.2.2.2.2.2.length ed] rfl (fun j u hj => by rw [Addr.add_mid, Int.toNat_natCast]; exact hc j u hj) (wV rfl ?_)
     refine VO.call rfl rfl (fk Tryz.func30) (fun wa2 ka2 ba2 => (q18Part_any _ e kk (e.1 + 1 + (j : Int)) wa2 ⟨_, rfl, hE0.kp (Kp.of (U := UU) ba2)⟩ (by omega) ⟨by omega, by omega⟩).mono ?_)
     rintro e w2 ⟨r2, rfl, q2, hb2⟩
     obtain ⟨s2, p2, n2, c2, t2, y2, m2, d2, rfl⟩ := q2.form
     refine ⟨_, rfl, hb2, fun kb2 _ bb2 => wV rfl ?_⟩
     (repeat first|refine wN ?_|refine wP rfl ?_|refine cx_r rfl ?_|refine cx_d rfl ?_|refine wO rfl rfl ?_)
     replace q2 := q2.cast (epart_in hwe (show e.1 < e.1 + 1 + (j : Int) by omega) a3)
     refine VO.call rfl rfl (fk Tryz.func81) (fun wa3 ka3 ba3 => (q04Sub_any _ _ (e.exp.2.2.2 * Rat.divInt (e.2.1 - (j : Int)) e.2.1) (e.exp.2.2.2 * Rat.divInt 1 e.2.1) K K wa3 (hq4.ki (hlz j (by omega))) (q2.ki (by rw [← hK4]; exact hqz.mul (RSz.of (by omega) (show e.2.1.natAbs < 4294967296 by omega)))) (by omega) (by omega)).mono ?_)
     rintro e w3 ⟨r3, rfl, q3, hb3⟩
     obtain ⟨s3, p3, n3, c3, t3, y3, m3, d3, rfl⟩ := q3.form
     refine ⟨_, rfl, hb3, fun kb3 _ bb3 => wV rfl ?_⟩
     (repeat first|refine wN ?_|refine wP rfl ?_|refine cx_r rfl ?_|refine cx_d rfl ?_|refine wO rfl rfl ?_)
     refine VS.back (T - (j + 1)) (by omega) ⟨_, _, ?_, ?_, ?_, ?_, ⟨j + 1, _, _, _, _, _, _, _, _, by omega, rfl, rfl, rfl, by (with_reducible (repeat (first | assumption | exact kU _ | exact kR _ | exact Kp.of (U := UU) (by assumption) | exact KpS.of (by assumption) | refine kT ?_ (by assumption)))), (q3.kr).cast (left_step' _ _ _)⟩⟩
     ·refine ⟨rfl, rfl, rfl, ?_, rfl, rfl, rfl, trivial⟩
      show some (AV.val (.int .i64 (IntKind.i64.wrap (e.1 + 1 + (j : Int) + 1)))) = _
      rw [IntWalk.i64_in _ (by omega), show e.1 + 1 + (j : Int) + 1 = e.1 + 1 + ((j + 1 : Nat) : Int) by omega]
     ·(repeat first|exact trivial|refine ⟨rfl, ?_⟩)
     ·rfl
     ·(repeat first|exact trivial|refine ⟨ClosedC.lit rfl, ?_⟩|refine ⟨ClosedC.vals _, ?_⟩)
    ·refine VS.condN rfl (decide_eq_false (by rw [e2]; exact a3)) ?_
     obtain rfl : j = T := by split at hT3 <;> (try split at hT3) <;> omega
     (repeat first|refine wN ?_|refine wP rfl ?_|refine cx_r rfl ?_|refine cx_d rfl ?_|refine wO rfl rfl ?_)
     refine VO.call rfl rfl (fk Tryz.func54) (fun wa4 ka4 ba4 => (q04Add_any _ _ (rsum ((l.map f).take i)) (f e) (stepSz K i) (up1 K) wa4 (ho.ki hz') ((hq4.cast hfv).ki (hfz.mono (by unfold up1; omega))) (by have := stepSz_le (k := K) hi; omega) (by omega)).mono ?_)
     rintro e w4 ⟨r6, rfl, q6, hb4⟩
     obtain ⟨s6, p6, n6, c6, t6, y6, m6, d6, rfl⟩ := q6.form
     refine ⟨_, rfl, hb4, fun kb4 _ bb4 => wV rfl ?_⟩
     (repeat first|refine wN ?_|refine wP rfl ?_|refine cx_r rfl ?_|refine cx_d rfl ?_|refine wO rfl rfl ?_)
     refine VS.back (N - (i + 1)) (by omega) ⟨_, _, ?_, ?_, ?_, ?_, ⟨i + 1, _, _, _, _, _, _, _, _, by omega, rfl, rfl, rfl, ((q6.k).mono ba4.size).cast (rsum_snoc hfe).symm, by rw [rsum_snoc hfe, stepSz_succ]; exact hz'.add (hfz.mono (by unfold up1; omega)), by (with_reducible (repeat (first | assumption | exact kU _ | exact kR _ | exact Kp.of (U := UU) (by assumption) | exact KpS.of (by assumption) | refine kT ?_ (by assumption))))⟩⟩
     ·refine ⟨rfl, rfl, ?_, rfl, rfl, trivial⟩
      rw [← nat_step (i := i) (by omega)]; rfl
     ·(repeat first|exact trivial|refine ⟨rfl, ?_⟩)
     ·rfl
     ·(repeat first|exact trivial|refine ⟨ClosedC.lit rfl, ?_⟩|refine ⟨ClosedC.vals _, ?_⟩)
   ·refine VO.fix 37 rfl (congrArg (fun b => AV.val (.bool b)) (decide_eq_false a2)) ?_
    obtain rfl : j = T := by split at hT3 <;> (try split at hT3) <;> omega
    (repeat first|refine wN ?_|refine wP rfl ?_|refine cx_r rfl ?_|refine cx_d rfl ?_|refine wO rfl rfl ?_)
    refine VO.call rfl rfl (fk Tryz.func54) (fun wa4 ka4 ba4 => (q04Add_any _ _ (rsum ((l.map f).take i)) (f e) (stepSz K i) (up1 K) wa4 (ho.ki hz') ((hq4.cast hfv).ki (hfz.mono (by unfold up1; omega))) (by have := stepSz_le (k := K) hi; omega) (by omega)).mono ?_)
    rintro e w4 ⟨r6, rfl, q6, hb4⟩
    obtain ⟨s6, p6, n6, c6, t6, y6, m6, d6, rfl⟩ := q6.form
    refine ⟨_, rfl, hb4, fun kb4 _ bb4 => wV rfl ?_⟩
    (repeat first|refine wN ?_|refine wP rfl ?_|refine cx_r rfl ?_|refine cx_d rfl ?_|refine wO rfl rfl ?_)
    refine VS.back (N - (i + 1)) (by omega) ⟨_, _, ?_, ?_, ?_, ?_, ⟨i + 1, _, _, _, _, _, _, _, _, by omega, rfl, rfl, rfl, ((q6.k).mono ba4.size).cast (rsum_snoc hfe).symm, by rw [rsum_snoc hfe, stepSz_succ]; exact hz'.add (hfz.mono (by unfold up1; omega)), by (with_reducible (repeat (first | assumption | exact kU _ | exact kR _ | exact Kp.of (U := UU) (by assumption) | exact KpS.of (by assumption) | refine kT ?_ (by assumption))))⟩⟩
    ·refine ⟨rfl, rfl, ?_, rfl, rfl, trivial⟩
     rw [← nat_step (i := i) (by omega)]; rfl
    ·(repeat first|exact trivial|refine ⟨rfl, ?_⟩)
    ·rfl
    ·(repeat first|exact trivial|refine ⟨ClosedC.lit rfl, ?_⟩|refine ⟨ClosedC.vals _, ?_⟩)
 ·refine VS.condN rfl (decide_eq_false (fun e => hlt (Int.ofNat_lt.1 e))) ?_
  (repeat first|refine wN ?_|refine wP rfl ?_|refine cx_r rfl ?_|refine cx_d rfl ?_|refine wO rfl rfl ?_)
  refine VS.ret (cx_ok _ _) rfl rfl (fun wz kz bz => ?_)
  obtain rfl : i = N := by omega
  rw [List.take_of_length_le (by rw [List.length_map]; omega)] at ho hz'
  exact ⟨_, rfl, ho.kp kz, hz', bz⟩
end Go.Proofs.YtohlmpibnnkanaaGreat
/- What the reference's ledger of expenses holds: Of. -/
namespace Go.Proofs.YtohlmpibnnkanaaGreat
open Go.RowKit
attribute [local irreducible] vcOps VS

def ewell (l : List RExp) : Bool := l.all fun e => !ewrong e.exp
def enz (e : RExp) : Bool := decide (e.exp.2.2.2 ≠ 0)
def etaken (l : List RExp) : List RExp := l.filter enz
theorem ewell_iff {l : List RExp} : ewell l = true ↔ ∀ e ∈ l, ewrong e.exp = false := by
 unfold ewell
 rw [List.all_eq_true]
 exact forall₂_congr fun e he => by cases ewrong e.exp <;> simp
theorem etaken_snoc {l : List RExp} {z : Nat} {e : RExp} (he : l[z]? = some e) (h : e.exp.2.2.2 ≠ 0) : etaken (l.take (z + 1)) = etaken (l.take z) ++ [e] := by
 rw [take_snoc_at he]
 unfold etaken enz
 rw [List.filter_append]
 simp [h]
theorem etaken_skip {l : List RExp} {z : Nat} {e : RExp} (he : l[z]? = some e) (h : e.exp.2.2.2 = 0) : etaken (l.take (z + 1)) = etaken (l.take z) := by
 rw [take_snoc_at he]
 unfold etaken enz
 rw [List.filter_append]
 simp [h]
theorem etaken_len (l : List RExp) (z : Nat) : (etaken (l.take z)).length ≤ l.length := by
 unfold etaken
 have h1 := List.length_filter_le enz (l.take z)
 have h2 : (l.take z).length ≤ l.length := by rw [List.length_take]; omega
 omega
theorem well_snoc {l : List RExp} {z : Nat} {e : RExp} (he : l[z]? = some e) (h : ∀ x ∈ l.take z, ewrong x.exp = false) (hw : ewrong e.exp = false) : ∀ x ∈ l.take (z + 1), ewrong x.exp = false := by
 rw [take_snoc_at he]
 intro x hx
 rcases List.mem_append.1 hx with hx | hx
 ·exact h x hx
 ·rw [List.mem_singleton.1 hx]; exact hw
theorem well_not {l : List RExp} {z : Nat} {e : RExp} (he : l[z]? = some e) (hw : ewrong e.exp = true) : ewell l = false := by
 cases h : ewell l with
 | false => rfl
 | true => rw [ewell_iff.1 h e (List.mem_of_getElem? he)] at hw; cases hw
theorem q04Sign_ok (v : Value) (q : Rat) (k : Nat) (w : World) (hv : RatIn w v q k) (hk : k ≤ 134217728) (c : Int) (hc : rcmp q 0 = c) :
  Calls Tryz.prog 76 #[v] w fun e w' => e = .returned (.int .i64 c) ∧ Beh w w' := hc ▸ q04Sign_any v q k w hv hk
set_option maxRecDepth 4000 in
set_option maxHeartbeats 4000000 in
theorem q18Of_any (v : Value) (l : List RExp) (kk : Nat) (w : World) (hv : SlIn (ExpE kk) 6 w v l) (hk : kk ≤ 1024) (hn : l.length ≤ 64) :
  Calls Tryz.prog 28 #[v] w fun o w' => ∃ r, o = .returned (.tuple #[r, .int .i64 (if ewell l = true then 0 else 2)]) ∧ (ewell l = true → RowNew (ExpE kk) 6 55 w.heap.size w' r (etaken l)) ∧ (ewell l = false → r = .slice none 0 0) ∧ Beh w w' := by
 obtain ⟨p, c, rfl, hnc, hcm⟩ := hv.form
 obtain ⟨N, hN⟩ : ∃ N, N = l.length := ⟨_, rfl⟩
 rw [← hN] at hv hnc hn
 have htl : ∀ z, (etaken (l.take z)).length ≤ N := fun z => by rw [hN]; exact etaken_len l z
 rw [← hN]
 refine calm_enter (C := cxOf Tryz.prog w _) (args := [_]) Tryz.func28 rfl Tryz.ntmps28 (Nat.le_of_ble_eq_true rfl) ?_
 (repeat first|refine wN ?_|refine wP rfl ?_|refine cx_r rfl ?_|refine cx_d rfl ?_|refine wO rfl rfl ?_)
 refine VS.loop (J := fun m L M w' => ∃ z : Nat, z ≤ N ∧ m = N - z ∧ (∀ x ∈ l.take z, ewrong x.exp = false) ∧
   ((etaken (l.take z) = [] ∧ L = [(0, .val (.slice p N c)), (4, .val (.slice none 0 0)), (5, .val (.int .i64 (z : Int)))] ∧ M = []) ∨
    (∃ k vs spare cap, k = (etaken (l.take z)).length ∧ L = [(0, .val (.slice p N c)), (4, .row 37 0 k cap), (5, .val (.int .i64 (z : Int)))] ∧ M = [(37, (55, vs.flatten.map .val ++ spare))] ∧
     RowE (ExpE kk) w' (etaken (l.take z)) vs ∧ (vs.flatten.map AV.val ++ spare).length = cap * 6 ∧ k ≤ cap ∧ cap ≤ 9223372036854775807 ∧ spare.all okLeaf = true ∧ lidsOf spare = []))) N ⟨_, _, ?_, ?_, ?_, ?_, ⟨0, by omega, rfl, fun x hx => (by simp at hx), .inl ⟨rfl, rfl, rfl⟩⟩⟩ ?_
 ·(repeat first|exact trivial|refine ⟨rfl, ?_⟩)
 ·(repeat first|exact trivial|refine ⟨rfl, ?_⟩)
 ·rfl
 ·(repeat first|exact trivial|refine ⟨ClosedC.lit rfl, ?_⟩|refine ⟨ClosedC.vals _, ?_⟩)
 rintro m L M wJ ⟨z, hz, rfl, hwz, ⟨hnil, rfl, rfl⟩ | ⟨k, vs, spare, cap, hkd, rfl, rfl, hrow, hlen', hzc, hcc, hsok, hsl⟩⟩
 ·(repeat first|refine wN ?_|refine wP rfl ?_|refine cx_r rfl ?_|refine cx_d rfl ?_|refine wO rfl rfl ?_)
  by_cases hlt : z < N
  ·obtain ⟨e, he⟩ : ∃ e, l[z]? = some e := ⟨_, List.getElem?_eq_getElem (by omega)⟩
   obtain ⟨b, off, cs', rfl, hc, hE⟩ := hv.at he
   have hE0 := hE
   obtain ⟨ep, ec, er, ed, rfl, hi1, hi2, hraw, hx1, hx2⟩ := hE
   have hin := hraw.in hx1 hx2
   refine VS.condY rfl (decide_eq_true (Int.ofNat_lt.2 hlt)) ?_
   (repeat first|refine wN ?_|refine wP rfl ?_|refine cx_r rfl ?_|refine cx_d rfl ?_|refine wO rfl rfl ?_)
   refine VO.cond rfl ⟨by omega, by omega⟩ ?_
   refine wV rfl ?_
   (repeat first|refine wN ?_|refine wP rfl ?_|refine cx_r rfl ?_|refine cx_d rfl ?_|refine wO rfl rfl ?_)
   refine VO.read rfl [.int .i64 e.1, .int .i64 e.2.1, .bool e.2.2.1, .slice ep e.2.2.2.1.length ec, .bool e.2.2.2.2.1, .slice er e.2.2.2.2.2.length ed] rfl (cells_at hc 0 _ ⟨[], rfl⟩) (wV rfl ?_)
   cases hwe : ewrong e.exp with
   | true =>
    refine VO.call rfl rfl (fk Tryz.func37) (fun wa1 ka1 ba1 => (q18Error_any _ e kk wa1 ⟨_, rfl, hE0.kp (Kp.of (U := UU) ba1)⟩ (by omega) 2 (by rw [hwe]; rfl)).mono ?_)
    rintro e w1 ⟨rfl, hb1⟩
    skip
    refine ⟨_, rfl, hb1, fun kb1 _ bb1 => wV rfl ?_⟩
    (repeat first|refine wN ?_|refine wP rfl ?_|refine cx_r rfl ?_|refine cx_d rfl ?_|refine wO rfl rfl ?_)
    refine VS.ret (cx_ok _ _) rfl rfl (fun wz kz bz => ?_)
    have hwf := well_not he hwe
    exact ⟨_, by rw [hwf]; rfl, fun h => (by rw [hwf] at h; cases h), fun _ => rfl, bz⟩
   | false =>
    have hwz' := well_snoc he hwz hwe
    refine VO.call rfl rfl (fk Tryz.func37) (fun wa1 ka1 ba1 => (q18Error_any _ e kk wa1 ⟨_, rfl, hE0.kp (Kp.of (U := UU) ba1)⟩ (by omega) 0 (by rw [hwe]; rfl)).mono ?_)
    rintro e w1 ⟨rfl, hb1⟩
    skip
    refine ⟨_, rfl, hb1, fun kb1 _ bb1 => wV rfl ?_⟩
    (repeat first|refine wN ?_|refine wP rfl ?_|refine cx_r rfl ?_|refine cx_d rfl ?_|refine wO rfl rfl ?_)
    refine VO.cond rfl ⟨by omega, by omega⟩ ?_
    refine wV rfl ?_
    (repeat first|refine wN ?_|refine wP rfl ?_|refine cx_r rfl ?_|refine cx_d rfl ?_|refine wO rfl rfl ?_)
    refine VO.read rfl [.bool e.2.2.1, .slice ep e.2.2.2.1.length ec, .bool e.2.2.2.2.1, .slice er e.2.2.2.2.2.length ed] rfl (cells_at hc 2 _ ⟨[], rfl⟩) (wV rfl ?_)
    by_cases hq0 : e.exp.2.2.2 = 0
    ·refine VO.call rfl rfl (fk Tryz.func76) (fun wa2 ka2 ba2 => (q04Sign_ok _ e.exp.2.2.2 kk wa2 (hin.kp (Kp.of (U := UU) ba2)) (by omega) 0 (rcmp_zero' hq0)).mono ?_)
     rintro e w2 ⟨rfl, hb2⟩
     skip
     refine ⟨_, rfl, hb2, fun kb2 _ bb2 => wV rfl ?_⟩
     (repeat first|refine wN ?_|refine wP rfl ?_|refine cx_r rfl ?_|refine cx_d rfl ?_|refine wO rfl rfl ?_)
     refine VS.back (N - (z + 1)) (by omega) ⟨_, _, ?_, ?_, ?_, ?_, ⟨z + 1, by omega, rfl, hwz', .inl ⟨(etaken_skip he hq0).trans hnil, rfl, rfl⟩⟩⟩
     ·refine ⟨rfl, rfl, ?_, trivial⟩
      rw [← nat_step (i := z) (by omega)]; rfl
     ·(repeat first|exact trivial|refine ⟨rfl, ?_⟩)
     ·rfl
     ·(repeat first|exact trivial|refine ⟨ClosedC.lit rfl, ?_⟩|refine ⟨ClosedC.vals _, ?_⟩)
    ·obtain ⟨cq, hcq⟩ : ∃ cq, rcmp e.exp.2.2.2 0 = cq := ⟨_, rfl⟩
     have hcq0 : cq ≠ 0 := by rw [← hcq]; exact rcmp_ne hq0
     refine VO.call rfl rfl (fk Tryz.func76) (fun wa2 ka2 ba2 => (q04Sign_ok _ e.exp.2.2.2 kk wa2 (hin.kp (Kp.of (U := UU) ba2)) (by omega) cq hcq).mono ?_)
     rintro e w2 ⟨rfl, hb2⟩
     skip
     refine ⟨_, rfl, hb2, fun kb2 _ bb2 => wV rfl ?_⟩
     (repeat first|refine wN ?_|refine wP rfl ?_|refine cx_r rfl ?_|refine cx_d rfl ?_|refine wO rfl rfl ?_)
     refine VS.condY rfl (by simp [hcq0]) ?_
     (repeat first|refine wN ?_|refine wP rfl ?_|refine cx_r rfl ?_|refine cx_d rfl ?_|refine wO rfl rfl ?_)
     refine VO.cond rfl ⟨by omega, by omega⟩ ?_
     refine wV rfl ?_
     (repeat first|refine wN ?_|refine wP rfl ?_|refine cx_r rfl ?_|refine cx_d rfl ?_|refine wO rfl rfl ?_)
     refine VO.read rfl [.int .i64 e.1, .int .i64 e.2.1, .bool e.2.2.1, .slice ep e.2.2.2.1.length ec, .bool e.2.2.2.2.1, .slice er e.2.2.2.2.2.length ed] rfl (cells_at hc 0 _ ⟨[], rfl⟩) (wV rfl ?_)
     (repeat first|refine wN ?_|refine wP rfl ?_|refine cx_r rfl ?_|refine cx_d rfl ?_|refine wO rfl rfl ?_)
     refine VO.app (cx_ok _ _) (t := 45) (e := 55) (sz := 6) (n := 0) (c := 0) (mm := 1) (known := []) (spare := []) (del := none) (news := ([.int .i64 e.1, .int .i64 e.2.1, .bool e.2.2.1, .slice ep e.2.2.2.1.length ec, .bool e.2.2.2.2.1, .slice er e.2.2.2.2.2.length ed] : List Value).map .val) (dst := 37) rfl rfl rfl rfl rfl rfl rfl rfl (Nat.le_of_ble_eq_true rfl) rfl (.inl ⟨rfl, rfl, rfl, rfl, rfl, rfl, by omega⟩) (.inl rfl) rfl rfl (by omega) (by omega) ⟨rfl, rfl, rfl⟩ ⟨rfl, rfl, rfl⟩ rfl (by omega)
      (fun w1 β k1 b1 ho => ⟨_, _, rfl, .inr ⟨β 36, 0, rfl, own_src (rest := []) (ho.own 36 (.base (List.mem_append_right _ (List.mem_singleton.2 rfl))) _ _ rfl) rfl⟩⟩)
      (fun w13 cap' spare' ρ k13 b13 hρ hc1 hc2 hlen2 hok' hlid' => wV rfl ?_)
     (repeat first|refine wN ?_|refine wP rfl ?_|refine cx_r rfl ?_|refine cx_d rfl ?_|refine wO rfl rfl ?_)
     have hI : ExpE kk w13 [.int .i64 e.1, .int .i64 e.2.1, .bool e.2.2.1, .slice ep e.2.2.2.1.length ec, .bool e.2.2.2.2.1, .slice er e.2.2.2.2.2.length ed] e := hE0.kp (Kp.of (U := UU) b13)
     have hrow' : RowE (ExpE kk) w13 (etaken (l.take (z + 1))) [[.int .i64 e.1, .int .i64 e.2.1, .bool e.2.2.1, .slice ep e.2.2.2.1.length ec, .bool e.2.2.2.2.1, .slice er e.2.2.2.2.2.length ed]] := by
      rw [etaken_snoc he hq0, hnil]
      exact .cons hI .nil
     refine VS.back (N - (z + 1)) (by omega) ⟨_, _, ?_, ?_, ?_, ?_, ⟨z + 1, by omega, rfl, hwz', .inr ⟨0 + 1, [[.int .i64 e.1, .int .i64 e.2.1, .bool e.2.2.1, .slice ep e.2.2.2.1.length ec, .bool e.2.2.2.2.1, .slice er e.2.2.2.2.2.length ed]], spare', cap', by rw [etaken_snoc he hq0, hnil]; rfl, rfl, rfl, hrow', by simpa using hlen2, by omega, hc2, hok', hlid'⟩⟩⟩
     ·refine ⟨rfl, rfl, ?_, trivial⟩
      rw [← nat_step (i := z) (by omega)]; rfl
     ·exact ⟨rfl, trivial⟩
     ·rfl
     ·exact ⟨.append (.vals _) (.none hlid'), trivial⟩
  ·refine VS.condN rfl (decide_eq_false (fun e => hlt (Int.ofNat_lt.1 e))) ?_
   obtain rfl : z = N := by omega
   (repeat first|refine wN ?_|refine wP rfl ?_|refine cx_r rfl ?_|refine cx_d rfl ?_|refine wO rfl rfl ?_)
   refine VS.ret (cx_ok _ _) rfl rfl (fun wz kz bz => ?_)
   rw [List.take_of_length_le (by omega)] at hwz hnil
   have hwt := ewell_iff.2 hwz
   exact ⟨_, by rw [hwt]; rfl, fun _ => .inl ⟨rfl, hnil⟩, fun h => absurd (hwt.symm.trans h) (by decide), bz⟩
 ·(repeat first|refine wN ?_|refine wP rfl ?_|refine cx_r rfl ?_|refine cx_d rfl ?_|refine wO rfl rfl ?_)
  by_cases hlt : z < N
  ·obtain ⟨e, he⟩ : ∃ e, l[z]? = some e := ⟨_, List.getElem?_eq_getElem (by omega)⟩
   obtain ⟨b, off, cs', rfl, hc, hE⟩ := hv.at he
   have hE0 := hE
   obtain ⟨ep, ec, er, ed, rfl, hi1, hi2, hraw, hx1, hx2⟩ := hE
   have hin := hraw.in hx1 hx2
   refine VS.condY rfl (decide_eq_true (Int.ofNat_lt.2 hlt)) ?_
   (repeat first|refine wN ?_|refine wP rfl ?_|refine cx_r rfl ?_|refine cx_d rfl ?_|refine wO rfl rfl ?_)
   refine VO.cond rfl ⟨by omega, by omega⟩ ?_
   refine wV rfl ?_
   (repeat first|refine wN ?_|refine wP rfl ?_|refine cx_r rfl ?_|refine cx_d rfl ?_|refine wO rfl rfl ?_)
   refine VO.read rfl [.int .i64 e.1, .int .i64 e.2.1, .bool e.2.2.1, .slice ep e.2.2.2.1.length ec, .bool e.2.2.2.2.1, .slice er e.2.2.2.2.2.length ed] rfl (cells_at hc 0 _ ⟨[], rfl⟩) (wV rfl ?_)
   cases hwe : ewrong e.exp with
   | true =>
    refine VO.call rfl rfl (fk Tryz.func37) (fun wa1 ka1 ba1 => (q18Error_any _ e kk wa1 ⟨_, rfl, hE0.kp (Kp.of (U := UU) ba1)⟩ (by omega) 2 (by rw [hwe]; rfl)).mono ?_)
    rintro e w1 ⟨rfl, hb1⟩
    skip
    refine ⟨_, rfl, hb1, fun kb1 _ bb1 => wV rfl ?_⟩
    (repeat first|refine wN ?_|refine wP rfl ?_|refine cx_r rfl ?_|refine cx_d rfl ?_|refine wO rfl rfl ?_)
    refine VS.ret (cx_ok _ _) rfl rfl (fun wz kz bz => ?_)
    have hwf := well_not he hwe
    exact ⟨_, by rw [hwf]; rfl, fun h => (by rw [hwf] at h; cases h), fun _ => rfl, bz⟩
   | false =>
    have hwz' := well_snoc he hwz hwe
    refine VO.call rfl rfl (fk Tryz.func37) (fun wa1 ka1 ba1 => (q18Error_any _ e kk wa1 ⟨_, rfl, hE0.kp (Kp.of (U := UU) ba1)⟩ (by omega) 0 (by rw [hwe]; rfl)).mono ?_)
    rintro e w1 ⟨rfl, hb1⟩
    skip
    refine ⟨_, rfl, hb1, fun kb1 _ bb1 => wV rfl ?_⟩
    (repeat first|refine wN ?_|refine wP rfl ?_|refine cx_r rfl ?_|refine cx_d rfl ?_|refine wO rfl rfl ?_)
    refine VS.condN rfl (by have := htl z; rw [beq_eq_false_iff_ne]; omega) ?_
    (repeat first|refine wN ?_|refine wP rfl ?_|refine cx_r rfl ?_|refine cx_d rfl ?_|refine wO rfl rfl ?_)
    refine VO.cond rfl ⟨by omega, by omega⟩ ?_
    refine wV rfl ?_
    (repeat first|refine wN ?_|refine wP rfl ?_|refine cx_r rfl ?_|refine cx_d rfl ?_|refine wO rfl rfl ?_)
    refine VO.read rfl [.bool e.2.2.1, .slice ep e.2.2.2.1.length ec, .bool e.2.2.2.2.1, .slice er e.2.2.2.2.2.length ed] rfl (cells_at hc 2 _ ⟨[], rfl⟩) (wV rfl ?_)
    by_cases hq0 : e.exp.2.2.2 = 0
    ·refine VO.call rfl rfl (fk Tryz.func76) (fun wa2 ka2 ba2 => (q04Sign_ok _ e.exp.2.2.2 kk wa2 (hin.kp (Kp.of (U := UU) ba2)) (by omega) 0 (rcmp_zero' hq0)).mono ?_)
     rintro e w2 ⟨rfl, hb2⟩
     skip
     refine ⟨_, rfl, hb2, fun kb2 _ bb2 => wV rfl ?_⟩
     (repeat first|refine wN ?_|refine wP rfl ?_|refine cx_r rfl ?_|refine cx_d rfl ?_|refine wO rfl rfl ?_)
     refine VS.back (N - (z + 1)) (by omega) ⟨_, _, ?_, ?_, ?_, ?_, ⟨z + 1, by omega, rfl, hwz', .inr ⟨k, vs, spare, cap, by rw [etaken_skip he hq0]; exact hkd, rfl, rfl, by rw [etaken_skip he hq0]; exact hrow.kp (exp_ok kk) (by (with_reducible (repeat (first | assumption | exact kU _ | exact kR _ | exact Kp.of (U := UU) (by assumption) | exact KpS.of (by assumption) | refine kT ?_ (by assumption))))), hlen', hzc, hcc, hsok, hsl⟩⟩⟩
     ·refine ⟨rfl, rfl, ?_, trivial⟩
      rw [← nat_step (i := z) (by omega)]; rfl
     ·(repeat first|exact trivial|refine ⟨rfl, ?_⟩)
     ·rfl
     ·exact ⟨.append (.vals _) (.none hsl), trivial⟩
    ·obtain ⟨cq, hcq⟩ : ∃ cq, rcmp e.exp.2.2.2 0 = cq := ⟨_, rfl⟩
     have hcq0 : cq ≠ 0 := by rw [← hcq]; exact rcmp_ne hq0
     refine VO.call rfl rfl (fk Tryz.func76) (fun wa2 ka2 ba2 => (q04Sign_ok _ e.exp.2.2.2 kk wa2 (hin.kp (Kp.of (U := UU) ba2)) (by omega) cq hcq).mono ?_)
     rintro e w2 ⟨rfl, hb2⟩
     skip
     refine ⟨_, rfl, hb2, fun kb2 _ bb2 => wV rfl ?_⟩
     (repeat first|refine wN ?_|refine wP rfl ?_|refine cx_r rfl ?_|refine cx_d rfl ?_|refine wO rfl rfl ?_)
     refine VS.condY rfl (by simp [hcq0]) ?_
     (repeat first|refine wN ?_|refine wP rfl ?_|refine cx_r rfl ?_|refine cx_d rfl ?_|refine wO rfl rfl ?_)
     refine VO.cond rfl ⟨by omega, by omega⟩ ?_
     refine wV rfl ?_
     (repeat first|refine wN ?_|refine wP rfl ?_|refine cx_r rfl ?_|refine cx_d rfl ?_|refine wO rfl rfl ?_)
     refine VO.read rfl [.int .i64 e.1, .int .i64 e.2.1, .bool e.2.2.1, .slice ep e.2.2.2.1.length ec, .bool e.2.2.2.2.1, .slice er e.2.2.2.2.2.length ed] rfl (cells_at hc 0 _ ⟨[], rfl⟩) (wV rfl ?_)
     (repeat first|refine wN ?_|refine wP rfl ?_|refine cx_r rfl ?_|refine cx_d rfl ?_|refine wO rfl rfl ?_)
     obtain ⟨hok1, hln1⟩ := hrow.ok (exp_ok kk)
     refine VO.app (cx_ok _ _) (t := 45) (e := 55) (sz := 6) (n := k) (c := cap) (mm := 1) (known := vs.flatten.map .val) (spare := spare) (del := some 37) (news := ([.int .i64 e.1, .int .i64 e.2.1, .bool e.2.2.1, .slice ep e.2.2.2.1.length ec, .bool e.2.2.2.2.1, .slice er e.2.2.2.2.2.length ed] : List Value).map .val) (dst := 37) rfl rfl rfl rfl rfl rfl rfl rfl (Nat.le_of_ble_eq_true rfl) rfl (.inr ⟨37, rfl, rfl, rfl⟩) (.inr rfl) (by rw [List.length_map, hln1, hkd]) hlen' hzc hcc ⟨lidsOf_vals _, hsl, rfl⟩ ⟨vals_ok hok1, hsok, rfl⟩ rfl (by have := htl z; omega)
      (fun w1 β k1 b1 ho => ⟨_, _, rfl, .inr ⟨β 36, 0, rfl, own_src (rest := []) (ho.own 36 (.base (List.mem_append_right _ (List.mem_singleton.2 rfl))) _ _ rfl) rfl⟩⟩)
      (fun w13 cap' spare' ρ k13 b13 hρ hc1 hc2 hlen2 hok' hlid' => wV rfl ?_)
     (repeat first|refine wN ?_|refine wP rfl ?_|refine cx_r rfl ?_|refine cx_d rfl ?_|refine wO rfl rfl ?_)
     have hI : ExpE kk w13 [.int .i64 e.1, .int .i64 e.2.1, .bool e.2.2.1, .slice ep e.2.2.2.1.length ec, .bool e.2.2.2.2.1, .slice er e.2.2.2.2.2.length ed] e := hE0.kp (Kp.of (U := UU) b13)
     have hrow' : RowE (ExpE kk) w13 (etaken (l.take (z + 1))) (vs ++ [[.int .i64 e.1, .int .i64 e.2.1, .bool e.2.2.1, .slice ep e.2.2.2.1.length ec, .bool e.2.2.2.2.1, .slice er e.2.2.2.2.2.length ed]]) := by
      rw [etaken_snoc he hq0]
      exact (hrow.kp (exp_ok kk) (by (with_reducible (repeat (first | assumption | exact kU _ | exact kR _ | exact Kp.of (U := UU) (by assumption) | exact KpS.of (by assumption) | refine kT ?_ (by assumption)))))).snoc hI
     refine VS.back (N - (z + 1)) (by omega) ⟨_, _, ?_, ?_, ?_, ?_, ⟨z + 1, by omega, rfl, hwz', .inr ⟨k + 1, vs ++ [[.int .i64 e.1, .int .i64 e.2.1, .bool e.2.2.1, .slice ep e.2.2.2.1.length ec, .bool e.2.2.2.2.1, .slice er e.2.2.2.2.2.length ed]], spare', cap', by rw [etaken_snoc he hq0, List.length_append, ← hkd]; rfl, rfl, rfl, hrow', by simpa using hlen2, by omega, hc2, hok', hlid'⟩⟩⟩
     ·refine ⟨rfl, rfl, ?_, trivial⟩
      rw [← nat_step (i := z) (by omega)]; rfl
     ·exact ⟨congrArg (fun l => some (_, l ++ spare')) (by simp), trivial⟩
     ·rfl
     ·exact ⟨.append (.vals _) (.none hlid'), trivial⟩
  ·refine VS.condN rfl (decide_eq_false (fun e => hlt (Int.ofNat_lt.1 e))) ?_
   obtain rfl : z = N := by omega
   (repeat first|refine wN ?_|refine wP rfl ?_|refine cx_r rfl ?_|refine cx_d rfl ?_|refine wO rfl rfl ?_)
   refine VS.retA (cx_ok _ _) rfl (fun wz β kz bz en => ?_)
   rw [List.take_of_length_le (by omega)] at hwz hrow hkd
   have hwt := ewell_iff.2 hwz
   exact ⟨_, by rw [hwt]; rfl, fun _ => rowNew_own (en.own 37 _ _ rfl) (hrow.kp (exp_ok kk) kz) hkd hzc hcc hlen', fun h => absurd (hwt.symm.trans h) (by decide), bz⟩
end Go.Proofs.YtohlmpibnnkanaaGreat
/- What the small functions of the statements about expenses compute: few, ref, same. -/
namespace Go.Proofs.YtohlmpibnnkanaaGreat
open Go.RowKit
attribute [local irreducible] vcOps VS

def esmall (e : RExp) : Bool := decide (e.2.2.2.1.length ≤ 3) && decide (e.2.2.2.2.2.length ≤ 3)
def fewE (l : List RExp) : Bool := decide (l.length ≤ 10) && l.all esmall
theorem fewE_sl {kk : Nat} {w : World} {v : Value} {l : List RExp} (h : fewE l = true) (hv : SlIn (ExpE kk) 6 w v l) : SlIn (ExpE 3) 6 w v l := by
 refine hv.mono fun i a cs ha he => ?_
 unfold fewE at h
 rw [Bool.and_eq_true, List.all_eq_true] at h
 have := h.2 a (List.mem_of_getElem? ha)
 unfold esmall at this
 rw [Bool.and_eq_true, decide_eq_true_iff, decide_eq_true_iff] at this
 obtain ⟨p, c, r, d, h1, h2, h3, h4, h5, h6⟩ := he
 exact ⟨p, c, r, d, h1, h2, h3, h4, this.1, this.2⟩
theorem small_snoc {l : List RExp} {z : Nat} {e : RExp} (he : l[z]? = some e) (h : (l.take z).all esmall = true) (hw : esmall e = true) : (l.take (z + 1)).all esmall = true := by
 rw [take_snoc_at he, List.all_append, h]; simp [hw]
theorem small_not {l : List RExp} {z : Nat} {e : RExp} (he : l[z]? = some e) (hw : esmall e = false) : fewE l = false := by
 unfold fewE
 cases h : l.all esmall with
 | false => simp
 | true => rw [List.all_eq_true.1 h e (List.mem_of_getElem? he)] at hw; cases hw
theorem few18_any (v : Value) (l : List RExp) (kk : Nat) (w : World) (hv : SlIn (ExpE kk) 6 w v l) :
  Calls Tryz.prog 14 #[v] w fun o w' => o = .returned (.bool (fewE l)) ∧ Beh w w' := by
 obtain ⟨p, c, rfl, hnc, hcm⟩ := hv.form
 obtain ⟨N, hN⟩ : ∃ N, N = l.length := ⟨_, rfl⟩
 rw [← hN] at hv hnc ⊢
 refine calm_enter (C := cxOf Tryz.prog w _) (args := [_]) Tryz.func14 rfl Tryz.ntmps14 (Nat.le_of_ble_eq_true rfl) ?_
 (repeat first|refine wN ?_|refine wP rfl ?_|refine cx_r rfl ?_|refine cx_d rfl ?_|refine wO rfl rfl ?_)
 by_cases hN10 : N ≤ 10
 ·refine VS.condN rfl (decide_eq_false (show ¬ (N : Int) > 10 by omega)) ?_
  (repeat first|refine wN ?_|refine wP rfl ?_|refine cx_r rfl ?_|refine cx_d rfl ?_|refine wO rfl rfl ?_)
  refine VS.loop (J := fun m L M w' => ∃ z : Nat, z ≤ N ∧ m = N - z ∧ L = [(0, .val (.slice p N c)), (3, .val (.int .i64 (z : Int)))] ∧ M = [] ∧ (l.take z).all esmall = true) N ⟨_, _, ?_, ?_, ?_, ?_, ⟨0, by omega, rfl, rfl, rfl, rfl⟩⟩ ?_
  ·(repeat first|exact trivial|refine ⟨rfl, ?_⟩)
  ·(repeat first|exact trivial|refine ⟨rfl, ?_⟩)
  ·rfl
  ·(repeat first|exact trivial|refine ⟨ClosedC.lit rfl, ?_⟩|refine ⟨ClosedC.vals _, ?_⟩)
  rintro m L M wJ ⟨z, hz, rfl, rfl, rfl, hall⟩
  (repeat first|refine wN ?_|refine wP rfl ?_|refine cx_r rfl ?_|refine cx_d rfl ?_|refine wO rfl rfl ?_)
  by_cases hlt : z < N
  ·obtain ⟨e, he⟩ : ∃ e, l[z]? = some e := ⟨_, List.getElem?_eq_getElem (by omega)⟩
   obtain ⟨b, off, cs', rfl, hc, hE⟩ := hv.at he
   obtain ⟨ep, ec, er, ed, rfl, -⟩ := hE
   refine VS.condY rfl (decide_eq_true (Int.ofNat_lt.2 hlt)) ?_
   (repeat first|refine wN ?_|refine wP rfl ?_|refine cx_r rfl ?_|refine cx_d rfl ?_|refine wO rfl rfl ?_)
   refine VO.cond rfl ⟨by omega, by omega⟩ ?_
   refine wV rfl ?_
   (repeat first|refine wN ?_|refine wP rfl ?_|refine cx_r rfl ?_|refine cx_d rfl ?_|refine wO rfl rfl ?_)
   refine VO.read rfl [.slice ep e.2.2.2.1.length ec] rfl (cells_at hc 3 _ ⟨_, rfl⟩) (wV rfl ?_)
   (repeat first|refine wN ?_|refine wP rfl ?_|refine cx_r rfl ?_|refine cx_d rfl ?_|refine wO rfl rfl ?_)
   by_cases h1 : e.2.2.2.1.length ≤ 3
   ·refine VO.fix 22 rfl (congrArg (fun b => AV.val (.bool b)) (decide_eq_false (show ¬ (e.2.2.2.1.length : Int) > 3 by omega))) ?_
    (repeat first|refine wN ?_|refine wP rfl ?_|refine cx_r rfl ?_|refine cx_d rfl ?_|refine wO rfl rfl ?_)
    refine VO.cond rfl ⟨by omega, by omega⟩ ?_
    refine wV rfl ?_
    (repeat first|refine wN ?_|refine wP rfl ?_|refine cx_r rfl ?_|refine cx_d rfl ?_|refine wO rfl rfl ?_)
    refine VO.read rfl [.slice er e.2.2.2.2.2.length ed] rfl (cells_at hc 5 _ ⟨_, rfl⟩) (wV rfl ?_)
    (repeat first|refine wN ?_|refine wP rfl ?_|refine cx_r rfl ?_|refine cx_d rfl ?_|refine wO rfl rfl ?_)
    by_cases h2 : e.2.2.2.2.2.length ≤ 3
    ·have hs : esmall e = true := by unfold esmall; rw [decide_eq_true h1, decide_eq_true h2]; rfl
     refine VS.condN rfl (decide_eq_false (show ¬ (e.2.2.2.2.2.length : Int) > 3 by omega)) ?_
     (repeat first|refine wN ?_|refine wP rfl ?_|refine cx_r rfl ?_|refine cx_d rfl ?_|refine wO rfl rfl ?_)
     refine VS.back (N - (z + 1)) (by omega) ⟨_, _, ?_, ?_, ?_, ?_, ⟨z + 1, by omega, rfl, rfl, rfl, small_snoc he hall hs⟩⟩
     ·refine ⟨rfl, ?_, trivial⟩
      rw [← nat_step (i := z) (by omega)]; rfl
     ·(repeat first|exact trivial|refine ⟨rfl, ?_⟩)
     ·rfl
     ·(repeat first|exact trivial|refine ⟨ClosedC.lit rfl, ?_⟩|refine ⟨ClosedC.vals _, ?_⟩)
    ·have hs : esmall e = false := by unfold esmall; rw [decide_eq_false h2, Bool.and_false]
     refine VS.condY rfl (decide_eq_true (show (e.2.2.2.2.2.length : Int) > 3 by omega)) ?_
     (repeat first|refine wN ?_|refine wP rfl ?_|refine cx_r rfl ?_|refine cx_d rfl ?_|refine wO rfl rfl ?_)
     refine VS.ret (cx_ok _ _) rfl rfl (fun wz kz bz => ?_)
     exact ⟨by rw [small_not he hs]; rfl, bz⟩
   ·have hs : esmall e = false := by unfold esmall; rw [decide_eq_false h1, Bool.false_and]
    refine VO.fix 22 rfl (congrArg (fun b => AV.val (.bool b)) (decide_eq_true (show (e.2.2.2.1.length : Int) > 3 by omega))) ?_
    (repeat first|refine wN ?_|refine wP rfl ?_|refine cx_r rfl ?_|refine cx_d rfl ?_|refine wO rfl rfl ?_)
    refine VS.ret (cx_ok _ _) rfl rfl (fun wz kz bz => ?_)
    exact ⟨by rw [small_not he hs]; rfl, bz⟩
  ·refine VS.condN rfl (decide_eq_false (fun e => hlt (Int.ofNat_lt.1 e))) ?_
   obtain rfl : z = N := by omega
   (repeat first|refine wN ?_|refine wP rfl ?_|refine cx_r rfl ?_|refine cx_d rfl ?_|refine wO rfl rfl ?_)
   refine VS.ret (cx_ok _ _) rfl rfl (fun wz kz bz => ?_)
   rw [List.take_of_length_le (by omega)] at hall
   exact ⟨by unfold fewE; rw [hall, decide_eq_true (show l.length ≤ 10 by omega)]; rfl, bz⟩
 ·refine VS.condY rfl (decide_eq_true (show (N : Int) > 10 by omega)) ?_
  (repeat first|refine wN ?_|refine wP rfl ?_|refine cx_r rfl ?_|refine cx_d rfl ?_|refine wO rfl rfl ?_)
  refine VS.ret (cx_ok _ _) rfl rfl (fun wz kz bz => ?_)
  exact ⟨by unfold fewE; rw [decide_eq_false (show ¬ l.length ≤ 10 by omega), Bool.false_and]; rfl, bz⟩
end Go.Proofs.YtohlmpibnnkanaaGreat
/- What the small functions of the statements about expenses compute: ref, same. -/
namespace Go.Proofs.YtohlmpibnnkanaaGreat
open Go.RowKit
attribute [local irreducible] vcOps VS

set_option maxRecDepth 4000 in
set_option maxHeartbeats 4000000 in
theorem ref18_any (v : Value) (l : List RExp) (kk : Nat) (w : World) (hv : SlIn (ExpE kk) 6 w v l) (hk : kk ≤ 1000000) (hn : l.length ≤ 1000000) :
  Calls Tryz.prog 27 #[v] w fun o w' => ∃ r, o = .returned r ∧ RowNew (ExpE kk) 6 55 w.heap.size w' r l ∧ Beh w w' := by
 obtain ⟨p, c, rfl, hnc, hcm⟩ := hv.form
 obtain ⟨N, hN⟩ : ∃ N, N = l.length := ⟨_, rfl⟩
 rw [← hN] at hv hnc hn
 rw [← hN]
 refine calm_enter (C := cxOf Tryz.prog w _) (args := [_]) Tryz.func27 rfl Tryz.ntmps27 (Nat.le_of_ble_eq_true rfl) ?_
 (repeat first|refine wN ?_|refine wP rfl ?_|refine cx_r rfl ?_|refine cx_d rfl ?_|refine wO rfl rfl ?_)
 refine VS.loop (J := fun m L M w' => ∃ z : Nat, z ≤ N ∧ m = N - z ∧
   ((z = 0 ∧ L = [(0, .val (.slice p N c)), (3, .val (.slice none 0 0)), (4, .val (.int .i64 (z : Int)))] ∧ M = []) ∨
    (0 < z ∧ ∃ vs spare cap, L = [(0, .val (.slice p N c)), (3, .row 30 0 z cap), (4, .val (.int .i64 (z : Int)))] ∧ M = [(30, (55, vs.flatten.map .val ++ spare))] ∧
     RowE (ExpE kk) w' (l.take z) vs ∧ (vs.flatten.map AV.val ++ spare).length = cap * 6 ∧ z ≤ cap ∧ cap ≤ 9223372036854775807 ∧ spare.all okLeaf = true ∧ lidsOf spare = []))) N ⟨_, _, ?_, ?_, ?_, ?_, ⟨0, by omega, rfl, .inl ⟨rfl, rfl, rfl⟩⟩⟩ ?_
 ·(repeat first|exact trivial|refine ⟨rfl, ?_⟩)
 ·(repeat first|exact trivial|refine ⟨rfl, ?_⟩)
 ·rfl
 ·(repeat first|exact trivial|refine ⟨ClosedC.lit rfl, ?_⟩|refine ⟨ClosedC.vals _, ?_⟩)
 rintro m L M wJ ⟨z, hz, rfl, ⟨rfl, rfl, rfl⟩ | ⟨hz0, vs, spare, cap, rfl, rfl, hrow, hlen', hzc, hcc, hsok, hsl⟩⟩
 ·(repeat first|refine wN ?_|refine wP rfl ?_|refine cx_r rfl ?_|refine cx_d rfl ?_|refine wO rfl rfl ?_)
  by_cases hlt : (0 : Nat) < N
  ·obtain ⟨e, he⟩ : ∃ e, l[(0 : Nat)]? = some e := ⟨_, List.getElem?_eq_getElem (by omega)⟩
   obtain ⟨b, off, cs', rfl, hc, hE⟩ := hv.at he
   obtain ⟨ep, ec, er, ed, rfl, hi1, hi2, hraw, hx1, hx2⟩ := hE
   refine VS.condY rfl (decide_eq_true (Int.ofNat_lt.2 hlt)) ?_
   (repeat first|refine wN ?_|refine wP rfl ?_|refine cx_r rfl ?_|refine cx_d rfl ?_|refine wO rfl rfl ?_)
   refine VO.cond rfl ⟨by omega, by omega⟩ ?_
   refine wV rfl ?_
   (repeat first|refine wN ?_|refine wP rfl ?_|refine cx_r rfl ?_|refine cx_d rfl ?_|refine wO rfl rfl ?_)
   refine VO.read rfl [.int .i64 e.1] rfl (cells_at hc 0 _ ⟨_, rfl⟩) (wV rfl ?_)
   refine VO.cond rfl ⟨by omega, by omega⟩ ?_
   refine wV rfl ?_
   (repeat first|refine wN ?_|refine wP rfl ?_|refine cx_r rfl ?_|refine cx_d rfl ?_|refine wO rfl rfl ?_)
   refine VO.read rfl [.int .i64 e.2.1] rfl (cells_at hc 1 _ ⟨_, rfl⟩) (wV rfl ?_)
   refine VO.cond rfl ⟨by omega, by omega⟩ ?_
   refine wV rfl ?_
   (repeat first|refine wN ?_|refine wP rfl ?_|refine cx_r rfl ?_|refine cx_d rfl ?_|refine wO rfl rfl ?_)
   refine VO.read rfl [.bool e.2.2.1, .slice ep e.2.2.2.1.length ec, .bool e.2.2.2.2.1, .slice er e.2.2.2.2.2.length ed] rfl (cells_at hc 2 _ ⟨[], rfl⟩) (wV rfl ?_)
   refine VO.call rfl rfl (fk Tryz.func55) (fun wa1 ka1 ba1 => (filRef_any e.2.2.1 e.2.2.2.2.1 e.2.2.2.1 e.2.2.2.2.2 _ wa1 (hraw.kp (Kp.of (U := UU) ba1)) (by omega) (by omega)).mono ?_)
   rintro e w1 ⟨r1, rfl, q1, hb1⟩
   obtain ⟨p1, c1, y1, d1, rfl, -⟩ := q1.raw.form'
   refine ⟨_, rfl, hb1, fun kb1 _ bb1 => wV rfl ?_⟩
   (repeat first|refine wN ?_|refine wP rfl ?_|refine cx_r rfl ?_|refine cx_d rfl ?_|refine wO rfl rfl ?_)
   refine VO.app (cx_ok _ _) (t := 45) (e := 55) (sz := 6) (n := 0) (c := 0) (mm := 1) (known := []) (spare := []) (del := none) (news := ([.int .i64 e.1, .int .i64 e.2.1, .bool e.2.2.1, .slice p1 e.2.2.2.1.length c1, .bool e.2.2.2.2.1, .slice y1 e.2.2.2.2.2.length d1] : List Value).map .val) (dst := 30) rfl rfl rfl rfl rfl rfl rfl rfl (Nat.le_of_ble_eq_true rfl) rfl (.inl ⟨rfl, rfl, rfl, rfl, rfl, rfl, by omega⟩) (.inl rfl) rfl rfl (by omega) (by omega) ⟨rfl, rfl, rfl⟩ ⟨rfl, rfl, rfl⟩ rfl (by omega)
    (fun w1 β k1 b1 ho => ⟨_, _, rfl, .inr ⟨β 29, 0, rfl, own_src (rest := []) (ho.own 29 (.base (List.mem_append_right _ (List.mem_singleton.2 rfl))) _ _ rfl) rfl⟩⟩)
    (fun w13 cap' spare' ρ k13 b13 hρ hc1 hc2 hlen2 hok' hlid' => wV rfl ?_)
   (repeat first|refine wN ?_|refine wP rfl ?_|refine cx_r rfl ?_|refine cx_d rfl ?_|refine wO rfl rfl ?_)
   have hI : ExpE kk w13 [.int .i64 e.1, .int .i64 e.2.1, .bool e.2.2.1, .slice p1 e.2.2.2.1.length c1, .bool e.2.2.2.2.1, .slice y1 e.2.2.2.2.2.length d1] e := ⟨_, _, _, _, rfl, hi1, hi2, q1.raw.k, hx1, hx2⟩
   have hrow' : RowE (ExpE kk) w13 (l.take ((0 : Nat) + 1)) [[.int .i64 e.1, .int .i64 e.2.1, .bool e.2.2.1, .slice p1 e.2.2.2.1.length c1, .bool e.2.2.2.2.1, .slice y1 e.2.2.2.2.2.length d1]] := by
    rw [take_snoc_at he]
    exact .cons hI .nil
   refine VS.back (N - ((0 : Nat) + 1)) (by omega) ⟨_, _, ?_, ?_, ?_, ?_, ⟨(0 : Nat) + 1, by omega, rfl, .inr ⟨by omega, [[.int .i64 e.1, .int .i64 e.2.1, .bool e.2.2.1, .slice p1 e.2.2.2.1.length c1, .bool e.2.2.2.2.1, .slice y1 e.2.2.2.2.2.length d1]], spare', cap', rfl, rfl, hrow', by simpa using hlen2, by omega, hc2, hok', hlid'⟩⟩⟩
   ·refine ⟨rfl, rfl, ?_, trivial⟩
    rfl
   ·exact ⟨rfl, trivial⟩
   ·rfl
   ·exact ⟨.append (.vals _) (.none hlid'), trivial⟩
  ·refine VS.condN rfl (decide_eq_false (fun e => hlt (Int.ofNat_lt.1 e))) ?_
   obtain rfl : N = 0 := by omega
   (repeat first|refine wN ?_|refine wP rfl ?_|refine cx_r rfl ?_|refine cx_d rfl ?_|refine wO rfl rfl ?_)
   refine VS.ret (cx_ok _ _) rfl rfl (fun wz kz bz => ?_)
   exact ⟨_, rfl, .inl ⟨rfl, List.length_eq_zero_iff.1 hN.symm⟩, bz⟩
 ·(repeat first|refine wN ?_|refine wP rfl ?_|refine cx_r rfl ?_|refine cx_d rfl ?_|refine wO rfl rfl ?_)
  by_cases hlt : z < N
  ·obtain ⟨e, he⟩ : ∃ e, l[z]? = some e := ⟨_, List.getElem?_eq_getElem (by omega)⟩
   obtain ⟨b, off, cs', rfl, hc, hE⟩ := hv.at he
   obtain ⟨ep, ec, er, ed, rfl, hi1, hi2, hraw, hx1, hx2⟩ := hE
   refine VS.condY rfl (decide_eq_true (Int.ofNat_lt.2 hlt)) ?_
   (repeat first|refine wN ?_|refine wP rfl ?_|refine cx_r rfl ?_|refine cx_d rfl ?_|refine wO rfl rfl ?_)
   refine VO.cond rfl ⟨by omega, by omega⟩ ?_
   refine wV rfl ?_
   (repeat first|refine wN ?_|refine wP rfl ?_|refine cx_r rfl ?_|refine cx_d rfl ?_|refine wO rfl rfl ?_)
   refine VO.read rfl [.int .i64 e.1] rfl (cells_at hc 0 _ ⟨_, rfl⟩) (wV rfl ?_)
   refine VO.cond rfl ⟨by omega, by omega⟩ ?_
   refine wV rfl ?_
   (repeat first|refine wN ?_|refine wP rfl ?_|refine cx_r rfl ?_|refine cx_d rfl ?_|refine wO rfl rfl ?_)
   refine VO.read rfl [.int .i64 e.2.1] rfl (cells_at hc 1 _ ⟨_, rfl⟩) (wV rfl ?_)
   refine VO.cond rfl ⟨by omega, by omega⟩ ?_
   refine wV rfl ?_
   (repeat first|refine wN ?_|refine wP rfl ?_|refine cx_r rfl ?_|refine cx_d rfl ?_|refine wO rfl rfl ?_)
   refine VO.read rfl [.bool e.2.2.1, .slice ep e.2.2.2.1.length ec, .bool e.2.2.2.2.1, .slice er e.2.2.2.2.2.length ed] rfl (cells_at hc 2 _ ⟨[], rfl⟩) (wV rfl ?_)
   refine VO.call rfl rfl (fk Tryz.func55) (fun wa1 ka1 ba1 => (filRef_any e.2.2.1 e.2.2.2.2.1 e.2.2.2.1 e.2.2.2.2.2 _ wa1 (hraw.kp (Kp.of (U := UU) ba1)) (by omega) (by omega)).mono ?_)
   rintro e w1 ⟨r1, rfl, q1, hb1⟩
   obtain ⟨p1, c1, y1, d1, rfl, -⟩ := q1.raw.form'
   refine ⟨_, rfl, hb1, fun kb1 _ bb1 => wV rfl ?_⟩
   (repeat first|refine wN ?_|refine wP rfl ?_|refine cx_r rfl ?_|refine cx_d rfl ?_|refine wO rfl rfl ?_)
   obtain ⟨hok1, hln1⟩ := hrow.ok (exp_ok kk)
   have htl : (l.take z).length = z := by rw [List.length_take]; omega
   refine VO.app (cx_ok _ _) (t := 45) (e := 55) (sz := 6) (n := z) (c := cap) (mm := 1) (known := vs.flatten.map .val) (spare := spare) (del := some 30) (news := ([.int .i64 e.1, .int .i64 e.2.1, .bool e.2.2.1, .slice p1 e.2.2.2.1.length c1, .bool e.2.2.2.2.1, .slice y1 e.2.2.2.2.2.length d1] : List Value).map .val) (dst := 30) rfl rfl rfl rfl rfl rfl rfl rfl (Nat.le_of_ble_eq_true rfl) rfl (.inr ⟨30, rfl, rfl, rfl⟩) (.inr rfl) (by rw [List.length_map, hln1, htl]) hlen' hzc hcc ⟨lidsOf_vals _, hsl, rfl⟩ ⟨vals_ok hok1, hsok, rfl⟩ rfl (by omega)
    (fun w1 β k1 b1 ho => ⟨_, _, rfl, .inr ⟨β 29, 0, rfl, own_src (rest := []) (ho.own 29 (.base (List.mem_append_right _ (List.mem_singleton.2 rfl))) _ _ rfl) rfl⟩⟩)
    (fun w13 cap' spare' ρ k13 b13 hρ hc1 hc2 hlen2 hok' hlid' => wV rfl ?_)
   (repeat first|refine wN ?_|refine wP rfl ?_|refine cx_r rfl ?_|refine cx_d rfl ?_|refine wO rfl rfl ?_)
   have hI : ExpE kk w13 [.int .i64 e.1, .int .i64 e.2.1, .bool e.2.2.1, .slice p1 e.2.2.2.1.length c1, .bool e.2.2.2.2.1, .slice y1 e.2.2.2.2.2.length d1] e := ⟨_, _, _, _, rfl, hi1, hi2, q1.raw.k, hx1, hx2⟩
   have hrow' : RowE (ExpE kk) w13 (l.take (z + 1)) (vs ++ [[.int .i64 e.1, .int .i64 e.2.1, .bool e.2.2.1, .slice p1 e.2.2.2.1.length c1, .bool e.2.2.2.2.1, .slice y1 e.2.2.2.2.2.length d1]]) := by
    rw [take_snoc_at he]
    exact (hrow.kp (exp_ok kk) (by (with_reducible (repeat (first | assumption | exact kU _ | exact kR _ | exact Kp.of (U := UU) (by assumption) | exact KpS.of (by assumption) | refine kT ?_ (by assumption)))))).snoc hI
   refine VS.back (N - (z + 1)) (by omega) ⟨_, _, ?_, ?_, ?_, ?_, ⟨z + 1, by omega, rfl, .inr ⟨by omega, vs ++ [[.int .i64 e.1, .int .i64 e.2.1, .bool e.2.2.1, .slice p1 e.2.2.2.1.length c1, .bool e.2.2.2.2.1, .slice y1 e.2.2.2.2.2.length d1]], spare', cap', rfl, rfl, hrow', by simpa using hlen2, by omega, hc2, hok', hlid'⟩⟩⟩
   ·refine ⟨rfl, rfl, ?_, trivial⟩
    rw [← nat_step (i := z) (by omega)]; rfl
   ·exact ⟨congrArg (fun l => some (_, l ++ spare')) (by simp), trivial⟩
   ·rfl
   ·exact ⟨.append (.vals _) (.none hlid'), trivial⟩
  ·refine VS.condN rfl (decide_eq_false (fun e => hlt (Int.ofNat_lt.1 e))) ?_
   obtain rfl : z = N := by omega
   (repeat first|refine wN ?_|refine wP rfl ?_|refine cx_r rfl ?_|refine cx_d rfl ?_|refine wO rfl rfl ?_)
   refine VS.retA (cx_ok _ _) rfl (fun wz β kz bz en => ?_)
   rw [List.take_of_length_le (by omega)] at hrow
   exact ⟨_, rfl, rowNew_own (en.own 30 _ _ rfl) (hrow.kp (exp_ok kk) kz) hN hzc hcc hlen', bz⟩
theorem same18_any (v u : Value) (l : List RExp) (kk jj : Nat) (w : World) (hv : SlIn (ExpE kk) 6 w v l) (hu : SlIn (ExpE jj) 6 w u l) :
  Calls Tryz.prog 32 #[v, u] w fun o w' => o = .returned (.bool true) ∧ Beh w w' := by
 obtain ⟨p, c, rfl, hnc, hcm⟩ := hv.form
 obtain ⟨p', c', rfl, hnc', hcm'⟩ := hu.form
 obtain ⟨N, hN⟩ : ∃ N, N = l.length := ⟨_, rfl⟩
 rw [← hN] at hv hnc hu hnc' ⊢
 refine calm_enter (C := cxOf Tryz.prog w _) (args := [_, _]) Tryz.func32 rfl Tryz.ntmps32 (Nat.le_of_ble_eq_true rfl) ?_
 (repeat first|refine wN ?_|refine wP rfl ?_|refine cx_r rfl ?_|refine cx_d rfl ?_|refine wO rfl rfl ?_)
 refine VS.condN rfl (by simp) ?_
 (repeat first|refine wN ?_|refine wP rfl ?_|refine cx_r rfl ?_|refine cx_d rfl ?_|refine wO rfl rfl ?_)
 refine VS.loop (J := fun m L M w' => ∃ z : Nat, z ≤ N ∧ m = N - z ∧ L = [(0, .val (.slice p N c)), (1, .val (.slice p' N c')), (5, .val (.int .i64 (z : Int)))] ∧ M = []) N ⟨_, _, ?_, ?_, ?_, ?_, ⟨0, by omega, rfl, rfl, rfl⟩⟩ ?_
 ·(repeat first|exact trivial|refine ⟨rfl, ?_⟩)
 ·(repeat first|exact trivial|refine ⟨rfl, ?_⟩)
 ·rfl
 ·(repeat first|exact trivial|refine ⟨ClosedC.lit rfl, ?_⟩|refine ⟨ClosedC.vals _, ?_⟩)
 rintro m L M wJ ⟨z, hz, rfl, rfl, rfl⟩
 (repeat first|refine wN ?_|refine wP rfl ?_|refine cx_r rfl ?_|refine cx_d rfl ?_|refine wO rfl rfl ?_)
 by_cases hlt : z < N
 ·obtain ⟨e, he⟩ : ∃ e, l[z]? = some e := ⟨_, List.getElem?_eq_getElem (by omega)⟩
  obtain ⟨b, off, cs', rfl, hc, hE⟩ := hv.at he
  obtain ⟨ep, ec, er, ed, rfl, hi1, hi2, hraw, hx1, hx2⟩ := hE
  obtain ⟨b', off', cs2, rfl, hc', hE'⟩ := hu.at he
  obtain ⟨ep', ec', er', ed', rfl, -, -, hraw', -⟩ := hE'
  refine VS.condY rfl (decide_eq_true (Int.ofNat_lt.2 hlt)) ?_
  (repeat first|refine wN ?_|refine wP rfl ?_|refine cx_r rfl ?_|refine cx_d rfl ?_|refine wO rfl rfl ?_)
  refine VO.cond rfl ⟨by omega, by omega⟩ ?_
  refine wV rfl ?_
  (repeat first|refine wN ?_|refine wP rfl ?_|refine cx_r rfl ?_|refine cx_d rfl ?_|refine wO rfl rfl ?_)
  refine VO.read rfl [.int .i64 e.1] rfl (cells_at hc 0 _ ⟨_, rfl⟩) (wV rfl ?_)
  (repeat first|refine wN ?_|refine wP rfl ?_|refine cx_r rfl ?_|refine cx_d rfl ?_|refine wO rfl rfl ?_)
  refine VO.cond rfl ⟨by omega, by omega⟩ ?_
  refine wV rfl ?_
  (repeat first|refine wN ?_|refine wP rfl ?_|refine cx_r rfl ?_|refine cx_d rfl ?_|refine wO rfl rfl ?_)
  refine VO.read rfl [.int .i64 e.1] rfl (cells_at hc' 0 _ ⟨_, rfl⟩) (wV rfl ?_)
  (repeat first|refine wN ?_|refine wP rfl ?_|refine cx_r rfl ?_|refine cx_d rfl ?_|refine wO rfl rfl ?_)
  refine VO.fix 28 rfl (congrArg (fun b => AV.val (.bool b)) (show (e.1 != e.1) = false by simp)) ?_
  (repeat first|refine wN ?_|refine wP rfl ?_|refine cx_r rfl ?_|refine cx_d rfl ?_|refine wO rfl rfl ?_)
  refine VO.cond rfl ⟨by omega, by omega⟩ ?_
  refine wV rfl ?_
  (repeat first|refine wN ?_|refine wP rfl ?_|refine cx_r rfl ?_|refine cx_d rfl ?_|refine wO rfl rfl ?_)
  refine VO.read rfl [.int .i64 e.2.1] rfl (cells_at hc 1 _ ⟨_, rfl⟩) (wV rfl ?_)
  (repeat first|refine wN ?_|refine wP rfl ?_|refine cx_r rfl ?_|refine cx_d rfl ?_|refine wO rfl rfl ?_)
  refine VO.cond rfl ⟨by omega, by omega⟩ ?_
  refine wV rfl ?_
  (repeat first|refine wN ?_|refine wP rfl ?_|refine cx_r rfl ?_|refine cx_d rfl ?_|refine wO rfl rfl ?_)
  refine VO.read rfl [.int .i64 e.2.1] rfl (cells_at hc' 1 _ ⟨_, rfl⟩) (wV rfl ?_)
  (repeat first|refine wN ?_|refine wP rfl ?_|refine cx_r rfl ?_|refine cx_d rfl ?_|refine wO rfl rfl ?_)
  refine VO.fix 41 rfl (congrArg (fun b => AV.val (.bool b)) (show (e.2.1 != e.2.1) = false by simp)) ?_
  (repeat first|refine wN ?_|refine wP rfl ?_|refine cx_r rfl ?_|refine cx_d rfl ?_|refine wO rfl rfl ?_)
  refine VO.cond rfl ⟨by omega, by omega⟩ ?_
  refine wV rfl ?_
  (repeat first|refine wN ?_|refine wP rfl ?_|refine cx_r rfl ?_|refine cx_d rfl ?_|refine wO rfl rfl ?_)
  refine VO.read rfl [.bool e.2.2.1, .slice ep e.2.2.2.1.length ec, .bool e.2.2.2.2.1, .slice er e.2.2.2.2.2.length ed] rfl (cells_at hc 2 _ ⟨[], rfl⟩) (wV rfl ?_)
  (repeat first|refine wN ?_|refine wP rfl ?_|refine cx_r rfl ?_|refine cx_d rfl ?_|refine wO rfl rfl ?_)
  refine VO.cond rfl ⟨by omega, by omega⟩ ?_
  refine wV rfl ?_
  (repeat first|refine wN ?_|refine wP rfl ?_|refine cx_r rfl ?_|refine cx_d rfl ?_|refine wO rfl rfl ?_)
  refine VO.read rfl [.bool e.2.2.1, .slice ep' e.2.2.2.1.length ec', .bool e.2.2.2.2.1, .slice er' e.2.2.2.2.2.length ed'] rfl (cells_at hc' 2 _ ⟨[], rfl⟩) (wV rfl ?_)
  (repeat first|refine wN ?_|refine wP rfl ?_|refine cx_r rfl ?_|refine cx_d rfl ?_|refine wO rfl rfl ?_)
  refine VO.call rfl rfl (fk Tryz.func29) (fun wa1 ka1 ba1 => (filIs_raw e.2.2.1 e.2.2.2.2.1 e.2.2.2.1 e.2.2.2.2.2 _ _ wa1 (hraw.kp (Kp.of (U := UU) ba1)) (hraw'.kp (Kp.of (U := UU) ba1))).mono ?_)
  rintro e w1 ⟨rfl, hb1⟩
  skip
  refine ⟨_, rfl, hb1, fun kb1 _ bb1 => wV rfl ?_⟩
  (repeat first|refine wN ?_|refine wP rfl ?_|refine cx_r rfl ?_|refine cx_d rfl ?_|refine wO rfl rfl ?_)
  refine VS.back (N - (z + 1)) (by omega) ⟨_, _, ?_, ?_, ?_, ?_, ⟨z + 1, by omega, rfl, rfl, rfl⟩⟩
  ·refine ⟨rfl, rfl, ?_, trivial⟩
   rw [← nat_step (i := z) (by omega)]; rfl
  ·(repeat first|exact trivial|refine ⟨rfl, ?_⟩)
  ·rfl
  ·(repeat first|exact trivial|refine ⟨ClosedC.lit rfl, ?_⟩|refine ⟨ClosedC.vals _, ?_⟩)
 ·refine VS.condN rfl (decide_eq_false (fun e => hlt (Int.ofNat_lt.1 e))) ?_
  (repeat first|refine wN ?_|refine wP rfl ?_|refine cx_r rfl ?_|refine cx_d rfl ?_|refine wO rfl rfl ?_)
  refine VS.ret (cx_ok _ _) rfl rfl (fun wz kz bz => ?_)
  exact ⟨rfl, bz⟩
end Go.Proofs.YtohlmpibnnkanaaGreat
