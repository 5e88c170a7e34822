/- The statements of layer 28: the chapter's brackets; works. -/
import Derived.Test.YtofdiijioejljaaGreatLaw28P
set_option linter.all false
set_option maxRecDepth 4000
namespace Go.Proofs.YtofdiijioejljaaGreat
open Go.RowKit
attribute [local irreducible] vcOps VS

theorem canon_rt (q : Rat) : rtB (decide (q.num < 0)) (limbs q.num.natAbs) (decide ((q.den : Int) < 0)) (limbs (q.den : Int).natAbs) = true := by
 unfold rtB
 rw [nright_canon q.num, nright_canon (q.den : Int), numOf_canon, numOf_canon]
 have h3 : (0 : Int) < q.den := by have := q.den_nz; omega
 have h4 : Int.gcd q.num q.den = 1 := by have := q.reduced; simpa [Int.gcd, Nat.Coprime] using this
 rw [decide_eq_true h3, decide_eq_true h4]; rfl
theorem canon_rq (q : Rat) : rq (decide (q.num < 0)) (limbs q.num.natAbs) (decide ((q.den : Int) < 0)) (limbs (q.den : Int).natAbs) = q := by
 unfold rq; rw [numOf_canon, numOf_canon, ratv_self]
def crr (q : Rat) : RR := (decide (q.num < 0), limbs q.num.natAbs, decide ((q.den : Int) < 0), limbs (q.den : Int).natAbs)
theorem crr_q (q : Rat) : (crr q).q = q := canon_rq q
theorem crr_ok (q : Rat) : (crr q).ok = true := canon_rt q
def nbr (ns : List Br) : List RBr := ns.map fun x => (crr x.1, crr x.2)
theorem nbr_brs (ns : List Br) : brs (nbr ns) = ns := by
 unfold brs nbr
 rw [List.map_map]
 conv => rhs; rw [← List.map_id ns]
 refine List.map_congr_left fun x _ => ?_
 show ((crr x.1).q, (crr x.2).q) = x
 rw [crr_q, crr_q]
def bokN (p : Option Br) (x : Br) : Bool := (decide (0 ≤ x.2) && decide (x.2 ≤ 1)) && match p with
 | none => decide (x.1 = 0)
 | some y => decide (y.1 < x.1)
def bprevN (l : List Br) : Nat → Option Br
 | 0 => none
 | i + 1 => l[i]?
def brightN (ns : List Br) : Bool := decide (0 < ns.length) && (List.range ns.length).all fun i => match ns[i]? with
 | some x => bokN (bprevN ns i) x
 | none => true
theorem nbr_at (ns : List Br) (i : Nat) : (nbr ns)[i]? = (ns[i]?).map fun x => (crr x.1, crr x.2) := by unfold nbr; rw [List.getElem?_map]
theorem bright_nbr (ns : List Br) : bright (nbr ns) = brightN ns := by
 unfold bright brightN
 have hl : (nbr ns).length = ns.length := by unfold nbr; rw [List.length_map]
 rw [hl]
 congr 1
 refine congrArg (List.all _) (funext fun i => ?_)
 rw [nbr_at]
 cases h : ns[i]? with
 | none => rfl
 | some x =>
  show bok (bprev (nbr ns) i) (crr x.1, crr x.2) = bokN (bprevN ns i) x
  unfold bok bokN
  rw [crr_ok, crr_ok, crr_q, crr_q]
  rw [Bool.and_self, Bool.true_and]
  congr 1
  cases i with
  | zero => rfl
  | succ j =>
   show bord ((nbr ns)[j]?) x.1 = match ns[j]? with | none => _ | some y => _
   rw [nbr_at]
   cases ns[j]? with
   | none => rfl
   | some y => show decide ((crr y.1).q < x.1) = _; rw [crr_q]
def taxN (ns : List Br) (a : Rat) : Rat := if brightN ns = true then btax a ns else 0
theorem taxq_nbr (ns : List Br) (a : Rat) : taxq (nbr ns) a = taxN ns a := by unfold taxq taxN; rw [bright_nbr, nbr_brs]
theorem tcode_nbr (ns : List Br) : tcode (nbr ns) = if brightN ns = true then 0 else 2 := by unfold tcode; rw [bright_nbr]
def rateN (ns : List Br) (a : Rat) : Rat := if brightN ns = true then brate a (match ns with | x :: _ => x.2 | [] => 0) ns else 0
theorem rateq_nbr (ns : List Br) (a : Rat) : rateq (nbr ns) a = rateN ns a := by
 unfold rateq rateN
 rw [bright_nbr, nbr_brs]
 cases ns with
 | nil => rfl
 | cons x r => show (if _ then brate a (crr x.2).q _ else _) = _; rw [crr_q]
def centsN (ns : List Br) (a : Rat) : Int := hf (taxN ns a * ((100 : Int) : Rat))
theorem centsq_nbr (ns : List Br) (a : Rat) : centsq (nbr ns) a = centsN ns a := by unfold centsq centsN; rw [taxq_nbr]
theorem crr_E {kk : Nat} {w : World} {q r : Rat} {s t s' t' : Bool} {p u p' u' : Option Addr} {a c b d a' c' b' d' : Nat} (h : RatRd w (.agg #[.bool s, .slice p a c, .bool t, .slice u b d]) q) (hs : RSz q kk) (h' : RatRd w (.agg #[.bool s', .slice p' a' c', .bool t', .slice u' b' d']) r) (hs' : RSz r kk) :
  BrE kk w [.bool s, .slice p a c, .bool t, .slice u b d, .bool s', .slice p' a' c', .bool t', .slice u' b' d'] (crr q, crr r) := by
 have hr := h.raw
 obtain ⟨_, _, _, _, hv, h1, h2⟩ := hr
 simp only [Value.agg.injEq, Array.mk.injEq, List.cons.injEq, Value.bool.injEq, Value.slice.injEq, and_true] at hv
 obtain ⟨rfl, ⟨rfl, rfl, rfl⟩, rfl, rfl, rfl, rfl⟩ := hv
 have hr' := h'.raw
 obtain ⟨_, _, _, _, hv', h1', h2'⟩ := hr'
 simp only [Value.agg.injEq, Array.mk.injEq, List.cons.injEq, Value.bool.injEq, Value.slice.injEq, and_true] at hv'
 obtain ⟨rfl, ⟨rfl, rfl, rfl⟩, rfl, rfl, rfl, rfl⟩ := hv'
 exact ⟨_, _, _, _, _, _, _, _, rfl, ⟨_, _, _, _, rfl, h1, h2⟩, ⟨_, _, _, _, rfl, h1', h2'⟩, hs.1, hs.2, hs'.1, hs'.2⟩
abbrev exN : List Br := [(Rat.divInt 0 1, Rat.divInt 1 10), (Rat.divInt 1000 1, Rat.divInt 51 200)]
def ex28 : List RBr := nbr exN
theorem ex28_any (w : World) : Calls Tryz.prog 37 #[] w fun o w' => ∃ r, o = .returned r ∧ RowNew (BrE 2) 8 59 w.heap.size w' r ex28 ∧ Beh w w' := by
 refine calm_enter (C := cxK Tryz.prog w _) (args := []) Tryz.func37 rfl Tryz.ntmps37 (Nat.le_of_ble_eq_true rfl) ?_
 (repeat first|refine wN ?_|refine wP rfl ?_|refine cxK_r rfl ?_|refine cxK_d rfl ?_|refine wO rfl rfl ?_)
 refine VO.call rfl rfl (fk Tryz.func36) (fun wa1 ka1 ba1 => (filBy_any 0 1 wa1 (by omega) (by omega) (by omega) (by omega)).mono ?_)
 rintro e w1 ⟨r1, rfl, q1, hb1⟩
 obtain ⟨s1, p1, n1, c1, t1, y1, m1, d1, rfl⟩ := q1.form
 refine ⟨_, rfl, hb1, fun kb1 _ bb1 => wV rfl ?_⟩
 (repeat first|refine wN ?_|refine wP rfl ?_|refine cxK_r rfl ?_|refine cxK_d rfl ?_|refine wO rfl rfl ?_)
 refine VO.call rfl rfl (fk Tryz.func36) (fun wa2 ka2 ba2 => (filBy_any 1 10 wa2 (by omega) (by omega) (by omega) (by omega)).mono ?_)
 rintro e w2 ⟨r2, rfl, q2, hb2⟩
 obtain ⟨s2, p2, n2, c2, t2, y2, m2, d2, rfl⟩ := q2.form
 refine ⟨_, rfl, hb2, fun kb2 _ bb2 => wV rfl ?_⟩
 (repeat first|refine wN ?_|refine wP rfl ?_|refine cxK_r rfl ?_|refine cxK_d rfl ?_|refine wO rfl rfl ?_)
 refine VO.call rfl rfl (fk Tryz.func36) (fun wa3 ka3 ba3 => (filBy_any 1000 1 wa3 (by omega) (by omega) (by omega) (by omega)).mono ?_)
 rintro e w3 ⟨r3, rfl, q3, hb3⟩
 obtain ⟨s3, p3, n3, c3, t3, y3, m3, d3, rfl⟩ := q3.form
 refine ⟨_, rfl, hb3, fun kb3 _ bb3 => wV rfl ?_⟩
 (repeat first|refine wN ?_|refine wP rfl ?_|refine cxK_r rfl ?_|refine cxK_d rfl ?_|refine wO rfl rfl ?_)
 refine VO.call rfl rfl (fk Tryz.func36) (fun wa4 ka4 ba4 => (filBy_any 51 200 wa4 (by omega) (by omega) (by omega) (by omega)).mono ?_)
 rintro e w4 ⟨r4, rfl, q4, hb4⟩
 obtain ⟨s4, p4, n4, c4, t4, y4, m4, d4, rfl⟩ := q4.form
 refine ⟨_, rfl, hb4, fun kb4 _ bb4 => wV rfl ?_⟩
 (repeat first|refine wN ?_|refine wP rfl ?_|refine cxK_r rfl ?_|refine cxK_d rfl ?_|refine wO rfl rfl ?_)
 refine VO.litE (cxK_ok _ _) (sz := 8) [.agg #[.bool s1, .slice p1 n1 c1, .bool t1, .slice y1 m1 d1, .bool s2, .slice p2 n2 c2, .bool t2, .slice y2 m2 d2], .agg #[.bool s3, .slice p3 n3 c3, .bool t3, .slice y3 m3 d3, .bool s4, .slice p4 n4 c4, .bool t4, .slice y4 m4 d4]] [.bool s1, .slice p1 n1 c1, .bool t1, .slice y1 m1 d1, .bool s2, .slice p2 n2 c2, .bool t2, .slice y2 m2 d2, .bool s3, .slice p3 n3 c3, .bool t3, .slice y3 m3 d3, .bool s4, .slice p4 n4 c4, .bool t4, .slice y4 m4 d4] rfl rfl rfl rfl rfl rfl rfl rfl rfl rfl (by decide) (fun w5 b5 kb5 bb5 hB5 hc5 => wV rfl ?_)
 (repeat first|refine wN ?_|refine wP rfl ?_|refine cxK_r rfl ?_|refine cxK_d rfl ?_|refine wO rfl rfl ?_)
 refine VS.ret (cxK_ok _ _) rfl rfl (fun wz kz bz => ?_)
 have hE1 : BrE 2 w5 [.bool s1, .slice p1 n1 c1, .bool t1, .slice y1 m1 d1, .bool s2, .slice p2 n2 c2, .bool t2, .slice y2 m2 d2] (crr (Rat.divInt 0 1), crr (Rat.divInt 1 10)) := crr_E q1.kr (i64_rsz (by omega) (by omega) (by omega) (by omega)) q2.kr (i64_rsz (by omega) (by omega) (by omega) (by omega))
 have hE2 : BrE 2 w5 [.bool s3, .slice p3 n3 c3, .bool t3, .slice y3 m3 d3, .bool s4, .slice p4 n4 c4, .bool t4, .slice y4 m4 d4] (crr (Rat.divInt 1000 1), crr (Rat.divInt 51 200)) := crr_E q3.kr (i64_rsz (by omega) (by omega) (by omega) (by omega)) q4.kr (i64_rsz (by omega) (by omega) (by omega) (by omega))
 exact ⟨_, rfl, .inr ⟨b5, 2, [[.bool s1, .slice p1 n1 c1, .bool t1, .slice y1 m1 d1, .bool s2, .slice p2 n2 c2, .bool t2, .slice y2 m2 d2], [.bool s3, .slice p3 n3 c3, .bool t3, .slice y3 m3 d3, .bool s4, .slice p4 n4 c4, .bool t4, .slice y4 m4 d4]], [], rfl, hB5, kz.block _ b5 _ rfl trivial hc5, RowE.cons (hE1.kp kz) (RowE.cons (hE2.kp kz) RowE.nil), rfl, by decide, by decide, rfl⟩, bz⟩
end Go.Proofs.YtofdiijioejljaaGreat
/- The statements of layer 28: works. (Printed by gen28d.py.) -/
namespace Go.Proofs.YtofdiijioejljaaGreat
open Go.RowKit
attribute [local irreducible] vcOps VS

theorem ex28_bright : brightN exN = true := by decide +kernel
theorem ex28_code : tcode ex28 = 0 := by show tcode (nbr exN) = 0; rw [tcode_nbr, if_pos ex28_bright]
theorem ex28_t (a r : Rat) (h : taxN exN a = r) : taxq ex28 a = r := by show taxq (nbr exN) a = r; rw [taxq_nbr, h]
theorem ex28_c (a : Rat) (X : Int) (h : centsN exN a = X) : centsq ex28 a = X := by show centsq (nbr exN) a = X; rw [centsq_nbr, h]
theorem ex28_r (a r : Rat) (h : rateN exN a = r) : rateq ex28 a = r := by show rateq (nbr exN) a = r; rw [rateq_nbr, h]
theorem bTax_ok (v u : Value) (l : List RBr) (kk K : Nat) (a : Rat) (w : World) (hv : SlIn (BrE kk) 8 w v l) (hu : RatIn w u a kk) (hk1 : 1 ≤ kk) (hk : kk ≤ 1000) (hn : l.length ≤ 64) (c : Int) (hc : tcode l = c) (r : Rat) (hr : taxq l a = r) (hK : tsz l.length kk ≤ K) :
  Calls Tryz.prog 11 #[v, u] w fun o w' => ∃ x, o = .returned (.tuple #[x, .int .i64 c]) ∧ RatOwn w' w.heap.size x r ∧ RSz r K ∧ Beh w w' := by
 subst hc hr
 refine (bTax_any v u l kk a w hv hu hk1 hk hn).mono ?_
 rintro o w' ⟨x, rfl, h1, h2, h3⟩
 exact ⟨x, rfl, h1, h2.mono hK, h3⟩
theorem bCents_ok (v u : Value) (l : List RBr) (kk K : Nat) (a : Rat) (w : World) (hv : SlIn (BrE kk) 8 w v l) (hu : RatIn w u a kk) (hk1 : 1 ≤ kk) (hk : kk ≤ 1000) (hn : l.length ≤ 64) (c : Int) (hc : tcode l = c) (X : Int) (hX : centsq l a = X) (hK : tsz l.length kk + 2 ≤ K) :
  Calls Tryz.prog 12 #[v, u] w fun o w' => ∃ x, o = .returned (.tuple #[x, .int .i64 c]) ∧ IntOwn w' w.heap.size x X ∧ Sz X K ∧ Beh w w' := by
 subst hc hX
 refine (bCents_any v u l kk a w hv hu hk1 hk hn).mono ?_
 rintro o w' ⟨x, rfl, h1, h2, h3⟩
 exact ⟨x, rfl, h1, h2.mono hK, h3⟩
theorem bRate_ok (v u : Value) (l : List RBr) (kk : Nat) (a : Rat) (w : World) (hv : SlIn (BrE kk) 8 w v l) (hu : RatIn w u a kk) (hk1 : 1 ≤ kk) (hk : kk ≤ 1000) (hn : l.length ≤ 64) (c : Int) (hc : tcode l = c) (r : Rat) (hr : rateq l a = r) :
  Calls Tryz.prog 13 #[v, u] w fun o w' => ∃ x, o = .returned (.tuple #[x, .int .i64 c]) ∧ RatOwn w' w.heap.size x r ∧ RSz r kk ∧ Beh w w' := by
 subst hc hr
 exact bRate_any v u l kk a w hv hu hk1 hk hn
theorem bRefund_ok (v u u' : Value) (l : List RBr) (kk K : Nat) (a b : Rat) (w : World) (hv : SlIn (BrE kk) 8 w v l) (hu : RatIn w u a kk) (hu' : RatIn w u' b kk) (hk1 : 1 ≤ kk) (hk : kk ≤ 1000) (hn : l.length ≤ 64) (c : Int) (hc : tcode l = c) (X : Int) (hX : centsq l a - centsq l b = X) (hK : tsz l.length kk + 3 ≤ K) :
  Calls Tryz.prog 14 #[v, u, u'] w fun o w' => ∃ x, o = .returned (.tuple #[x, .int .i64 c]) ∧ IntOwn w' w.heap.size x X ∧ Sz X K ∧ Beh w w' := by
 subst hc hX
 refine (bRefund_any v u u' l kk a b w hv hu hu' hk1 hk hn).mono ?_
 rintro o w' ⟨x, rfl, h1, h2, h3⟩
 exact ⟨x, rfl, h1, h2.mono hK, h3⟩
theorem bcmp_ok (v u : Value) (X Y : Int) (j k : Nat) (w : World) (hv : IntIn w v X j) (hu : IntIn w u Y k) (hj : j ≤ 1073741824) (hk : k ≤ 1073741824) (c : Int) (hc : (X - Y).sign = c) :
  Calls Tryz.prog 34 #[v, u] w fun e w' => e = .returned (.int .i64 c) ∧ Beh w w' := hc ▸ bcmp_any v u X Y j k w hv hu hj hk
set_option maxRecDepth 4000 in
set_option maxHeartbeats 4000000 in
theorem works28_any (w : World) : Calls Tryz.prog 8 #[] w fun e w' => e = .returned (.bool true) ∧ Beh w w' := by
 refine calm_enter (C := cxK Tryz.prog w _) (args := []) Tryz.func8 rfl Tryz.ntmps8 (Nat.le_of_ble_eq_true rfl) ?_
 (repeat first|refine wN ?_|refine wP rfl ?_|refine cxK_r rfl ?_|refine cxK_d rfl ?_|refine wO rfl rfl ?_)
 refine VO.call rfl rfl (fk Tryz.func37) (fun wa1 ka1 ba1 => (ex28_any wa1).mono ?_)
 rintro e w1 ⟨r1, rfl, q1, hb1⟩
 obtain ⟨pe, ce, rfl⟩ := q1.form
 refine ⟨_, rfl, hb1, fun kb1 _ bb1 => wV rfl ?_⟩
 (repeat first|refine wN ?_|refine wP rfl ?_|refine cxK_r rfl ?_|refine cxK_d rfl ?_|refine wO rfl rfl ?_)
 refine VO.call rfl rfl (fk Tryz.func36) (fun wa2 ka2 ba2 => (filBy_any 400 1 wa2 (by omega) (by omega) (by omega) (by omega)).mono ?_)
 rintro e w2 ⟨r2, rfl, q2, hb2⟩
 obtain ⟨s2, p2, n2, c2, t2, y2, m2, d2, rfl⟩ := q2.form
 refine ⟨_, rfl, hb2, fun kb2 _ bb2 => wV rfl ?_⟩
 (repeat first|refine wN ?_|refine wP rfl ?_|refine cxK_r rfl ?_|refine cxK_d rfl ?_|refine wO rfl rfl ?_)
 refine VO.call rfl rfl (fk Tryz.func11) (fun wa3 ka3 ba3 => (bTax_ok _ _ ex28 2 32 (Rat.divInt 400 1) wa3 ((q1.kp (br_ok 2) (by (with_reducible (repeat (first | assumption | exact kU _ | exact kR _ | exact Kp.of (U := UU) (by assumption) | exact KpS.of (by assumption) | refine kT ?_ (by assumption))))) rfl).sl (br_ok 2)) (q2.ki (i64_rsz (by omega) (by omega) (by omega) (by omega))) (by omega) (by omega) (by decide) 0 ex28_code (Rat.divInt 40 1) (ex28_t _ _ (by decide +kernel)) (by decide)).mono ?_)
 rintro e w3 ⟨r3, rfl, q3, z3, hb3⟩
 obtain ⟨s3, p3, n3, c3, t3, y3, m3, d3, rfl⟩ := q3.form
 refine ⟨_, rfl, hb3, fun kb3 _ bb3 => wV rfl ?_⟩
 (repeat first|refine wN ?_|refine wP rfl ?_|refine cxK_r rfl ?_|refine cxK_d rfl ?_|refine wO rfl rfl ?_)
 refine VO.call rfl rfl (fk Tryz.func36) (fun wa4 ka4 ba4 => (filBy_any 1000 1 wa4 (by omega) (by omega) (by omega) (by omega)).mono ?_)
 rintro e w4 ⟨r4, rfl, q4, hb4⟩
 obtain ⟨s4, p4, n4, c4, t4, y4, m4, d4, rfl⟩ := q4.form
 refine ⟨_, rfl, hb4, fun kb4 _ bb4 => wV rfl ?_⟩
 (repeat first|refine wN ?_|refine wP rfl ?_|refine cxK_r rfl ?_|refine cxK_d rfl ?_|refine wO rfl rfl ?_)
 refine VO.call rfl rfl (fk Tryz.func11) (fun wa5 ka5 ba5 => (bTax_ok _ _ ex28 2 32 (Rat.divInt 1000 1) wa5 ((q1.kp (br_ok 2) (by (with_reducible (repeat (first | assumption | exact kU _ | exact kR _ | exact Kp.of (U := UU) (by assumption) | exact KpS.of (by assumption) | refine kT ?_ (by assumption))))) rfl).sl (br_ok 2)) (q4.ki (i64_rsz (by omega) (by omega) (by omega) (by omega))) (by omega) (by omega) (by decide) 0 ex28_code (Rat.divInt 100 1) (ex28_t _ _ (by decide +kernel)) (by decide)).mono ?_)
 rintro e w5 ⟨r5, rfl, q5, z5, hb5⟩
 obtain ⟨s5, p5, n5, c5, t5, y5, m5, d5, rfl⟩ := q5.form
 refine ⟨_, rfl, hb5, fun kb5 _ bb5 => wV rfl ?_⟩
 (repeat first|refine wN ?_|refine wP rfl ?_|refine cxK_r rfl ?_|refine cxK_d rfl ?_|refine wO rfl rfl ?_)
 refine VO.call rfl rfl (fk Tryz.func36) (fun wa6 ka6 ba6 => (filBy_any 1001 1 wa6 (by omega) (by omega) (by omega) (by omega)).mono ?_)
 rintro e w6 ⟨r6, rfl, q6, hb6⟩
 obtain ⟨s6, p6, n6, c6, t6, y6, m6, d6, rfl⟩ := q6.form
 refine ⟨_, rfl, hb6, fun kb6 _ bb6 => wV rfl ?_⟩
 (repeat first|refine wN ?_|refine wP rfl ?_|refine cxK_r rfl ?_|refine cxK_d rfl ?_|refine wO rfl rfl ?_)
 refine VO.call rfl rfl (fk Tryz.func11) (fun wa7 ka7 ba7 => (bTax_ok _ _ ex28 2 32 (Rat.divInt 1001 1) wa7 ((q1.kp (br_ok 2) (by (with_reducible (repeat (first | assumption | exact kU _ | exact kR _ | exact Kp.of (U := UU) (by assumption) | exact KpS.of (by assumption) | refine kT ?_ (by assumption))))) rfl).sl (br_ok 2)) (q6.ki (i64_rsz (by omega) (by omega) (by omega) (by omega))) (by omega) (by omega) (by decide) 0 ex28_code (Rat.divInt 100255 1000) (ex28_t _ _ (by decide +kernel)) (by decide)).mono ?_)
 rintro e w7 ⟨r7, rfl, q7, z7, hb7⟩
 obtain ⟨s7, p7, n7, c7, t7, y7, m7, d7, rfl⟩ := q7.form
 refine ⟨_, rfl, hb7, fun kb7 _ bb7 => wV rfl ?_⟩
 (repeat first|refine wN ?_|refine wP rfl ?_|refine cxK_r rfl ?_|refine cxK_d rfl ?_|refine wO rfl rfl ?_)
 refine VO.call rfl rfl (fk Tryz.func36) (fun wa8 ka8 ba8 => (filBy_any (-5) 1 wa8 (by omega) (by omega) (by omega) (by omega)).mono ?_)
 rintro e w8 ⟨r8, rfl, q8, hb8⟩
 obtain ⟨s8, p8, n8, c8, t8, y8, m8, d8, rfl⟩ := q8.form
 refine ⟨_, rfl, hb8, fun kb8 _ bb8 => wV rfl ?_⟩
 (repeat first|refine wN ?_|refine wP rfl ?_|refine cxK_r rfl ?_|refine cxK_d rfl ?_|refine wO rfl rfl ?_)
 refine VO.call rfl rfl (fk Tryz.func11) (fun wa9 ka9 ba9 => (bTax_ok _ _ ex28 2 32 (Rat.divInt (-5) 1) wa9 ((q1.kp (br_ok 2) (by (with_reducible (repeat (first | assumption | exact kU _ | exact kR _ | exact Kp.of (U := UU) (by assumption) | exact KpS.of (by assumption) | refine kT ?_ (by assumption))))) rfl).sl (br_ok 2)) (q8.ki (i64_rsz (by omega) (by omega) (by omega) (by omega))) (by omega) (by omega) (by decide) 0 ex28_code 0 (ex28_t _ _ (by decide +kernel)) (by decide)).mono ?_)
 rintro e w9 ⟨r9, rfl, q9, z9, hb9⟩
 obtain ⟨s9, p9, n9, c9, t9, y9, m9, d9, rfl⟩ := q9.form
 refine ⟨_, rfl, hb9, fun kb9 _ bb9 => wV rfl ?_⟩
 (repeat first|refine wN ?_|refine wP rfl ?_|refine cxK_r rfl ?_|refine cxK_d rfl ?_|refine wO rfl rfl ?_)
 refine VO.call rfl rfl (fk Tryz.func36) (fun wa10 ka10 ba10 => (filBy_any 1001 1 wa10 (by omega) (by omega) (by omega) (by omega)).mono ?_)
 rintro e w10 ⟨r10, rfl, q10, hb10⟩
 obtain ⟨s10, p10, n10, c10, t10, y10, m10, d10, rfl⟩ := q10.form
 refine ⟨_, rfl, hb10, fun kb10 _ bb10 => wV rfl ?_⟩
 (repeat first|refine wN ?_|refine wP rfl ?_|refine cxK_r rfl ?_|refine cxK_d rfl ?_|refine wO rfl rfl ?_)
 refine VO.call rfl rfl (fk Tryz.func12) (fun wa11 ka11 ba11 => (bCents_ok _ _ ex28 2 32 (Rat.divInt 1001 1) wa11 ((q1.kp (br_ok 2) (by (with_reducible (repeat (first | assumption | exact kU _ | exact kR _ | exact Kp.of (U := UU) (by assumption) | exact KpS.of (by assumption) | refine kT ?_ (by assumption))))) rfl).sl (br_ok 2)) (q10.ki (i64_rsz (by omega) (by omega) (by omega) (by omega))) (by omega) (by omega) (by decide) 0 ex28_code 10026 (ex28_c _ _ (by decide +kernel)) (by decide)).mono ?_)
 rintro e w11 ⟨r11, rfl, q11, z11, hb11⟩
 obtain ⟨s11, p11, n11, c11, rfl⟩ := q11.form
 refine ⟨_, rfl, hb11, fun kb11 _ bb11 => wV rfl ?_⟩
 (repeat first|refine wN ?_|refine wP rfl ?_|refine cxK_r rfl ?_|refine cxK_d rfl ?_|refine wO rfl rfl ?_)
 refine VO.call rfl rfl (fk Tryz.func36) (fun wa12 ka12 ba12 => (filBy_any 1000 1 wa12 (by omega) (by omega) (by omega) (by omega)).mono ?_)
 rintro e w12 ⟨r12, rfl, q12, hb12⟩
 obtain ⟨s12, p12, n12, c12, t12, y12, m12, d12, rfl⟩ := q12.form
 refine ⟨_, rfl, hb12, fun kb12 _ bb12 => wV rfl ?_⟩
 (repeat first|refine wN ?_|refine wP rfl ?_|refine cxK_r rfl ?_|refine cxK_d rfl ?_|refine wO rfl rfl ?_)
 refine VO.call rfl rfl (fk Tryz.func13) (fun wa13 ka13 ba13 => (bRate_ok _ _ ex28 2 (Rat.divInt 1000 1) wa13 ((q1.kp (br_ok 2) (by (with_reducible (repeat (first | assumption | exact kU _ | exact kR _ | exact Kp.of (U := UU) (by assumption) | exact KpS.of (by assumption) | refine kT ?_ (by assumption))))) rfl).sl (br_ok 2)) (q12.ki (i64_rsz (by omega) (by omega) (by omega) (by omega))) (by omega) (by omega) (by decide) 0 ex28_code (Rat.divInt 51 200) (ex28_r _ _ (by decide +kernel))).mono ?_)
 rintro e w13 ⟨r13, rfl, q13, z13, hb13⟩
 obtain ⟨s13, p13, n13, c13, t13, y13, m13, d13, rfl⟩ := q13.form
 refine ⟨_, rfl, hb13, fun kb13 _ bb13 => wV rfl ?_⟩
 (repeat first|refine wN ?_|refine wP rfl ?_|refine cxK_r rfl ?_|refine cxK_d rfl ?_|refine wO rfl rfl ?_)
 refine VO.call rfl rfl (fk Tryz.func36) (fun wa14 ka14 ba14 => (filBy_any 1001 1 wa14 (by omega) (by omega) (by omega) (by omega)).mono ?_)
 rintro e w14 ⟨r14, rfl, q14, hb14⟩
 obtain ⟨s14, p14, n14, c14, t14, y14, m14, d14, rfl⟩ := q14.form
 refine ⟨_, rfl, hb14, fun kb14 _ bb14 => wV rfl ?_⟩
 (repeat first|refine wN ?_|refine wP rfl ?_|refine cxK_r rfl ?_|refine cxK_d rfl ?_|refine wO rfl rfl ?_)
 refine VO.call rfl rfl (fk Tryz.func36) (fun wa15 ka15 ba15 => (filBy_any 400 1 wa15 (by omega) (by omega) (by omega) (by omega)).mono ?_)
 rintro e w15 ⟨r15, rfl, q15, hb15⟩
 obtain ⟨s15, p15, n15, c15, t15, y15, m15, d15, rfl⟩ := q15.form
 refine ⟨_, rfl, hb15, fun kb15 _ bb15 => wV rfl ?_⟩
 (repeat first|refine wN ?_|refine wP rfl ?_|refine cxK_r rfl ?_|refine cxK_d rfl ?_|refine wO rfl rfl ?_)
 refine VO.call rfl rfl (fk Tryz.func14) (fun wa16 ka16 ba16 => (bRefund_ok _ _ _ ex28 2 32 (Rat.divInt 1001 1) (Rat.divInt 400 1) wa16 ((q1.kp (br_ok 2) (by (with_reducible (repeat (first | assumption | exact kU _ | exact kR _ | exact Kp.of (U := UU) (by assumption) | exact KpS.of (by assumption) | refine kT ?_ (by assumption))))) rfl).sl (br_ok 2)) (q14.ki (i64_rsz (by omega) (by omega) (by omega) (by omega))) (q15.ki (i64_rsz (by omega) (by omega) (by omega) (by omega))) (by omega) (by omega) (by decide) 0 ex28_code 6026 (by rw [ex28_c (Rat.divInt 1001 1) 10026 (by decide +kernel), ex28_c (Rat.divInt 400 1) 4000 (by decide +kernel)]; rfl) (by decide)).mono ?_)
 rintro e w16 ⟨r16, rfl, q16, z16, hb16⟩
 obtain ⟨s16, p16, n16, c16, rfl⟩ := q16.form
 refine ⟨_, rfl, hb16, fun kb16 _ bb16 => wV rfl ?_⟩
 (repeat first|refine wN ?_|refine wP rfl ?_|refine cxK_r rfl ?_|refine cxK_d rfl ?_|refine wO rfl rfl ?_)
 refine VO.call rfl rfl (fk Tryz.func36) (fun wa17 ka17 ba17 => (filBy_any 40 1 wa17 (by omega) (by omega) (by omega) (by omega)).mono ?_)
 rintro e w17 ⟨r17, rfl, q17, hb17⟩
 obtain ⟨s17, p17, n17, c17, t17, y17, m17, d17, rfl⟩ := q17.form
 refine ⟨_, rfl, hb17, fun kb17 _ bb17 => wV rfl ?_⟩
 (repeat first|refine wN ?_|refine wP rfl ?_|refine cxK_r rfl ?_|refine cxK_d rfl ?_|refine wO rfl rfl ?_)
 refine VO.call rfl rfl (fk Tryz.func27) (fun wa18 ka18 ba18 => (ratCmp_ok _ _ (Rat.divInt 40 1) (Rat.divInt 40 1) 32 2 wa18 (q3.ki z3) (q17.ki (i64_rsz (by omega) (by omega) (by omega) (by omega))) (by decide) (by decide) 0 (rcmp_eq rfl)).mono ?_)
 rintro e w18 ⟨rfl, hb18⟩
 skip
 refine ⟨_, rfl, hb18, fun kb18 _ bb18 => wV rfl ?_⟩
 (repeat first|refine wN ?_|refine wP rfl ?_|refine cxK_r rfl ?_|refine cxK_d rfl ?_|refine wO rfl rfl ?_)
 refine VO.call rfl rfl (fk Tryz.func36) (fun wa19 ka19 ba19 => (filBy_any 100 1 wa19 (by omega) (by omega) (by omega) (by omega)).mono ?_)
 rintro e w19 ⟨r19, rfl, q19, hb19⟩
 obtain ⟨s19, p19, n19, c19, t19, y19, m19, d19, rfl⟩ := q19.form
 refine ⟨_, rfl, hb19, fun kb19 _ bb19 => wV rfl ?_⟩
 (repeat first|refine wN ?_|refine wP rfl ?_|refine cxK_r rfl ?_|refine cxK_d rfl ?_|refine wO rfl rfl ?_)
 refine VO.call rfl rfl (fk Tryz.func27) (fun wa20 ka20 ba20 => (ratCmp_ok _ _ (Rat.divInt 100 1) (Rat.divInt 100 1) 32 2 wa20 (q5.ki z5) (q19.ki (i64_rsz (by omega) (by omega) (by omega) (by omega))) (by decide) (by decide) 0 (rcmp_eq rfl)).mono ?_)
 rintro e w20 ⟨rfl, hb20⟩
 skip
 refine ⟨_, rfl, hb20, fun kb20 _ bb20 => wV rfl ?_⟩
 (repeat first|refine wN ?_|refine wP rfl ?_|refine cxK_r rfl ?_|refine cxK_d rfl ?_|refine wO rfl rfl ?_)
 refine VO.call rfl rfl (fk Tryz.func36) (fun wa21 ka21 ba21 => (filBy_any 100255 1000 wa21 (by omega) (by omega) (by omega) (by omega)).mono ?_)
 rintro e w21 ⟨r21, rfl, q21, hb21⟩
 obtain ⟨s21, p21, n21, c21, t21, y21, m21, d21, rfl⟩ := q21.form
 refine ⟨_, rfl, hb21, fun kb21 _ bb21 => wV rfl ?_⟩
 (repeat first|refine wN ?_|refine wP rfl ?_|refine cxK_r rfl ?_|refine cxK_d rfl ?_|refine wO rfl rfl ?_)
 refine VO.call rfl rfl (fk Tryz.func27) (fun wa22 ka22 ba22 => (ratCmp_ok _ _ (Rat.divInt 100255 1000) (Rat.divInt 100255 1000) 32 2 wa22 (q7.ki z7) (q21.ki (i64_rsz (by omega) (by omega) (by omega) (by omega))) (by decide) (by decide) 0 (rcmp_eq rfl)).mono ?_)
 rintro e w22 ⟨rfl, hb22⟩
 skip
 refine ⟨_, rfl, hb22, fun kb22 _ bb22 => wV rfl ?_⟩
 (repeat first|refine wN ?_|refine wP rfl ?_|refine cxK_r rfl ?_|refine cxK_d rfl ?_|refine wO rfl rfl ?_)
 refine VO.call rfl rfl (fk Tryz.func21) (fun wa23 ka23 ba23 => (ratSign_ok _ 0 32 wa23 (q9.ki z9) (by decide) 0 (rcmp_eq rfl)).mono ?_)
 rintro e w23 ⟨rfl, hb23⟩
 skip
 refine ⟨_, rfl, hb23, fun kb23 _ bb23 => wV rfl ?_⟩
 (repeat first|refine wN ?_|refine wP rfl ?_|refine cxK_r rfl ?_|refine cxK_d rfl ?_|refine wO rfl rfl ?_)
 refine VO.call rfl rfl (fk Tryz.func21) (fun wa24 ka24 ba24 => (ratSign_ok _ (Rat.divInt 100255 1000) 32 wa24 (q7.ki z7) (by decide) 1 (by decide +kernel)).mono ?_)
 rintro e w24 ⟨rfl, hb24⟩
 skip
 refine ⟨_, rfl, hb24, fun kb24 _ bb24 => wV rfl ?_⟩
 (repeat first|refine wN ?_|refine wP rfl ?_|refine cxK_r rfl ?_|refine cxK_d rfl ?_|refine wO rfl rfl ?_)
 refine VO.call rfl rfl (fk Tryz.func38) (fun wa25 ka25 ba25 => (bOf_any 10026 wa25 (by omega) (by omega)).mono ?_)
 rintro e w25 ⟨r25, rfl, q25, hb25⟩
 obtain ⟨s25, p25, n25, c25, rfl⟩ := q25.form
 refine ⟨_, rfl, hb25, fun kb25 _ bb25 => wV rfl ?_⟩
 (repeat first|refine wN ?_|refine wP rfl ?_|refine cxK_r rfl ?_|refine cxK_d rfl ?_|refine wO rfl rfl ?_)
 refine VO.call rfl rfl (fk Tryz.func34) (fun wa26 ka26 ba26 => (bcmp_ok _ _ 10026 10026 32 1 wa26 (q11.ki z11) (q25.ki (Sz.small (by decide))) (by decide) (by decide) 0 rfl).mono ?_)
 rintro e w26 ⟨rfl, hb26⟩
 skip
 refine ⟨_, rfl, hb26, fun kb26 _ bb26 => wV rfl ?_⟩
 (repeat first|refine wN ?_|refine wP rfl ?_|refine cxK_r rfl ?_|refine cxK_d rfl ?_|refine wO rfl rfl ?_)
 refine VO.call rfl rfl (fk Tryz.func36) (fun wa27 ka27 ba27 => (filBy_any 51 200 wa27 (by omega) (by omega) (by omega) (by omega)).mono ?_)
 rintro e w27 ⟨r27, rfl, q27, hb27⟩
 obtain ⟨s27, p27, n27, c27, t27, y27, m27, d27, rfl⟩ := q27.form
 refine ⟨_, rfl, hb27, fun kb27 _ bb27 => wV rfl ?_⟩
 (repeat first|refine wN ?_|refine wP rfl ?_|refine cxK_r rfl ?_|refine cxK_d rfl ?_|refine wO rfl rfl ?_)
 refine VO.call rfl rfl (fk Tryz.func27) (fun wa28 ka28 ba28 => (ratCmp_ok _ _ (Rat.divInt 51 200) (Rat.divInt 51 200) 2 2 wa28 (q13.ki z13) (q27.ki (i64_rsz (by omega) (by omega) (by omega) (by omega))) (by decide) (by decide) 0 (rcmp_eq rfl)).mono ?_)
 rintro e w28 ⟨rfl, hb28⟩
 skip
 refine ⟨_, rfl, hb28, fun kb28 _ bb28 => wV rfl ?_⟩
 (repeat first|refine wN ?_|refine wP rfl ?_|refine cxK_r rfl ?_|refine cxK_d rfl ?_|refine wO rfl rfl ?_)
 refine VO.call rfl rfl (fk Tryz.func38) (fun wa29 ka29 ba29 => (bOf_any 6026 wa29 (by omega) (by omega)).mono ?_)
 rintro e w29 ⟨r29, rfl, q29, hb29⟩
 obtain ⟨s29, p29, n29, c29, rfl⟩ := q29.form
 refine ⟨_, rfl, hb29, fun kb29 _ bb29 => wV rfl ?_⟩
 (repeat first|refine wN ?_|refine wP rfl ?_|refine cxK_r rfl ?_|refine cxK_d rfl ?_|refine wO rfl rfl ?_)
 refine VO.call rfl rfl (fk Tryz.func34) (fun wa30 ka30 ba30 => (bcmp_ok _ _ 6026 6026 32 1 wa30 (q16.ki z16) (q29.ki (Sz.small (by decide))) (by decide) (by decide) 0 rfl).mono ?_)
 rintro e w30 ⟨rfl, hb30⟩
 skip
 refine ⟨_, rfl, hb30, fun kb30 _ bb30 => wV rfl ?_⟩
 (repeat first|refine wN ?_|refine wP rfl ?_|refine cxK_r rfl ?_|refine cxK_d rfl ?_|refine wO rfl rfl ?_)
 refine VS.ret (cxK_ok _ _) rfl rfl (fun wz kz bz => ?_)
 exact ⟨rfl, bz⟩
end Go.Proofs.YtofdiijioejljaaGreat
