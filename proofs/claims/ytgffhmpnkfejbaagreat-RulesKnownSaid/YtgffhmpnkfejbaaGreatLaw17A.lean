/- What the small functions of the statements about rules compute: is, short, few, refs, ref, item, parts, works. -/
import Derived.Test.YtgffhmpnkfejbaaGreatRef17
import Derived.Test.YtgffhmpnkfejbaaGreatFil
set_option linter.all false
namespace Go.Proofs.YtgffhmpnkfejbaaGreat
open Go.RowKit
attribute [local irreducible] vcOps VS

theorem is17_any (P : Pt) (v u : Value) (w : World) (hv : PtRd w v P) (hu : PtRd w u P) :
    Calls Tryz.prog 13 #[v, u] w fun e w' => e = .returned (.bool true) ∧ Beh w w' := by
  obtain ⟨s8a, p8a, n8a, c8a, t8a, y8a, m8a, d8a, s8b, p8b, n8b, c8b, t8b, y8b, m8b, d8b, s8c, p8c, n8c, c8c, t8c, y8c, m8c, d8c, s8d, p8d, n8d, c8d, t8d, y8d, m8d, d8d, rfl, q8A, q8B, q8C, q8D⟩ := hv
  obtain ⟨s9a, p9a, n9a, c9a, t9a, y9a, m9a, d9a, s9b, p9b, n9b, c9b, t9b, y9b, m9b, d9b, s9c, p9c, n9c, c9c, t9c, y9c, m9c, d9c, s9d, p9d, n9d, c9d, t9d, y9d, m9d, d9d, rfl, q9A, q9B, q9C, q9D⟩ := hu
  refine calm_enter (C := cxOf Tryz.prog w _) (args := [_, _]) Tryz.func13 rfl Tryz.ntmps13 (Nat.le_of_ble_eq_true rfl) ?_
  (repeat (first | refine wN ?_ | refine wP rfl ?_ | refine cx_r rfl ?_ | refine cx_d (by kernel_rfl) rfl ?_ | refine wO rfl rfl ?_))
  refine VO.call rfl rfl (fk Tryz.func14) (fun wa1 ka1 ba1 => (filIs_any _ _ _ wa1 (q8A.kp (by (with_reducible (repeat (first | assumption | exact kU _ | exact kR _ | refine kT ?_ (by assumption)))))) (q9A.kp (by (with_reducible (repeat (first | assumption | exact kU _ | exact kR _ | refine kT ?_ (by assumption))))))).mono ?_)
  rintro e w1 ⟨rfl, hb1⟩
  skip
  refine ⟨_, rfl, hb1, fun kb1 _ bb1 => wV rfl ?_⟩
  (repeat (first | refine wN ?_ | refine wP rfl ?_ | refine cx_r rfl ?_ | refine cx_d (by kernel_rfl) rfl ?_ | refine wO rfl rfl ?_))
  refine VO.call rfl rfl (fk Tryz.func14) (fun wa2 ka2 ba2 => (filIs_any _ _ _ wa2 (q8B.kp (by (with_reducible (repeat (first | assumption | exact kU _ | exact kR _ | refine kT ?_ (by assumption)))))) (q9B.kp (by (with_reducible (repeat (first | assumption | exact kU _ | exact kR _ | refine kT ?_ (by assumption))))))).mono ?_)
  rintro e w2 ⟨rfl, hb2⟩
  skip
  refine ⟨_, rfl, hb2, fun kb2 _ bb2 => wV rfl ?_⟩
  (repeat (first | refine wN ?_ | refine wP rfl ?_ | refine cx_r rfl ?_ | refine cx_d (by kernel_rfl) rfl ?_ | refine wO rfl rfl ?_))
  refine VO.call rfl rfl (fk Tryz.func14) (fun wa3 ka3 ba3 => (filIs_any _ _ _ wa3 (q8C.kp (by (with_reducible (repeat (first | assumption | exact kU _ | exact kR _ | refine kT ?_ (by assumption)))))) (q9C.kp (by (with_reducible (repeat (first | assumption | exact kU _ | exact kR _ | refine kT ?_ (by assumption))))))).mono ?_)
  rintro e w3 ⟨rfl, hb3⟩
  skip
  refine ⟨_, rfl, hb3, fun kb3 _ bb3 => wV rfl ?_⟩
  (repeat (first | refine wN ?_ | refine wP rfl ?_ | refine cx_r rfl ?_ | refine cx_d (by kernel_rfl) rfl ?_ | refine wO rfl rfl ?_))
  refine VO.call rfl rfl (fk Tryz.func14) (fun wa4 ka4 ba4 => (filIs_any _ _ _ wa4 (q8D.kp (by (with_reducible (repeat (first | assumption | exact kU _ | exact kR _ | refine kT ?_ (by assumption)))))) (q9D.kp (by (with_reducible (repeat (first | assumption | exact kU _ | exact kR _ | refine kT ?_ (by assumption))))))).mono ?_)
  rintro e w4 ⟨rfl, hb4⟩
  skip
  refine ⟨_, rfl, hb4, fun kb4 _ bb4 => wV rfl ?_⟩
  (repeat (first | refine wN ?_ | refine wP rfl ?_ | refine cx_r rfl ?_ | refine cx_d (by kernel_rfl) rfl ?_ | refine wO rfl rfl ?_))
  refine VS.ret (cx_ok _ _) rfl rfl (fun wz kz bz => ?_)
  exact ⟨rfl, bz⟩
/-- at most so many limbs above and below -/
def LenLe (v : Value) (j : Nat) : Prop := ∃ s p n c t r m d, v = .agg #[.bool s, .slice p n c, .bool t, .slice r m d] ∧ n ≤ j ∧ m ≤ j
theorem RatIn.le {w : World} {v : Value} {q : Rat} {k j : Nat} (h : RatIn w v q k) (hl : LenLe v j) : RatIn w v q j := by
  obtain ⟨s, xs, t, ys, hr, hq, _, _⟩ := h.inv
  obtain ⟨s', p', n', c', t', r', m', d', e', h1, h2⟩ := hl
  have hr0 := hr
  obtain ⟨p, c, r, d, e, _⟩ := hr
  rw [e] at e'
  simp only [Value.agg.injEq, Array.mk.injEq, List.cons.injEq, Value.slice.injEq, and_true] at e'
  exact ⟨s, xs, t, ys, hr0, hq, by omega, by omega⟩
theorem short17_any (v : Value) (q : Rat) (k : Nat) (w : World) (hv : RatIn w v q k) :
    Calls Tryz.prog 19 #[v] w fun e w' => ∃ b, e = .returned (.bool b) ∧ (b = true → LenLe v 6) ∧ Beh w w' := by
  obtain ⟨s, xs, t, ys, hr, hq, h1, h2⟩ := hv.inv
  have hr0 := hr
  obtain ⟨p, c, r, d, rfl, _, _⟩ := hr
  refine calm_enter (C := cxOf Tryz.prog w _) (args := [_]) Tryz.func19 rfl Tryz.ntmps19 (Nat.le_of_ble_eq_true rfl) ?_
  (repeat (first | refine wN ?_ | refine wP rfl ?_ | refine cx_r rfl ?_ | refine cx_d (by kernel_rfl) rfl ?_ | refine wO rfl rfl ?_))
  by_cases hx : xs.length ≤ 6
  · refine VO.fix 8 rfl (congrArg (fun b => AV.val (.bool b)) (decide_eq_true (show (xs.length : Int) ≤ 6 by omega))) ?_
    (repeat (first | refine wN ?_ | refine wP rfl ?_ | refine cx_r rfl ?_ | refine cx_d (by kernel_rfl) rfl ?_ | refine wO rfl rfl ?_))
    refine VS.ret (cx_ok _ _) rfl rfl (fun wz kz bz => ?_)
    refine ⟨_, rfl, fun hb => ⟨_, _, _, _, _, _, _, _, rfl, hx, ?_⟩, bz⟩
    have := of_decide_eq_true hb
    omega
  · refine VO.fix 8 rfl (congrArg (fun b => AV.val (.bool b)) (decide_eq_false (show ¬ (xs.length : Int) ≤ 6 by omega))) ?_
    (repeat (first | refine wN ?_ | refine wP rfl ?_ | refine cx_r rfl ?_ | refine cx_d (by kernel_rfl) rfl ?_ | refine wO rfl rfl ?_))
    refine VS.ret (cx_ok _ _) rfl rfl (fun wz kz bz => ?_)
    exact ⟨_, rfl, fun hb => (by cases hb), bz⟩
/-- the first elements of a slice -/
def SlUp {α : Type} (E : World → List Value → α → Prop) (sz : Nat) (w : World) (p : Option Addr) (es : List α) (n : Nat) : Prop :=
  ∀ (i : Nat) (a : α), i < n → es[i]? = some a → ∃ b off cs, p = some ⟨b, off, none⟩ ∧ (∀ (j : Nat) (u : Value), cs[j]? = some u → w.cell? ⟨b, off + i * sz + j, none⟩ = some u) ∧ E w cs a
theorem SlUp.zero {α : Type} {E : World → List Value → α → Prop} {sz : Nat} {w : World} {p : Option Addr} {es : List α} : SlUp E sz w p es 0 := fun i a hi => absurd hi (Nat.not_lt_zero i)
theorem SlUp.snoc {α : Type} {E : World → List Value → α → Prop} {sz : Nat} {w : World} {b off : Nat} {es : List α} {n : Nat} {a : α} {cs : List Value} (h : SlUp E sz w (some ⟨b, off, none⟩) es n) (ha : es[n]? = some a) (hc : ∀ (j : Nat) (u : Value), cs[j]? = some u → w.cell? ⟨b, off + n * sz + j, none⟩ = some u) (he : E w cs a) : SlUp E sz w (some ⟨b, off, none⟩) es (n + 1) := fun i x hi hx => by
  rcases Nat.lt_succ_iff_lt_or_eq.1 hi with h' | h'
  · exact h i x h' hx
  · subst h'; rw [ha] at hx; cases hx; exact ⟨b, off, cs, rfl, hc, he⟩
theorem SlUp.all {α : Type} {E E' : World → List Value → α → Prop} {sz : Nat} {w : World} {p : Option Addr} {es : List α} {n c : Nat} (h : SlUp E sz w p es n) (h' : SlIn E' sz w (.slice p n c) es) : SlIn E sz w (.slice p n c) es := by
  obtain ⟨p', c', hv, h1, h2, _⟩ := h'
  cases hv
  exact ⟨p, c, rfl, h1, h2, fun i a ha => h i a (List.getElem?_eq_some_iff.1 ha).1 ha⟩
theorem ItmE.mk {kk : Nat} {w : World} {kd : Nat} {ar tx : Rat} {s1 t1 s2 t2 : Bool} {p1 y1 p2 y2 : Option Addr} {n1 c1 m1 d1 n2 c2 m2 d2 : Nat} (h0 : kd < 256) (h1 : RatIn w (.agg #[.bool s1, .slice p1 n1 c1, .bool t1, .slice y1 m1 d1]) ar kk) (h2 : RatIn w (.agg #[.bool s2, .slice p2 n2 c2, .bool t2, .slice y2 m2 d2]) tx kk) :
    ItmE kk w [.int .u8 (kd : Int), .bool s1, .slice p1 n1 c1, .bool t1, .slice y1 m1 d1, .bool s2, .slice p2 n2 c2, .bool t2, .slice y2 m2 d2] (kd, ar, tx) := ⟨_, _, _, _, _, _, _, _, _, _, _, _, _, _, _, _, rfl, h0, h1, h2⟩
set_option maxHeartbeats 1000000 in
theorem few17_any (w0 : World) (v : Value) (l : List Itm) (kk : Nat) (w : World) (hv : SlIn (ItmE kk) 9 w0 v l) (h0 : Beh w0 w) :
    Calls Tryz.prog 8 #[v] w fun e w' => ∃ b, e = .returned (.bool b) ∧ (b = true → SlIn (ItmE 6) 9 w0 v l ∧ l.length ≤ 15) ∧ Beh w w' := by
  obtain ⟨p, c, rfl, hnc, hcm⟩ := hv.form
  obtain ⟨N, hN⟩ : ∃ N, N = l.length := ⟨_, rfl⟩
  rw [← hN] at hv hnc ⊢
  refine calm_enter (C := cxOf Tryz.prog w _) (args := [_]) Tryz.func8 rfl Tryz.ntmps8 (Nat.le_of_ble_eq_true rfl) ?_
  (repeat (first | refine wN ?_ | refine wP rfl ?_ | refine cx_r rfl ?_ | refine cx_d (by kernel_rfl) rfl ?_ | refine wO rfl rfl ?_))
  refine VS.loop (J := fun m L M w' => ∃ z : Nat, z ≤ N ∧ m = N - z ∧ L = [(0, .val (.slice p N c)), (3, .val (.int .i64 (z : Int)))] ∧ M = [] ∧ SlUp (ItmE 6) 9 w0 p l z) N ⟨_, _, ?_, ?_, ?_, ?_, ⟨0, by omega, rfl, rfl, rfl, SlUp.zero⟩⟩ ?_
  · (repeat (first | exact trivial | refine ⟨rfl, ?_⟩))
  · (repeat (first | exact trivial | refine ⟨rfl, ?_⟩))
  · rfl
  · (repeat (first | exact trivial | refine ⟨ClosedC.lit rfl, ?_⟩ | refine ⟨ClosedC.vals _, ?_⟩))
  rintro m L M wJ ⟨z, hz, rfl, rfl, rfl, hup⟩
  (repeat (first | refine wN ?_ | refine wP rfl ?_ | refine cx_r rfl ?_ | refine cx_d (by kernel_rfl) rfl ?_ | refine wO rfl rfl ?_))
  by_cases hlt : z < N
  · obtain ⟨x, hx⟩ : ∃ x, l[z]? = some x := ⟨_, List.getElem?_eq_getElem (by omega)⟩
    obtain ⟨b, off, cs', rfl, hc, he⟩ := hv.at hx
    obtain ⟨s9a, p9a, n9a, c9a, t9a, y9a, m9a, d9a, s9b, p9b, n9b, c9b, t9b, y9b, m9b, d9b, rfl, hkd, hAr, hTo⟩ := he
    obtain ⟨kd, ar, tx⟩ := x
    replace hAr : RatIn w0 (.agg #[.bool s9a, .slice p9a n9a c9a, .bool t9a, .slice y9a m9a d9a]) ar kk := hAr
    replace hTo : RatIn w0 (.agg #[.bool s9b, .slice p9b n9b c9b, .bool t9b, .slice y9b m9b d9b]) tx kk := hTo
    replace hc : ∀ (j : Nat) (u : Value), [.int .u8 (kd : Int), .bool s9a, .slice p9a n9a c9a, .bool t9a, .slice y9a m9a d9a, .bool s9b, .slice p9b n9b c9b, .bool t9b, .slice y9b m9b d9b][j]? = some u → w0.cell? ⟨b, off + z * 9 + j, none⟩ = some u := hc
    have hcw : ∀ (j : Nat) (u : Value), [.int .u8 (kd : Int), .bool s9a, .slice p9a n9a c9a, .bool t9a, .slice y9a m9a d9a, .bool s9b, .slice p9b n9b c9b, .bool t9b, .slice y9b m9b d9b][j]? = some u → w.cell? ⟨b, off + z * 9 + j, none⟩ = some u := fun j u hj => h0.cell (hc j u hj)
    refine VS.condY rfl (decide_eq_true (Int.ofNat_lt.2 hlt)) ?_
    (repeat (first | refine wN ?_ | refine wP rfl ?_ | refine cx_r rfl ?_ | refine cx_d (by kernel_rfl) rfl ?_ | refine wO rfl rfl ?_))
    refine VO.cond rfl ⟨by omega, by omega⟩ ?_
    refine wV rfl ?_
    (repeat (first | refine wN ?_ | refine wP rfl ?_ | refine cx_r rfl ?_ | refine cx_d (by kernel_rfl) rfl ?_ | refine wO rfl rfl ?_))
    refine VO.read rfl [.bool s9a, .slice p9a n9a c9a, .bool t9a, .slice y9a m9a d9a] rfl (cells_sub (o := off + z * 9) hcw 1 _ ⟨_, rfl⟩) (wV rfl ?_)
    refine VO.call rfl rfl (fk Tryz.func19) (fun wa1 ka1 ba1 => (short17_any _ ar kk wa1 (hAr.kp (Kp.of (U := UU) (h0.thn ba1)))).mono ?_)
    rintro e w1 ⟨b1, rfl, hs1, hb1⟩
    cases b1 with
    | false =>
      refine ⟨_, rfl, hb1, fun kb1 _ bb1 => wV rfl ?_⟩
      (repeat (first | refine wN ?_ | refine wP rfl ?_ | refine cx_r rfl ?_ | refine cx_d (by kernel_rfl) rfl ?_ | refine wO rfl rfl ?_))
      refine VS.ret (cx_ok _ _) rfl rfl (fun wz kz bz => ?_)
      exact ⟨_, rfl, fun hb => (by cases hb), bz⟩
    | true =>
      refine ⟨_, rfl, hb1, fun kb1 _ bb1 => wV rfl ?_⟩
      (repeat (first | refine wN ?_ | refine wP rfl ?_ | refine cx_r rfl ?_ | refine cx_d (by kernel_rfl) rfl ?_ | refine wO rfl rfl ?_))
      refine VO.cond rfl ⟨by omega, by omega⟩ ?_
      refine wV rfl ?_
      (repeat (first | refine wN ?_ | refine wP rfl ?_ | refine cx_r rfl ?_ | refine cx_d (by kernel_rfl) rfl ?_ | refine wO rfl rfl ?_))
      refine VO.read rfl [.bool s9b, .slice p9b n9b c9b, .bool t9b, .slice y9b m9b d9b] rfl (cells_sub (o := off + z * 9) hcw 5 _ ⟨_, rfl⟩) (wV rfl ?_)
      refine VO.call rfl rfl (fk Tryz.func19) (fun wa2 ka2 ba2 => (short17_any _ tx kk wa2 (hTo.kp (Kp.of (U := UU) (h0.thn ba2)))).mono ?_)
      rintro e w2 ⟨b2, rfl, hs2, hb2⟩
      cases b2 with
      | false =>
        refine ⟨_, rfl, hb2, fun kb2 _ bb2 => wV rfl ?_⟩
        (repeat (first | refine wN ?_ | refine wP rfl ?_ | refine cx_r rfl ?_ | refine cx_d (by kernel_rfl) rfl ?_ | refine wO rfl rfl ?_))
        refine VS.ret (cx_ok _ _) rfl rfl (fun wz kz bz => ?_)
        exact ⟨_, rfl, fun hb => (by cases hb), bz⟩
      | true =>
        refine ⟨_, rfl, hb2, fun kb2 _ bb2 => wV rfl ?_⟩
        (repeat (first | refine wN ?_ | refine wP rfl ?_ | refine cx_r rfl ?_ | refine cx_d (by kernel_rfl) rfl ?_ | refine wO rfl rfl ?_))
        refine VS.back (N - (z + 1)) (by omega) ⟨_, _, ?_, ?_, ?_, ?_, ⟨z + 1, by omega, rfl, rfl, rfl, hup.snoc hx hc (ItmE.mk hkd (hAr.le (hs1 rfl)) (hTo.le (hs2 rfl)))⟩⟩
        · refine ⟨rfl, ?_, trivial⟩
          rw [← nat_step (by omega)]; rfl
        · (repeat (first | exact trivial | refine ⟨rfl, ?_⟩))
        · rfl
        · (repeat (first | exact trivial | refine ⟨ClosedC.lit rfl, ?_⟩ | refine ⟨ClosedC.vals _, ?_⟩))
  · refine VS.condN rfl (decide_eq_false (fun e => hlt (Int.ofNat_lt.1 e))) ?_
    obtain rfl : z = N := by omega
    (repeat (first | refine wN ?_ | refine wP rfl ?_ | refine cx_r rfl ?_ | refine cx_d (by kernel_rfl) rfl ?_ | refine wO rfl rfl ?_))
    refine VS.ret (cx_ok _ _) rfl rfl (fun wz kz bz => ?_)
    refine ⟨_, rfl, fun hb => ⟨hup.all hv, ?_⟩, bz⟩
    have := of_decide_eq_true hb
    omega
theorem ref04E_any (v : Value) (q : Rat) (k : Nat) (w : World) (hv : RatIn w v q k) (hk : k ≤ 1073741824) :
    Calls Tryz.prog 40 #[v] w fun e w' => ∃ r, e = .returned r ∧ RatIn w' r q k ∧ Beh w w' := by
  obtain ⟨s, xs, t, ys, hr, hq, h1, h2⟩ := hv.inv
  refine (filRef_any s t xs ys v w hr (by omega) (by omega)).mono ?_
  rintro e w' ⟨r, rfl, hn, hb⟩
  exact ⟨r, rfl, ⟨s, xs, t, ys, hn.raw, hq, h1, h2⟩, hb⟩
/-- an own row, at a call's end -/
theorem rowNew_own {α : Type} {E : World → List Value → α → Prop} {sz : Nat} {C : Cx} {β : Nat → Nat} {w : World} {i n c : Nat} {t : TypeId} {es : List α} {vs : List (List Value)} {spare : List AV} (h : OwnV C β w i t (vs.flatten.map .val ++ spare)) (hr : RowE E w es vs) (hn : n = es.length) (hc : n ≤ c) (hm : c ≤ 9223372036854775807) (hl : (vs.flatten.map AV.val ++ spare).length = c * sz)
    (hnw : ∀ i g, C.New i g → C.w0.heap.size ≤ g := by exact fun _ _ h => h) : RowNew E sz t C.w0.heap.size w (.slice (some ⟨β i, 0, none⟩) n c) es := by
  subst hn
  have hk := h.ok
  rw [List.all_append, Bool.and_eq_true] at hk
  refine .inr ⟨β i, c, vs, spare.map (AV.leaf β), rfl, hnw _ _ h.new, ?_, hr, okLeafs hk.2, hc, hm, by rw [← hl]; simp only [List.length_append, List.length_map]⟩
  have := h.cls
  rw [List.map_append, leaf_vals] at this
  exact this
set_option maxRecDepth 4000 in
set_option maxHeartbeats 4000000 in
theorem refs17_any (v : Value) (l : List Itm) (kk : Nat) (w : World) (hv : SlIn (ItmE kk) 9 w v l) (hkk : kk ≤ 1000000) (hlen : l.length ≤ 1000000) :
    Calls Tryz.prog 11 #[v] w fun e w' => ∃ r, e = .returned r ∧ RowNew (ItmE kk) 9 70 w.heap.size w' r l ∧ Beh w w' := by
  obtain ⟨p, c, rfl, hnc, hcm⟩ := hv.form
  obtain ⟨N, hN⟩ : ∃ N, N = l.length := ⟨_, rfl⟩
  rw [← hN] at hv hnc hlen ⊢
  refine calm_enter (C := cxOf Tryz.prog w _) (args := [_]) Tryz.func11 rfl Tryz.ntmps11 (Nat.le_of_ble_eq_true rfl) ?_
  (repeat (first | refine wN ?_ | refine wP rfl ?_ | refine cx_r rfl ?_ | refine cx_d (by kernel_rfl) rfl ?_ | refine wO rfl rfl ?_))
  refine VS.loop (J := fun m L M w' => ∃ z : Nat, z ≤ N ∧ m = N - z ∧
      ((z = 0 ∧ L = [(0, .val (.slice p N c)), (3, .val (.slice none 0 0)), (4, .val (.int .i64 (z : Int)))] ∧ M = []) ∨
       (0 < z ∧ ∃ vs spare cap, L = [(0, .val (.slice p N c)), (3, .row 31 0 z cap), (4, .val (.int .i64 (z : Int)))] ∧ M = [(31, (70, vs.flatten.map .val ++ spare))] ∧
          RowE (ItmE kk) w' (l.take z) vs ∧ (vs.flatten.map AV.val ++ spare).length = cap * 9 ∧ z ≤ cap ∧ cap ≤ 9223372036854775807 ∧ spare.all okLeaf = true ∧ lidsOf spare = []))) N ⟨_, _, ?_, ?_, ?_, ?_, ⟨0, by omega, rfl, .inl ⟨rfl, rfl, rfl⟩⟩⟩ ?_
  · (repeat (first | exact trivial | refine ⟨rfl, ?_⟩))
  · (repeat (first | exact trivial | refine ⟨rfl, ?_⟩))
  · rfl
  · (repeat (first | exact trivial | refine ⟨ClosedC.lit rfl, ?_⟩ | refine ⟨ClosedC.vals _, ?_⟩))
  rintro m L M wJ ⟨z, hz, rfl, ⟨rfl, rfl, rfl⟩ | ⟨hz0, vs, spare, cap, rfl, rfl, hrow, hlen', hzc, hcc, hsok, hsl⟩⟩
  · (repeat (first | refine wN ?_ | refine wP rfl ?_ | refine cx_r rfl ?_ | refine cx_d (by kernel_rfl) rfl ?_ | refine wO rfl rfl ?_))
    by_cases hlt : (0 : Nat) < N
    · obtain ⟨x, hx⟩ : ∃ x, l[(0 : Nat)]? = some x := ⟨_, List.getElem?_eq_getElem (by omega)⟩
      obtain ⟨b, off, cs', rfl, hc, he⟩ := hv.at hx
      obtain ⟨s9a, p9a, n9a, c9a, t9a, y9a, m9a, d9a, s9b, p9b, n9b, c9b, t9b, y9b, m9b, d9b, rfl, hkd, hAr, hTo⟩ := he
      obtain ⟨kd, ar, tx⟩ := x
      replace hAr : RatIn w (.agg #[.bool s9a, .slice p9a n9a c9a, .bool t9a, .slice y9a m9a d9a]) ar kk := hAr
      replace hTo : RatIn w (.agg #[.bool s9b, .slice p9b n9b c9b, .bool t9b, .slice y9b m9b d9b]) tx kk := hTo
      replace hc : ∀ (j : Nat) (u : Value), [.int .u8 (kd : Int), .bool s9a, .slice p9a n9a c9a, .bool t9a, .slice y9a m9a d9a, .bool s9b, .slice p9b n9b c9b, .bool t9b, .slice y9b m9b d9b][j]? = some u → w.cell? ⟨b, off + (0 : Nat) * 9 + j, none⟩ = some u := hc
      refine VS.condY rfl (decide_eq_true (Int.ofNat_lt.2 hlt)) ?_
      (repeat (first | refine wN ?_ | refine wP rfl ?_ | refine cx_r rfl ?_ | refine cx_d (by kernel_rfl) rfl ?_ | refine wO rfl rfl ?_))
      refine VO.cond rfl ⟨by omega, by omega⟩ ?_
      refine wV rfl ?_
      (repeat (first | refine wN ?_ | refine wP rfl ?_ | refine cx_r rfl ?_ | refine cx_d (by kernel_rfl) rfl ?_ | refine wO rfl rfl ?_))
      refine VO.read rfl [.int .u8 (kd : Int)] rfl (cells_sub (o := off + (0 : Nat) * 9) hc 0 _ ⟨_, rfl⟩) (wV rfl ?_)
      refine VO.cond rfl ⟨by omega, by omega⟩ ?_
      refine wV rfl ?_
      (repeat (first | refine wN ?_ | refine wP rfl ?_ | refine cx_r rfl ?_ | refine cx_d (by kernel_rfl) rfl ?_ | refine wO rfl rfl ?_))
      refine VO.read rfl [.bool s9a, .slice p9a n9a c9a, .bool t9a, .slice y9a m9a d9a] rfl (cells_sub (o := off + (0 : Nat) * 9) hc 1 _ ⟨_, rfl⟩) (wV rfl ?_)
      refine VO.call rfl rfl (fk Tryz.func40) (fun wa1 ka1 ba1 => (ref04E_any _ ar kk wa1 (hAr.kp (Kp.of (U := UU) ba1)) (by omega)).mono ?_)
      rintro e w1 ⟨r1, rfl, q1, hb1⟩
      obtain ⟨s1, p1, n1, c1, t1, y1, m1, d1, rfl⟩ := q1.form
      refine ⟨_, rfl, hb1, fun kb1 _ bb1 => wV rfl ?_⟩
      (repeat (first | refine wN ?_ | refine wP rfl ?_ | refine cx_r rfl ?_ | refine cx_d (by kernel_rfl) rfl ?_ | refine wO rfl rfl ?_))
      refine VO.cond rfl ⟨by omega, by omega⟩ ?_
      refine wV rfl ?_
      (repeat (first | refine wN ?_ | refine wP rfl ?_ | refine cx_r rfl ?_ | refine cx_d (by kernel_rfl) rfl ?_ | refine wO rfl rfl ?_))
      refine VO.read rfl [.bool s9b, .slice p9b n9b c9b, .bool t9b, .slice y9b m9b d9b] rfl (cells_sub (o := off + (0 : Nat) * 9) hc 5 _ ⟨_, rfl⟩) (wV rfl ?_)
      refine VO.call rfl rfl (fk Tryz.func40) (fun wa2 ka2 ba2 => (ref04E_any _ tx kk wa2 (hTo.kp (Kp.of (U := UU) ba2)) (by omega)).mono ?_)
      rintro e w2 ⟨r2, rfl, q2, hb2⟩
      obtain ⟨s2, p2, n2, c2, t2, y2, m2, d2, rfl⟩ := q2.form
      refine ⟨_, rfl, hb2, fun kb2 _ bb2 => wV rfl ?_⟩
      (repeat (first | refine wN ?_ | refine wP rfl ?_ | refine cx_r rfl ?_ | refine cx_d (by kernel_rfl) rfl ?_ | refine wO rfl rfl ?_))
      refine VO.app (cx_ok _ _) (t := 33) (e := 70) (sz := 9) (n := 0) (c := 0) (mm := 1) (known := []) (spare := []) (del := none) (news := ([.int .u8 (kd : Int), .bool s1, .slice p1 n1 c1, .bool t1, .slice y1 m1 d1, .bool s2, .slice p2 n2 c2, .bool t2, .slice y2 m2 d2] : List Value).map .val) (dst := 31) rfl rfl rfl rfl rfl rfl rfl rfl (Nat.le_of_ble_eq_true rfl) rfl (.inl ⟨rfl, rfl, rfl, rfl, rfl, rfl, by omega⟩) (.inl rfl) rfl rfl (by omega) (by omega) ⟨rfl, rfl, rfl⟩ ⟨rfl, rfl, rfl⟩ rfl (by omega)
        (fun w1 β k1 b1 ho => ⟨_, _, rfl, .inr ⟨β 30, 0, rfl, own_src (rest := []) (ho.own 30 (.base (List.mem_append_right _ (List.mem_singleton.2 rfl))) _ _ rfl) rfl⟩⟩)
        (fun w13 cap' spare' ρ k13 b13 hρ hc1 hc2 hlen2 hok' hlid' => wV rfl ?_)
      (repeat (first | refine wN ?_ | refine wP rfl ?_ | refine cx_r rfl ?_ | refine cx_d (by kernel_rfl) rfl ?_ | refine wO rfl rfl ?_))
      have hI : ItmE kk w13 [.int .u8 (kd : Int), .bool s1, .slice p1 n1 c1, .bool t1, .slice y1 m1 d1, .bool s2, .slice p2 n2 c2, .bool t2, .slice y2 m2 d2] (kd, ar, tx) := ItmE.mk hkd (q1.kp (by (with_reducible (repeat (first | assumption | exact kU _ | exact kR _ | refine kT ?_ (by assumption)))))) (q2.kp (by (with_reducible (repeat (first | assumption | exact kU _ | exact kR _ | refine kT ?_ (by assumption))))))
      have hrow' : RowE (ItmE kk) w13 (l.take ((0 : Nat) + 1)) ([[.int .u8 (kd : Int), .bool s1, .slice p1 n1 c1, .bool t1, .slice y1 m1 d1, .bool s2, .slice p2 n2 c2, .bool t2, .slice y2 m2 d2]]) := by
        rw [take_snoc_at hx]
        exact .cons hI .nil
      refine VS.back (N - ((0 : Nat) + 1)) (by omega) ⟨_, _, ?_, ?_, ?_, ?_, ⟨(0 : Nat) + 1, by omega, rfl, .inr ⟨by omega, [[.int .u8 (kd : Int), .bool s1, .slice p1 n1 c1, .bool t1, .slice y1 m1 d1, .bool s2, .slice p2 n2 c2, .bool t2, .slice y2 m2 d2]], spare', cap', rfl, rfl, hrow', ?_, by omega, hc2, hok', hlid'⟩⟩⟩
      · refine ⟨rfl, rfl, ?_, trivial⟩
        rfl
      · exact ⟨rfl, trivial⟩
      · rfl
      · exact ⟨.append (.vals _) (.none hlid'), trivial⟩
      · simpa using hlen2
    · refine VS.condN rfl (decide_eq_false (fun e => hlt (Int.ofNat_lt.1 e))) ?_
      obtain rfl : N = 0 := by omega
      (repeat (first | refine wN ?_ | refine wP rfl ?_ | refine cx_r rfl ?_ | refine cx_d (by kernel_rfl) rfl ?_ | refine wO rfl rfl ?_))
      refine VS.ret (cx_ok _ _) rfl rfl (fun wz kz bz => ?_)
      exact ⟨_, rfl, .inl ⟨rfl, List.length_eq_zero_iff.1 hN.symm⟩, bz⟩
  · (repeat (first | refine wN ?_ | refine wP rfl ?_ | refine cx_r rfl ?_ | refine cx_d (by kernel_rfl) rfl ?_ | refine wO rfl rfl ?_))
    by_cases hlt : z < N
    · obtain ⟨x, hx⟩ : ∃ x, l[z]? = some x := ⟨_, List.getElem?_eq_getElem (by omega)⟩
      obtain ⟨b, off, cs', rfl, hc, he⟩ := hv.at hx
      obtain ⟨s9a, p9a, n9a, c9a, t9a, y9a, m9a, d9a, s9b, p9b, n9b, c9b, t9b, y9b, m9b, d9b, rfl, hkd, hAr, hTo⟩ := he
      obtain ⟨kd, ar, tx⟩ := x
      replace hAr : RatIn w (.agg #[.bool s9a, .slice p9a n9a c9a, .bool t9a, .slice y9a m9a d9a]) ar kk := hAr
      replace hTo : RatIn w (.agg #[.bool s9b, .slice p9b n9b c9b, .bool t9b, .slice y9b m9b d9b]) tx kk := hTo
      replace hc : ∀ (j : Nat) (u : Value), [.int .u8 (kd : Int), .bool s9a, .slice p9a n9a c9a, .bool t9a, .slice y9a m9a d9a, .bool s9b, .slice p9b n9b c9b, .bool t9b, .slice y9b m9b d9b][j]? = some u → w.cell? ⟨b, off + z * 9 + j, none⟩ = some u := hc
      refine VS.condY rfl (decide_eq_true (Int.ofNat_lt.2 hlt)) ?_
      (repeat (first | refine wN ?_ | refine wP rfl ?_ | refine cx_r rfl ?_ | refine cx_d (by kernel_rfl) rfl ?_ | refine wO rfl rfl ?_))
      refine VO.cond rfl ⟨by omega, by omega⟩ ?_
      refine wV rfl ?_
      (repeat (first | refine wN ?_ | refine wP rfl ?_ | refine cx_r rfl ?_ | refine cx_d (by kernel_rfl) rfl ?_ | refine wO rfl rfl ?_))
      refine VO.read rfl [.int .u8 (kd : Int)] rfl (cells_sub (o := off + z * 9) hc 0 _ ⟨_, rfl⟩) (wV rfl ?_)
      refine VO.cond rfl ⟨by omega, by omega⟩ ?_
      refine wV rfl ?_
      (repeat (first | refine wN ?_ | refine wP rfl ?_ | refine cx_r rfl ?_ | refine cx_d (by kernel_rfl) rfl ?_ | refine wO rfl rfl ?_))
      refine VO.read rfl [.bool s9a, .slice p9a n9a c9a, .bool t9a, .slice y9a m9a d9a] rfl (cells_sub (o := off + z * 9) hc 1 _ ⟨_, rfl⟩) (wV rfl ?_)
      refine VO.call rfl rfl (fk Tryz.func40) (fun wa1 ka1 ba1 => (ref04E_any _ ar kk wa1 (hAr.kp (Kp.of (U := UU) ba1)) (by omega)).mono ?_)
      rintro e w1 ⟨r1, rfl, q1, hb1⟩
      obtain ⟨s1, p1, n1, c1, t1, y1, m1, d1, rfl⟩ := q1.form
      refine ⟨_, rfl, hb1, fun kb1 _ bb1 => wV rfl ?_⟩
      (repeat (first | refine wN ?_ | refine wP rfl ?_ | refine cx_r rfl ?_ | refine cx_d (by kernel_rfl) rfl ?_ | refine wO rfl rfl ?_))
      refine VO.cond rfl ⟨by omega, by omega⟩ ?_
      refine wV rfl ?_
      (repeat (first | refine wN ?_ | refine wP rfl ?_ | refine cx_r rfl ?_ | refine cx_d (by kernel_rfl) rfl ?_ | refine wO rfl rfl ?_))
      refine VO.read rfl [.bool s9b, .slice p9b n9b c9b, .bool t9b, .slice y9b m9b d9b] rfl (cells_sub (o := off + z * 9) hc 5 _ ⟨_, rfl⟩) (wV rfl ?_)
      refine VO.call rfl rfl (fk Tryz.func40) (fun wa2 ka2 ba2 => (ref04E_any _ tx kk wa2 (hTo.kp (Kp.of (U := UU) ba2)) (by omega)).mono ?_)
      rintro e w2 ⟨r2, rfl, q2, hb2⟩
      obtain ⟨s2, p2, n2, c2, t2, y2, m2, d2, rfl⟩ := q2.form
      refine ⟨_, rfl, hb2, fun kb2 _ bb2 => wV rfl ?_⟩
      (repeat (first | refine wN ?_ | refine wP rfl ?_ | refine cx_r rfl ?_ | refine cx_d (by kernel_rfl) rfl ?_ | refine wO rfl rfl ?_))
      obtain ⟨hok1, hln1⟩ := hrow.ok (itm_ok kk)
      have htl : (l.take z).length = z := by rw [List.length_take]; omega
      refine VO.app (cx_ok _ _) (t := 33) (e := 70) (sz := 9) (n := z) (c := cap) (mm := 1) (known := vs.flatten.map .val) (spare := spare) (del := some 31) (news := ([.int .u8 (kd : Int), .bool s1, .slice p1 n1 c1, .bool t1, .slice y1 m1 d1, .bool s2, .slice p2 n2 c2, .bool t2, .slice y2 m2 d2] : List Value).map .val) (dst := 31) rfl rfl rfl rfl rfl rfl rfl rfl (Nat.le_of_ble_eq_true rfl) rfl (.inr ⟨31, rfl, rfl, rfl⟩) (.inr rfl) (by rw [List.length_map, hln1, htl]) hlen' hzc hcc ⟨lidsOf_vals _, hsl, rfl⟩ ⟨vals_ok hok1, hsok, rfl⟩ rfl (by omega)
        (fun w1 β k1 b1 ho => ⟨_, _, rfl, .inr ⟨β 30, 0, rfl, own_src (rest := []) (ho.own 30 (.base (List.mem_append_right _ (List.mem_singleton.2 rfl))) _ _ rfl) rfl⟩⟩)
        (fun w13 cap' spare' ρ k13 b13 hρ hc1 hc2 hlen2 hok' hlid' => wV rfl ?_)
      (repeat (first | refine wN ?_ | refine wP rfl ?_ | refine cx_r rfl ?_ | refine cx_d (by kernel_rfl) rfl ?_ | refine wO rfl rfl ?_))
      have hI : ItmE kk w13 [.int .u8 (kd : Int), .bool s1, .slice p1 n1 c1, .bool t1, .slice y1 m1 d1, .bool s2, .slice p2 n2 c2, .bool t2, .slice y2 m2 d2] (kd, ar, tx) := ItmE.mk hkd (q1.kp (by (with_reducible (repeat (first | assumption | exact kU _ | exact kR _ | refine kT ?_ (by assumption)))))) (q2.kp (by (with_reducible (repeat (first | assumption | exact kU _ | exact kR _ | refine kT ?_ (by assumption))))))
      have hrow' : RowE (ItmE kk) w13 (l.take (z + 1)) (vs ++ [[.int .u8 (kd : Int), .bool s1, .slice p1 n1 c1, .bool t1, .slice y1 m1 d1, .bool s2, .slice p2 n2 c2, .bool t2, .slice y2 m2 d2]]) := by
        rw [take_snoc_at hx]
        exact (hrow.kp (itm_ok kk) (by (with_reducible (repeat (first | assumption | exact kU _ | exact kR _ | refine kT ?_ (by assumption)))))).snoc hI
      refine VS.back (N - (z + 1)) (by omega) ⟨_, _, ?_, ?_, ?_, ?_, ⟨z + 1, by omega, rfl, .inr ⟨by omega, vs ++ [[.int .u8 (kd : Int), .bool s1, .slice p1 n1 c1, .bool t1, .slice y1 m1 d1, .bool s2, .slice p2 n2 c2, .bool t2, .slice y2 m2 d2]], spare', cap', rfl, rfl, hrow', ?_, by omega, hc2, hok', hlid'⟩⟩⟩
      · refine ⟨rfl, rfl, ?_, trivial⟩
        rw [← nat_step (by omega)]; rfl
      · exact ⟨congrArg (fun l => some (_, l ++ spare')) (by simp), trivial⟩
      · rfl
      · exact ⟨.append (.vals _) (.none hlid'), trivial⟩
      · simpa using hlen2
    · refine VS.condN rfl (decide_eq_false (fun e => hlt (Int.ofNat_lt.1 e))) ?_
      obtain rfl : z = N := by omega
      (repeat (first | refine wN ?_ | refine wP rfl ?_ | refine cx_r rfl ?_ | refine cx_d (by kernel_rfl) rfl ?_ | refine wO rfl rfl ?_))
      refine VS.retA (cx_ok _ _) rfl (fun wz β kz bz en => ?_)
      rw [List.take_of_length_le (by omega)] at hrow
      exact ⟨_, rfl, rowNew_own (en.own 31 _ _ rfl) (hrow.kp (itm_ok kk) kz) hN hzc hcc hlen', bz⟩
theorem ref17_any (v : Value) (P : Pt) (k : Nat) (w : World) (hv : PtIn w v P k) (hk : k ≤ 1000000) :
    Calls Tryz.prog 26 #[v] w fun e w' => ∃ r, e = .returned r ∧ PtIn w' r P k ∧ Beh w w' := by
  obtain ⟨s9a, p9a, n9a, c9a, t9a, y9a, m9a, d9a, s9b, p9b, n9b, c9b, t9b, y9b, m9b, d9b, s9c, p9c, n9c, c9c, t9c, y9c, m9c, d9c, s9d, p9d, n9d, c9d, t9d, y9d, m9d, d9d, rfl, q9A, q9B, q9C, q9D⟩ := hv
  refine calm_enter (C := cxOf Tryz.prog w _) (args := [_]) Tryz.func26 rfl Tryz.ntmps26 (Nat.le_of_ble_eq_true rfl) ?_
  (repeat (first | refine wN ?_ | refine wP rfl ?_ | refine cx_r rfl ?_ | refine cx_d (by kernel_rfl) rfl ?_ | refine wO rfl rfl ?_))
  refine VO.call rfl rfl (fk Tryz.func40) (fun wa1 ka1 ba1 => (ref04E_any _ _ k wa1 (q9A.kp (by (with_reducible (repeat (first | assumption | exact kU _ | exact kR _ | refine kT ?_ (by assumption)))))) (by omega)).mono ?_)
  rintro e w1 ⟨r1, rfl, q1, hb1⟩
  obtain ⟨s1, p1, n1, c1, t1, y1, m1, d1, rfl⟩ := q1.form
  refine ⟨_, rfl, hb1, fun kb1 _ bb1 => wV rfl ?_⟩
  (repeat (first | refine wN ?_ | refine wP rfl ?_ | refine cx_r rfl ?_ | refine cx_d (by kernel_rfl) rfl ?_ | refine wO rfl rfl ?_))
  refine VO.call rfl rfl (fk Tryz.func40) (fun wa2 ka2 ba2 => (ref04E_any _ _ k wa2 (q9B.kp (by (with_reducible (repeat (first | assumption | exact kU _ | exact kR _ | refine kT ?_ (by assumption)))))) (by omega)).mono ?_)
  rintro e w2 ⟨r2, rfl, q2, hb2⟩
  obtain ⟨s2, p2, n2, c2, t2, y2, m2, d2, rfl⟩ := q2.form
  refine ⟨_, rfl, hb2, fun kb2 _ bb2 => wV rfl ?_⟩
  (repeat (first | refine wN ?_ | refine wP rfl ?_ | refine cx_r rfl ?_ | refine cx_d (by kernel_rfl) rfl ?_ | refine wO rfl rfl ?_))
  refine VO.call rfl rfl (fk Tryz.func40) (fun wa3 ka3 ba3 => (ref04E_any _ _ k wa3 (q9C.kp (by (with_reducible (repeat (first | assumption | exact kU _ | exact kR _ | refine kT ?_ (by assumption)))))) (by omega)).mono ?_)
  rintro e w3 ⟨r3, rfl, q3, hb3⟩
  obtain ⟨s3, p3, n3, c3, t3, y3, m3, d3, rfl⟩ := q3.form
  refine ⟨_, rfl, hb3, fun kb3 _ bb3 => wV rfl ?_⟩
  (repeat (first | refine wN ?_ | refine wP rfl ?_ | refine cx_r rfl ?_ | refine cx_d (by kernel_rfl) rfl ?_ | refine wO rfl rfl ?_))
  refine VO.call rfl rfl (fk Tryz.func40) (fun wa4 ka4 ba4 => (ref04E_any _ _ k wa4 (q9D.kp (by (with_reducible (repeat (first | assumption | exact kU _ | exact kR _ | refine kT ?_ (by assumption)))))) (by omega)).mono ?_)
  rintro e w4 ⟨r4, rfl, q4, hb4⟩
  obtain ⟨s4, p4, n4, c4, t4, y4, m4, d4, rfl⟩ := q4.form
  refine ⟨_, rfl, hb4, fun kb4 _ bb4 => wV rfl ?_⟩
  (repeat (first | refine wN ?_ | refine wP rfl ?_ | refine cx_r rfl ?_ | refine cx_d (by kernel_rfl) rfl ?_ | refine wO rfl rfl ?_))
  refine VS.ret (cx_ok _ _) rfl rfl (fun wz kz bz => ?_)
  exact ⟨_, rfl, PtIn.mk (q1.kp (by (with_reducible (repeat (first | assumption | exact kU _ | exact kR _ | refine kT ?_ (by assumption)))))) (q2.kp (by (with_reducible (repeat (first | assumption | exact kU _ | exact kR _ | refine kT ?_ (by assumption)))))) (q3.kp (by (with_reducible (repeat (first | assumption | exact kU _ | exact kR _ | refine kT ?_ (by assumption)))))) (q4.kp (by (with_reducible (repeat (first | assumption | exact kU _ | exact kR _ | refine kT ?_ (by assumption)))))), bz⟩
theorem i64_rsz {n d : Int} (h0 : -9223372036854775808 ≤ n) (h1 : n ≤ 9223372036854775807) (g0 : -9223372036854775808 ≤ d) (g1 : d ≤ 9223372036854775807) : RSz (Rat.divInt n d) 2 := by
  by_cases hd : d = 0
  · rw [hd, Rat.divInt_zero]; exact RSz.zero.mono (by omega)
  · exact divInt_sz (Sz.of_lt (by omega)) (Sz.of_lt (by omega)) hd
theorem item17_any (k : Nat) (t n d : Int) (w : World) (hk : k < 256) (xt0 : -9223372036854775808 ≤ t) (xt1 : t ≤ 9223372036854775807) (h0 : -9223372036854775808 ≤ n) (h1 : n ≤ 9223372036854775807) (g0 : -9223372036854775808 ≤ d) (g1 : d ≤ 9223372036854775807) :
    Calls Tryz.prog 31 #[.int .u8 (k : Int), .int .i64 t, .int .i64 n, .int .i64 d] w fun e w' => ∃ r, e = .returned r ∧ ItmV 2 w' r (k, Rat.divInt n d, Rat.divInt t 1) ∧ Beh w w' := by
  refine calm_enter (C := cxOf Tryz.prog w _) (args := [_, _, _, _]) Tryz.func31 rfl Tryz.ntmps31 (Nat.le_of_ble_eq_true rfl) ?_
  (repeat (first | refine wN ?_ | refine wP rfl ?_ | refine cx_r rfl ?_ | refine cx_d (by kernel_rfl) rfl ?_ | refine wO rfl rfl ?_))
  refine VO.call rfl rfl (fk Tryz.func32) (fun wa1 ka1 ba1 => (filBy_any t 1 wa1 xt0 xt1 (by omega) (by omega)).mono ?_)
  rintro e w1 ⟨r1, rfl, q1, hb1⟩
  obtain ⟨s1, p1, n1, c1, t1, y1, m1, d1, rfl⟩ := q1.form
  refine ⟨_, rfl, hb1, fun kb1 _ bb1 => wV rfl ?_⟩
  (repeat (first | refine wN ?_ | refine wP rfl ?_ | refine cx_r rfl ?_ | refine cx_d (by kernel_rfl) rfl ?_ | refine wO rfl rfl ?_))
  refine VO.call rfl rfl (fk Tryz.func32) (fun wa2 ka2 ba2 => (filBy_any n d wa2 h0 h1 g0 g1).mono ?_)
  rintro e w2 ⟨r2, rfl, q2, hb2⟩
  obtain ⟨s2, p2, n2, c2, t2, y2, m2, d2, rfl⟩ := q2.form
  refine ⟨_, rfl, hb2, fun kb2 _ bb2 => wV rfl ?_⟩
  (repeat (first | refine wN ?_ | refine wP rfl ?_ | refine cx_r rfl ?_ | refine cx_d (by kernel_rfl) rfl ?_ | refine wO rfl rfl ?_))
  refine VS.ret (cx_ok _ _) rfl rfl (fun wz kz bz => ?_)
  exact ⟨_, rfl, ⟨_, rfl, ItmE.mk hk ((q2.kp (by (with_reducible (repeat (first | assumption | exact kU _ | exact kR _ | refine kT ?_ (by assumption)))))).in (i64_rsz h0 h1 g0 g1)) ((q1.kp (by (with_reducible (repeat (first | assumption | exact kU _ | exact kR _ | refine kT ?_ (by assumption)))))).in (i64_rsz xt0 xt1 (by omega) (by omega)))⟩, bz⟩
theorem parts17_any (a b c d : Int) (w : World) (xa0 : -9223372036854775808 ≤ a) (xa1 : a ≤ 9223372036854775807) (xb0 : -9223372036854775808 ≤ b) (xb1 : b ≤ 9223372036854775807) (xc0 : -9223372036854775808 ≤ c) (xc1 : c ≤ 9223372036854775807) (xd0 : -9223372036854775808 ≤ d) (xd1 : d ≤ 9223372036854775807) :
    Calls Tryz.prog 33 #[.int .i64 a, .int .i64 b, .int .i64 c, .int .i64 d] w fun e w' => ∃ r, e = .returned r ∧ PtRd w' r ⟨(a : Rat), (b : Rat), (c : Rat), (d : Rat)⟩ ∧ Beh w w' := by
  refine calm_enter (C := cxOf Tryz.prog w _) (args := [_, _, _, _]) Tryz.func33 rfl Tryz.ntmps33 (Nat.le_of_ble_eq_true rfl) ?_
  (repeat (first | refine wN ?_ | refine wP rfl ?_ | refine cx_r rfl ?_ | refine cx_d (by kernel_rfl) rfl ?_ | refine wO rfl rfl ?_))
  refine VO.call rfl rfl (fk Tryz.func63) (fun wa1 ka1 ba1 => (q04Whole_any a wa1 xa0 xa1).mono ?_)
  rintro e w1 ⟨r1, rfl, q1, hb1⟩
  obtain ⟨s1, p1, n1, c1, t1, y1, m1, d1, rfl⟩ := q1.form
  refine ⟨_, rfl, hb1, fun kb1 _ bb1 => wV rfl ?_⟩
  (repeat (first | refine wN ?_ | refine wP rfl ?_ | refine cx_r rfl ?_ | refine cx_d (by kernel_rfl) rfl ?_ | refine wO rfl rfl ?_))
  refine VO.call rfl rfl (fk Tryz.func63) (fun wa2 ka2 ba2 => (q04Whole_any b wa2 xb0 xb1).mono ?_)
  rintro e w2 ⟨r2, rfl, q2, hb2⟩
  obtain ⟨s2, p2, n2, c2, t2, y2, m2, d2, rfl⟩ := q2.form
  refine ⟨_, rfl, hb2, fun kb2 _ bb2 => wV rfl ?_⟩
  (repeat (first | refine wN ?_ | refine wP rfl ?_ | refine cx_r rfl ?_ | refine cx_d (by kernel_rfl) rfl ?_ | refine wO rfl rfl ?_))
  refine VO.call rfl rfl (fk Tryz.func63) (fun wa3 ka3 ba3 => (q04Whole_any c wa3 xc0 xc1).mono ?_)
  rintro e w3 ⟨r3, rfl, q3, hb3⟩
  obtain ⟨s3, p3, n3, c3, t3, y3, m3, d3, rfl⟩ := q3.form
  refine ⟨_, rfl, hb3, fun kb3 _ bb3 => wV rfl ?_⟩
  (repeat (first | refine wN ?_ | refine wP rfl ?_ | refine cx_r rfl ?_ | refine cx_d (by kernel_rfl) rfl ?_ | refine wO rfl rfl ?_))
  refine VO.call rfl rfl (fk Tryz.func63) (fun wa4 ka4 ba4 => (q04Whole_any d wa4 xd0 xd1).mono ?_)
  rintro e w4 ⟨r4, rfl, q4, hb4⟩
  obtain ⟨s4, p4, n4, c4, t4, y4, m4, d4, rfl⟩ := q4.form
  refine ⟨_, rfl, hb4, fun kb4 _ bb4 => wV rfl ?_⟩
  (repeat (first | refine wN ?_ | refine wP rfl ?_ | refine cx_r rfl ?_ | refine cx_d (by kernel_rfl) rfl ?_ | refine wO rfl rfl ?_))
  refine VS.ret (cx_ok _ _) rfl rfl (fun wz kz bz => ?_)
  exact ⟨_, rfl, PtRd.mk (q1.kp (by (with_reducible (repeat (first | assumption | exact kU _ | exact kR _ | refine kT ?_ (by assumption)))))).rd (q2.kp (by (with_reducible (repeat (first | assumption | exact kU _ | exact kR _ | refine kT ?_ (by assumption)))))).rd (q3.kp (by (with_reducible (repeat (first | assumption | exact kU _ | exact kR _ | refine kT ?_ (by assumption)))))).rd (q4.kp (by (with_reducible (repeat (first | assumption | exact kU _ | exact kR _ | refine kT ?_ (by assumption)))))).rd, bz⟩
theorem row_peek {α : Type} {E : World → List Value → α → Prop} {sz : Nat} (hE : ElOk E sz) {w : World} {es : List α} {vs : List (List Value)} (h : RowE E w es vs) (spare : List AV) {i : Nat} {cs : List Value} (hv : vs[i]? = some cs) : ∀ (j : Nat) (u : AV), (cs.map AV.val)[j]? = some u → (vs.flatten.map AV.val ++ spare)[0 + ((i : Nat) : Int).toNat * sz + j]? = some u := by
  intro j u hj
  rw [List.getElem?_map] at hj
  obtain ⟨x, hx, rfl⟩ := Option.map_eq_some_iff.1 hj
  have := h.cell hE i cs hv j x hx
  rw [Int.toNat_natCast, Nat.zero_add, List.getElem?_append_left (by rw [List.length_map]; exact (List.getElem?_eq_some_iff.1 this).1), List.getElem?_map, this]
  rfl
theorem few_sz {w : World} {v : Value} {l : List Itm} (h : SlIn (ItmE 6) 9 w v l) (hl : l.length ≤ 15) : PSz (rulesOf l) 301 := (rulesOf_sz (by omega) l (slin_sz h (by omega))).mono (Nat.le_trans (ruleSz_le hl) (by decide))
set_option maxRecDepth 4000 in
set_option maxHeartbeats 4000000 in
theorem works17_any (w : World) : Calls Tryz.prog 9 #[] w fun e w' => e = .returned (.bool true) ∧ Beh w w' := by
  refine calm_enter (C := cxOf Tryz.prog w _) (args := []) Tryz.func9 rfl Tryz.ntmps9 (Nat.le_of_ble_eq_true rfl) ?_
  (repeat (first | refine wN ?_ | refine wP rfl ?_ | refine cx_r rfl ?_ | refine cx_d (by kernel_rfl) rfl ?_ | refine wO rfl rfl ?_))
  refine VO.call rfl rfl (fk Tryz.func31) (fun wa1 ka1 ba1 => (item17_any 1 (100) (0) (1) wa1 (by omega) (by omega) (by omega) (by omega) (by omega) (by omega) (by omega)).mono ?_)
  rintro e w1 ⟨r1, rfl, q1, hb1⟩
  obtain ⟨cs1, rfl, s1a, p1a, n1a, c1a, t1a, y1a, m1a, d1a, s1b, p1b, n1b, c1b, t1b, y1b, m1b, d1b, rfl, q1z, q1a, q1b⟩ := q1
  refine ⟨_, rfl, hb1, fun kb1 _ bb1 => wV rfl ?_⟩
  (repeat (first | refine wN ?_ | refine wP rfl ?_ | refine cx_r rfl ?_ | refine cx_d (by kernel_rfl) rfl ?_ | refine wO rfl rfl ?_))
  refine VO.call rfl rfl (fk Tryz.func31) (fun wa2 ka2 ba2 => (item17_any 2 (30) (0) (1) wa2 (by omega) (by omega) (by omega) (by omega) (by omega) (by omega) (by omega)).mono ?_)
  rintro e w2 ⟨r2, rfl, q2, hb2⟩
  obtain ⟨cs2, rfl, s2a, p2a, n2a, c2a, t2a, y2a, m2a, d2a, s2b, p2b, n2b, c2b, t2b, y2b, m2b, d2b, rfl, q2z, q2a, q2b⟩ := q2
  refine ⟨_, rfl, hb2, fun kb2 _ bb2 => wV rfl ?_⟩
  (repeat (first | refine wN ?_ | refine wP rfl ?_ | refine cx_r rfl ?_ | refine cx_d (by kernel_rfl) rfl ?_ | refine wO rfl rfl ?_))
  refine VO.call rfl rfl (fk Tryz.func31) (fun wa3 ka3 ba3 => (item17_any 4 (10) (1) (2) wa3 (by omega) (by omega) (by omega) (by omega) (by omega) (by omega) (by omega)).mono ?_)
  rintro e w3 ⟨r3, rfl, q3, hb3⟩
  obtain ⟨cs3, rfl, s3a, p3a, n3a, c3a, t3a, y3a, m3a, d3a, s3b, p3b, n3b, c3b, t3b, y3b, m3b, d3b, rfl, q3z, q3a, q3b⟩ := q3
  refine ⟨_, rfl, hb3, fun kb3 _ bb3 => wV rfl ?_⟩
  (repeat (first | refine wN ?_ | refine wP rfl ?_ | refine cx_r rfl ?_ | refine cx_d (by kernel_rfl) rfl ?_ | refine wO rfl rfl ?_))
  refine VO.callF rfl (fk Tryz.func12) (fun wa4 β ka4 ba4 ho => (rOf17_any _ [(1, Rat.divInt (0) (1), Rat.divInt (100) 1), (2, Rat.divInt (0) (1), Rat.divInt (30) 1), (4, Rat.divInt (1) (2), Rat.divInt (10) 1)] 2 wa4 (ownV_sl (itm_ok 2) (ho.own 7 (.base (List.mem_singleton.2 rfl)) _ _ rfl) [] (vs := [[.int .u8 1, .bool s1a, .slice p1a n1a c1a, .bool t1a, .slice y1a m1a d1a, .bool s1b, .slice p1b n1b c1b, .bool t1b, .slice y1b m1b d1b], [.int .u8 2, .bool s2a, .slice p2a n2a c2a, .bool t2a, .slice y2a m2a d2a, .bool s2b, .slice p2b n2b c2b, .bool t2b, .slice y2b m2b d2b], [.int .u8 4, .bool s3a, .slice p3a n3a c3a, .bool t3a, .slice y3a m3a d3a, .bool s3b, .slice p3b n3b c3b, .bool t3b, .slice y3b m3b d3b]]) (by rfl) (RowE.cons (ItmE.mk (by omega) (q1a.kp (by (with_reducible (repeat (first | assumption | exact kU _ | exact kR _ | refine kT ?_ (by assumption)))))) (q1b.kp (by (with_reducible (repeat (first | assumption | exact kU _ | exact kR _ | refine kT ?_ (by assumption))))))) (RowE.cons (ItmE.mk (by omega) (q2a.kp (by (with_reducible (repeat (first | assumption | exact kU _ | exact kR _ | refine kT ?_ (by assumption)))))) (q2b.kp (by (with_reducible (repeat (first | assumption | exact kU _ | exact kR _ | refine kT ?_ (by assumption))))))) (RowE.cons (ItmE.mk (by omega) (q3a.kp (by (with_reducible (repeat (first | assumption | exact kU _ | exact kR _ | refine kT ?_ (by assumption)))))) (q3b.kp (by (with_reducible (repeat (first | assumption | exact kU _ | exact kR _ | refine kT ?_ (by assumption))))))) (RowE.nil)))) rfl (Nat.le_of_ble_eq_true rfl) (by decide)) (by omega) (by omega) (by decide)).mono ?_)
  rintro e w4 ⟨r4, rfl, q4, hb4⟩
  have q4' := q4
  obtain ⟨s4a, p4a, n4a, c4a, t4a, y4a, m4a, d4a, s4b, p4b, n4b, c4b, t4b, y4b, m4b, d4b, s4c, p4c, n4c, c4c, t4c, y4c, m4c, d4c, s4d, p4d, n4d, c4d, t4d, y4d, m4d, d4d, rfl, _⟩ := q4'
  refine ⟨_, rfl, hb4, fun kb4 _ bb4 => wV rfl ?_⟩
  (repeat (first | refine wN ?_ | refine wP rfl ?_ | refine cx_r rfl ?_ | refine cx_d (by kernel_rfl) rfl ?_ | refine wO rfl rfl ?_))
  refine VO.call rfl rfl (fk Tryz.func31) (fun wa5 ka5 ba5 => (item17_any 5 (10) (4) (1) wa5 (by omega) (by omega) (by omega) (by omega) (by omega) (by omega) (by omega)).mono ?_)
  rintro e w5 ⟨r5, rfl, q5, hb5⟩
  obtain ⟨cs5, rfl, s5a, p5a, n5a, c5a, t5a, y5a, m5a, d5a, s5b, p5b, n5b, c5b, t5b, y5b, m5b, d5b, rfl, q5z, q5a, q5b⟩ := q5
  refine ⟨_, rfl, hb5, fun kb5 _ bb5 => wV rfl ?_⟩
  (repeat (first | refine wN ?_ | refine wP rfl ?_ | refine cx_r rfl ?_ | refine cx_d (by kernel_rfl) rfl ?_ | refine wO rfl rfl ?_))
  refine VO.call rfl rfl (fk Tryz.func31) (fun wa6 ka6 ba6 => (item17_any 7 (6) (0) (1) wa6 (by omega) (by omega) (by omega) (by omega) (by omega) (by omega) (by omega)).mono ?_)
  rintro e w6 ⟨r6, rfl, q6, hb6⟩
  obtain ⟨cs6, rfl, s6a, p6a, n6a, c6a, t6a, y6a, m6a, d6a, s6b, p6b, n6b, c6b, t6b, y6b, m6b, d6b, rfl, q6z, q6a, q6b⟩ := q6
  refine ⟨_, rfl, hb6, fun kb6 _ bb6 => wV rfl ?_⟩
  (repeat (first | refine wN ?_ | refine wP rfl ?_ | refine cx_r rfl ?_ | refine cx_d (by kernel_rfl) rfl ?_ | refine wO rfl rfl ?_))
  refine VO.call rfl rfl (fk Tryz.func31) (fun wa7 ka7 ba7 => (item17_any 9 (9) (0) (1) wa7 (by omega) (by omega) (by omega) (by omega) (by omega) (by omega) (by omega)).mono ?_)
  rintro e w7 ⟨r7, rfl, q7, hb7⟩
  obtain ⟨cs7, rfl, s7a, p7a, n7a, c7a, t7a, y7a, m7a, d7a, s7b, p7b, n7b, c7b, t7b, y7b, m7b, d7b, rfl, q7z, q7a, q7b⟩ := q7
  refine ⟨_, rfl, hb7, fun kb7 _ bb7 => wV rfl ?_⟩
  (repeat (first | refine wN ?_ | refine wP rfl ?_ | refine cx_r rfl ?_ | refine cx_d (by kernel_rfl) rfl ?_ | refine wO rfl rfl ?_))
  refine VO.call rfl rfl (fk Tryz.func31) (fun wa8 ka8 ba8 => (item17_any 8 (2) (0) (1) wa8 (by omega) (by omega) (by omega) (by omega) (by omega) (by omega) (by omega)).mono ?_)
  rintro e w8 ⟨r8, rfl, q8, hb8⟩
  obtain ⟨cs8, rfl, s8a, p8a, n8a, c8a, t8a, y8a, m8a, d8a, s8b, p8b, n8b, c8b, t8b, y8b, m8b, d8b, rfl, q8z, q8a, q8b⟩ := q8
  refine ⟨_, rfl, hb8, fun kb8 _ bb8 => wV rfl ?_⟩
  (repeat (first | refine wN ?_ | refine wP rfl ?_ | refine cx_r rfl ?_ | refine cx_d (by kernel_rfl) rfl ?_ | refine wO rfl rfl ?_))
  refine VO.callF rfl (fk Tryz.func12) (fun wa9 β ka9 ba9 ho => (rOf17_any _ [(5, Rat.divInt (4) (1), Rat.divInt (10) 1), (7, Rat.divInt (0) (1), Rat.divInt (6) 1), (9, Rat.divInt (0) (1), Rat.divInt (9) 1), (8, Rat.divInt (0) (1), Rat.divInt (2) 1)] 2 wa9 (ownV_sl (itm_ok 2) (ho.own 13 (.base (List.mem_singleton.2 rfl)) _ _ rfl) [] (vs := [[.int .u8 5, .bool s5a, .slice p5a n5a c5a, .bool t5a, .slice y5a m5a d5a, .bool s5b, .slice p5b n5b c5b, .bool t5b, .slice y5b m5b d5b], [.int .u8 7, .bool s6a, .slice p6a n6a c6a, .bool t6a, .slice y6a m6a d6a, .bool s6b, .slice p6b n6b c6b, .bool t6b, .slice y6b m6b d6b], [.int .u8 9, .bool s7a, .slice p7a n7a c7a, .bool t7a, .slice y7a m7a d7a, .bool s7b, .slice p7b n7b c7b, .bool t7b, .slice y7b m7b d7b], [.int .u8 8, .bool s8a, .slice p8a n8a c8a, .bool t8a, .slice y8a m8a d8a, .bool s8b, .slice p8b n8b c8b, .bool t8b, .slice y8b m8b d8b]]) (by rfl) (RowE.cons (ItmE.mk (by omega) (q5a.kp (by (with_reducible (repeat (first | assumption | exact kU _ | exact kR _ | refine kT ?_ (by assumption)))))) (q5b.kp (by (with_reducible (repeat (first | assumption | exact kU _ | exact kR _ | refine kT ?_ (by assumption))))))) (RowE.cons (ItmE.mk (by omega) (q6a.kp (by (with_reducible (repeat (first | assumption | exact kU _ | exact kR _ | refine kT ?_ (by assumption)))))) (q6b.kp (by (with_reducible (repeat (first | assumption | exact kU _ | exact kR _ | refine kT ?_ (by assumption))))))) (RowE.cons (ItmE.mk (by omega) (q7a.kp (by (with_reducible (repeat (first | assumption | exact kU _ | exact kR _ | refine kT ?_ (by assumption)))))) (q7b.kp (by (with_reducible (repeat (first | assumption | exact kU _ | exact kR _ | refine kT ?_ (by assumption))))))) (RowE.cons (ItmE.mk (by omega) (q8a.kp (by (with_reducible (repeat (first | assumption | exact kU _ | exact kR _ | refine kT ?_ (by assumption)))))) (q8b.kp (by (with_reducible (repeat (first | assumption | exact kU _ | exact kR _ | refine kT ?_ (by assumption))))))) (RowE.nil))))) rfl (Nat.le_of_ble_eq_true rfl) (by decide)) (by omega) (by omega) (by decide)).mono ?_)
  rintro e w9 ⟨r9, rfl, q9, hb9⟩
  have q9' := q9
  obtain ⟨s9a, p9a, n9a, c9a, t9a, y9a, m9a, d9a, s9b, p9b, n9b, c9b, t9b, y9b, m9b, d9b, s9c, p9c, n9c, c9c, t9c, y9c, m9c, d9c, s9d, p9d, n9d, c9d, t9d, y9d, m9d, d9d, rfl, _⟩ := q9'
  refine ⟨_, rfl, hb9, fun kb9 _ bb9 => wV rfl ?_⟩
  (repeat (first | refine wN ?_ | refine wP rfl ?_ | refine cx_r rfl ?_ | refine cx_d (by kernel_rfl) rfl ?_ | refine wO rfl rfl ?_))
  refine VO.call rfl rfl (fk Tryz.func31) (fun wa10 ka10 ba10 => (item17_any 6 (8) (2) (1) wa10 (by omega) (by omega) (by omega) (by omega) (by omega) (by omega) (by omega)).mono ?_)
  rintro e w10 ⟨r10, rfl, q10, hb10⟩
  obtain ⟨cs10, rfl, s10a, p10a, n10a, c10a, t10a, y10a, m10a, d10a, s10b, p10b, n10b, c10b, t10b, y10b, m10b, d10b, rfl, q10z, q10a, q10b⟩ := q10
  refine ⟨_, rfl, hb10, fun kb10 _ bb10 => wV rfl ?_⟩
  (repeat (first | refine wN ?_ | refine wP rfl ?_ | refine cx_r rfl ?_ | refine cx_d (by kernel_rfl) rfl ?_ | refine wO rfl rfl ?_))
  refine VO.call rfl rfl (fk Tryz.func31) (fun wa11 ka11 ba11 => (item17_any 3 (5) (0) (1) wa11 (by omega) (by omega) (by omega) (by omega) (by omega) (by omega) (by omega)).mono ?_)
  rintro e w11 ⟨r11, rfl, q11, hb11⟩
  obtain ⟨cs11, rfl, s11a, p11a, n11a, c11a, t11a, y11a, m11a, d11a, s11b, p11b, n11b, c11b, t11b, y11b, m11b, d11b, rfl, q11z, q11a, q11b⟩ := q11
  refine ⟨_, rfl, hb11, fun kb11 _ bb11 => wV rfl ?_⟩
  (repeat (first | refine wN ?_ | refine wP rfl ?_ | refine cx_r rfl ?_ | refine cx_d (by kernel_rfl) rfl ?_ | refine wO rfl rfl ?_))
  refine VO.call rfl rfl (fk Tryz.func31) (fun wa12 ka12 ba12 => (item17_any 11 (1) (0) (1) wa12 (by omega) (by omega) (by omega) (by omega) (by omega) (by omega) (by omega)).mono ?_)
  rintro e w12 ⟨r12, rfl, q12, hb12⟩
  obtain ⟨cs12, rfl, s12a, p12a, n12a, c12a, t12a, y12a, m12a, d12a, s12b, p12b, n12b, c12b, t12b, y12b, m12b, d12b, rfl, q12z, q12a, q12b⟩ := q12
  refine ⟨_, rfl, hb12, fun kb12 _ bb12 => wV rfl ?_⟩
  (repeat (first | refine wN ?_ | refine wP rfl ?_ | refine cx_r rfl ?_ | refine cx_d (by kernel_rfl) rfl ?_ | refine wO rfl rfl ?_))
  refine VO.callF rfl (fk Tryz.func12) (fun wa13 β ka13 ba13 ho => (rOf17_any _ [(6, Rat.divInt (2) (1), Rat.divInt (8) 1), (3, Rat.divInt (0) (1), Rat.divInt (5) 1), (11, Rat.divInt (0) (1), Rat.divInt (1) 1)] 2 wa13 (ownV_sl (itm_ok 2) (ho.own 18 (.base (List.mem_singleton.2 rfl)) _ _ rfl) [] (vs := [[.int .u8 6, .bool s10a, .slice p10a n10a c10a, .bool t10a, .slice y10a m10a d10a, .bool s10b, .slice p10b n10b c10b, .bool t10b, .slice y10b m10b d10b], [.int .u8 3, .bool s11a, .slice p11a n11a c11a, .bool t11a, .slice y11a m11a d11a, .bool s11b, .slice p11b n11b c11b, .bool t11b, .slice y11b m11b d11b], [.int .u8 11, .bool s12a, .slice p12a n12a c12a, .bool t12a, .slice y12a m12a d12a, .bool s12b, .slice p12b n12b c12b, .bool t12b, .slice y12b m12b d12b]]) (by rfl) (RowE.cons (ItmE.mk (by omega) (q10a.kp (by (with_reducible (repeat (first | assumption | exact kU _ | exact kR _ | refine kT ?_ (by assumption)))))) (q10b.kp (by (with_reducible (repeat (first | assumption | exact kU _ | exact kR _ | refine kT ?_ (by assumption))))))) (RowE.cons (ItmE.mk (by omega) (q11a.kp (by (with_reducible (repeat (first | assumption | exact kU _ | exact kR _ | refine kT ?_ (by assumption)))))) (q11b.kp (by (with_reducible (repeat (first | assumption | exact kU _ | exact kR _ | refine kT ?_ (by assumption))))))) (RowE.cons (ItmE.mk (by omega) (q12a.kp (by (with_reducible (repeat (first | assumption | exact kU _ | exact kR _ | refine kT ?_ (by assumption)))))) (q12b.kp (by (with_reducible (repeat (first | assumption | exact kU _ | exact kR _ | refine kT ?_ (by assumption))))))) (RowE.nil)))) rfl (Nat.le_of_ble_eq_true rfl) (by decide)) (by omega) (by omega) (by decide)).mono ?_)
  rintro e w13 ⟨r13, rfl, q13, hb13⟩
  have q13' := q13
  obtain ⟨s13a, p13a, n13a, c13a, t13a, y13a, m13a, d13a, s13b, p13b, n13b, c13b, t13b, y13b, m13b, d13b, s13c, p13c, n13c, c13c, t13c, y13c, m13c, d13c, s13d, p13d, n13d, c13d, t13d, y13d, m13d, d13d, rfl, _⟩ := q13'
  refine ⟨_, rfl, hb13, fun kb13 _ bb13 => wV rfl ?_⟩
  (repeat (first | refine wN ?_ | refine wP rfl ?_ | refine cx_r rfl ?_ | refine cx_d (by kernel_rfl) rfl ?_ | refine wO rfl rfl ?_))
  refine VO.call rfl rfl (fk Tryz.func33) (fun wa14 ka14 ba14 => (parts17_any (60) (65) (0) (0) wa14 (by omega) (by omega) (by omega) (by omega) (by omega) (by omega) (by omega) (by omega)).mono ?_)
  rintro e w14 ⟨r14, rfl, q14, hb14⟩
  have q14' := q14; obtain ⟨s14a, p14a, n14a, c14a, t14a, y14a, m14a, d14a, s14b, p14b, n14b, c14b, t14b, y14b, m14b, d14b, s14c, p14c, n14c, c14c, t14c, y14c, m14c, d14c, s14d, p14d, n14d, c14d, t14d, y14d, m14d, d14d, rfl, _⟩ := q14'
  refine ⟨_, rfl, hb14, fun kb14 _ bb14 => wV rfl ?_⟩
  (repeat (first | refine wN ?_ | refine wP rfl ?_ | refine cx_r rfl ?_ | refine cx_d (by kernel_rfl) rfl ?_ | refine wO rfl rfl ?_))
  refine VO.call rfl rfl (fk Tryz.func13) (fun wa15 ka15 ba15 => (is17_any (rulesOf [(1, Rat.divInt (0) (1), Rat.divInt (100) 1), (2, Rat.divInt (0) (1), Rat.divInt (30) 1), (4, Rat.divInt (1) (2), Rat.divInt (10) 1)]) _ _ wa15 (q4.kp (by (with_reducible (repeat (first | assumption | exact kU _ | exact kR _ | refine kT ?_ (by assumption)))))) ((q14.kp (by (with_reducible (repeat (first | assumption | exact kU _ | exact kR _ | refine kT ?_ (by assumption)))))).cast (Pt.ext' (by decide +kernel) (by decide +kernel) (by decide +kernel) (by decide +kernel)))).mono ?_)
  rintro e w15 ⟨rfl, hb15⟩
  skip
  refine ⟨_, rfl, hb15, fun kb15 _ bb15 => wV rfl ?_⟩
  (repeat (first | refine wN ?_ | refine wP rfl ?_ | refine cx_r rfl ?_ | refine cx_d (by kernel_rfl) rfl ?_ | refine wO rfl rfl ?_))
  refine VO.call rfl rfl (fk Tryz.func33) (fun wa16 ka16 ba16 => (parts17_any (-23) (-10) (6) (7) wa16 (by omega) (by omega) (by omega) (by omega) (by omega) (by omega) (by omega) (by omega)).mono ?_)
  rintro e w16 ⟨r16, rfl, q16, hb16⟩
  have q16' := q16; obtain ⟨s16a, p16a, n16a, c16a, t16a, y16a, m16a, d16a, s16b, p16b, n16b, c16b, t16b, y16b, m16b, d16b, s16c, p16c, n16c, c16c, t16c, y16c, m16c, d16c, s16d, p16d, n16d, c16d, t16d, y16d, m16d, d16d, rfl, _⟩ := q16'
  refine ⟨_, rfl, hb16, fun kb16 _ bb16 => wV rfl ?_⟩
  (repeat (first | refine wN ?_ | refine wP rfl ?_ | refine cx_r rfl ?_ | refine cx_d (by kernel_rfl) rfl ?_ | refine wO rfl rfl ?_))
  refine VO.call rfl rfl (fk Tryz.func13) (fun wa17 ka17 ba17 => (is17_any (rulesOf [(5, Rat.divInt (4) (1), Rat.divInt (10) 1), (7, Rat.divInt (0) (1), Rat.divInt (6) 1), (9, Rat.divInt (0) (1), Rat.divInt (9) 1), (8, Rat.divInt (0) (1), Rat.divInt (2) 1)]) _ _ wa17 (q9.kp (by (with_reducible (repeat (first | assumption | exact kU _ | exact kR _ | refine kT ?_ (by assumption)))))) ((q16.kp (by (with_reducible (repeat (first | assumption | exact kU _ | exact kR _ | refine kT ?_ (by assumption)))))).cast (Pt.ext' (by decide +kernel) (by decide +kernel) (by decide +kernel) (by decide +kernel)))).mono ?_)
  rintro e w17 ⟨rfl, hb17⟩
  skip
  refine ⟨_, rfl, hb17, fun kb17 _ bb17 => wV rfl ?_⟩
  (repeat (first | refine wN ?_ | refine wP rfl ?_ | refine cx_r rfl ?_ | refine cx_d (by kernel_rfl) rfl ?_ | refine wO rfl rfl ?_))
  refine VO.call rfl rfl (fk Tryz.func33) (fun wa18 ka18 ba18 => (parts17_any (-4) (0) (0) (0) wa18 (by omega) (by omega) (by omega) (by omega) (by omega) (by omega) (by omega) (by omega)).mono ?_)
  rintro e w18 ⟨r18, rfl, q18, hb18⟩
  have q18' := q18; obtain ⟨s18a, p18a, n18a, c18a, t18a, y18a, m18a, d18a, s18b, p18b, n18b, c18b, t18b, y18b, m18b, d18b, s18c, p18c, n18c, c18c, t18c, y18c, m18c, d18c, s18d, p18d, n18d, c18d, t18d, y18d, m18d, d18d, rfl, _⟩ := q18'
  refine ⟨_, rfl, hb18, fun kb18 _ bb18 => wV rfl ?_⟩
  (repeat (first | refine wN ?_ | refine wP rfl ?_ | refine cx_r rfl ?_ | refine cx_d (by kernel_rfl) rfl ?_ | refine wO rfl rfl ?_))
  refine VO.call rfl rfl (fk Tryz.func13) (fun wa19 ka19 ba19 => (is17_any (rulesOf [(6, Rat.divInt (2) (1), Rat.divInt (8) 1), (3, Rat.divInt (0) (1), Rat.divInt (5) 1), (11, Rat.divInt (0) (1), Rat.divInt (1) 1)]) _ _ wa19 (q13.kp (by (with_reducible (repeat (first | assumption | exact kU _ | exact kR _ | refine kT ?_ (by assumption)))))) ((q18.kp (by (with_reducible (repeat (first | assumption | exact kU _ | exact kR _ | refine kT ?_ (by assumption)))))).cast (Pt.ext' (by decide +kernel) (by decide +kernel) (by decide +kernel) (by decide +kernel)))).mono ?_)
  rintro e w19 ⟨rfl, hb19⟩
  skip
  refine ⟨_, rfl, hb19, fun kb19 _ bb19 => wV rfl ?_⟩
  (repeat (first | refine wN ?_ | refine wP rfl ?_ | refine cx_r rfl ?_ | refine cx_d (by kernel_rfl) rfl ?_ | refine wO rfl rfl ?_))
  have z20 : PSz (rulesOf [(5, Rat.divInt (4) (1), Rat.divInt (10) 1), (7, Rat.divInt (0) (1), Rat.divInt (6) 1), (9, Rat.divInt (0) (1), Rat.divInt (9) 1), (8, Rat.divInt (0) (1), Rat.divInt (2) 1)]) 40 := ((rulesOf_sz (j := 2) (by omega) _ (by intro x hx; simp only [List.mem_cons, List.not_mem_nil, or_false] at hx; rcases hx with rfl | rfl | rfl | rfl <;> exact ⟨i64_rsz (by omega) (by omega) (by omega) (by omega), i64_rsz (by omega) (by omega) (by omega) (by omega)⟩))).mono (by decide)
  refine VO.call rfl rfl (fk Tryz.func17) (fun wa20 ka20 ba20 => (rebitda_any _ (rulesOf [(5, Rat.divInt (4) (1), Rat.divInt (10) 1), (7, Rat.divInt (0) (1), Rat.divInt (6) 1), (9, Rat.divInt (0) (1), Rat.divInt (9) 1), (8, Rat.divInt (0) (1), Rat.divInt (2) 1)]) 40 wa20 (q9.kp (by (with_reducible (repeat (first | assumption | exact kU _ | exact kR _ | refine kT ?_ (by assumption)))))) z20 (by omega)).mono ?_)
  rintro e w20 ⟨r20, rfl, q20, hb20⟩
  obtain ⟨s20, p20, n20, c20, t20, y20, m20, d20, rfl⟩ := q20.form
  refine ⟨_, rfl, hb20, fun kb20 _ bb20 => wV rfl ?_⟩
  (repeat (first | refine wN ?_ | refine wP rfl ?_ | refine cx_r rfl ?_ | refine cx_d (by kernel_rfl) rfl ?_ | refine wO rfl rfl ?_))
  refine VO.call rfl rfl (fk Tryz.func32) (fun wa21 ka21 ba21 => (filBy_any (-4) 1 wa21 (by omega) (by omega) (by omega) (by omega)).mono ?_)
  rintro e w21 ⟨r21, rfl, q21, hb21⟩
  obtain ⟨s21, p21, n21, c21, t21, y21, m21, d21, rfl⟩ := q21.form
  refine ⟨_, rfl, hb21, fun kb21 _ bb21 => wV rfl ?_⟩
  (repeat (first | refine wN ?_ | refine wP rfl ?_ | refine cx_r rfl ?_ | refine cx_d (by kernel_rfl) rfl ?_ | refine wO rfl rfl ?_))
  refine VO.call rfl rfl (fk Tryz.func25) (fun wa22 ka22 ba22 => (ratSame_ok _ _ (rulesOf [(5, Rat.divInt (4) (1), Rat.divInt (10) 1), (7, Rat.divInt (0) (1), Rat.divInt (6) 1), (9, Rat.divInt (0) (1), Rat.divInt (9) 1), (8, Rat.divInt (0) (1), Rat.divInt (2) 1)]).ebitda (Rat.divInt (-4) 1) 200 2 wa22 ((q20.kp (by (with_reducible (repeat (first | assumption | exact kU _ | exact kR _ | refine kT ?_ (by assumption)))))).in (RSz.mono (z20.s.add z20.d) (by decide))) ((q21.kp (by (with_reducible (repeat (first | assumption | exact kU _ | exact kR _ | refine kT ?_ (by assumption)))))).in (i64_rsz (by omega) (by omega) (by omega) (by omega))) (by omega) (by omega) true (by decide +kernel)).mono ?_)
  rintro e w22 ⟨rfl, hb22⟩
  skip
  refine ⟨_, rfl, hb22, fun kb22 _ bb22 => wV rfl ?_⟩
  (repeat (first | refine wN ?_ | refine wP rfl ?_ | refine cx_r rfl ?_ | refine cx_d (by kernel_rfl) rfl ?_ | refine wO rfl rfl ?_))
  have z23 : PSz (rulesOf [(1, Rat.divInt (0) (1), Rat.divInt (100) 1), (2, Rat.divInt (0) (1), Rat.divInt (30) 1), (4, Rat.divInt (1) (2), Rat.divInt (10) 1)]) 40 := ((rulesOf_sz (j := 2) (by omega) _ (by intro x hx; simp only [List.mem_cons, List.not_mem_nil, or_false] at hx; rcases hx with rfl | rfl | rfl <;> exact ⟨i64_rsz (by omega) (by omega) (by omega) (by omega), i64_rsz (by omega) (by omega) (by omega) (by omega)⟩))).mono (by decide)
  refine VO.call rfl rfl (fk Tryz.func15) (fun wa23 ka23 ba23 => (rdiff_any _ (rulesOf [(1, Rat.divInt (0) (1), Rat.divInt (100) 1), (2, Rat.divInt (0) (1), Rat.divInt (30) 1), (4, Rat.divInt (1) (2), Rat.divInt (10) 1)]) 40 wa23 (q4.kp (by (with_reducible (repeat (first | assumption | exact kU _ | exact kR _ | refine kT ?_ (by assumption)))))) z23 (by omega)).mono ?_)
  rintro e w23 ⟨r23, rfl, q23, hb23⟩
  obtain ⟨s23, p23, n23, c23, t23, y23, m23, d23, rfl⟩ := q23.form
  refine ⟨_, rfl, hb23, fun kb23 _ bb23 => wV rfl ?_⟩
  (repeat (first | refine wN ?_ | refine wP rfl ?_ | refine cx_r rfl ?_ | refine cx_d (by kernel_rfl) rfl ?_ | refine wO rfl rfl ?_))
  refine VO.call rfl rfl (fk Tryz.func32) (fun wa24 ka24 ba24 => (filBy_any (5) 1 wa24 (by omega) (by omega) (by omega) (by omega)).mono ?_)
  rintro e w24 ⟨r24, rfl, q24, hb24⟩
  obtain ⟨s24, p24, n24, c24, t24, y24, m24, d24, rfl⟩ := q24.form
  refine ⟨_, rfl, hb24, fun kb24 _ bb24 => wV rfl ?_⟩
  (repeat (first | refine wN ?_ | refine wP rfl ?_ | refine cx_r rfl ?_ | refine cx_d (by kernel_rfl) rfl ?_ | refine wO rfl rfl ?_))
  refine VO.call rfl rfl (fk Tryz.func25) (fun wa25 ka25 ba25 => (ratSame_ok _ _ (rulesOf [(1, Rat.divInt (0) (1), Rat.divInt (100) 1), (2, Rat.divInt (0) (1), Rat.divInt (30) 1), (4, Rat.divInt (1) (2), Rat.divInt (10) 1)]).diff (Rat.divInt (5) 1) 200 2 wa25 ((q23.kp (by (with_reducible (repeat (first | assumption | exact kU _ | exact kR _ | refine kT ?_ (by assumption)))))).in (RSz.mono ((z23.s.sub z23.i).sub z23.b) (by decide))) ((q24.kp (by (with_reducible (repeat (first | assumption | exact kU _ | exact kR _ | refine kT ?_ (by assumption)))))).in (i64_rsz (by omega) (by omega) (by omega) (by omega))) (by omega) (by omega) true (by decide +kernel)).mono ?_)
  rintro e w25 ⟨rfl, hb25⟩
  skip
  refine ⟨_, rfl, hb25, fun kb25 _ bb25 => wV rfl ?_⟩
  (repeat (first | refine wN ?_ | refine wP rfl ?_ | refine cx_r rfl ?_ | refine cx_d (by kernel_rfl) rfl ?_ | refine wO rfl rfl ?_))
  refine VS.ret (cx_ok _ _) rfl rfl (fun wz kz bz => ?_)
  exact ⟨rfl, bz⟩
end Go.Proofs.YtgffhmpnkfejbaaGreat
