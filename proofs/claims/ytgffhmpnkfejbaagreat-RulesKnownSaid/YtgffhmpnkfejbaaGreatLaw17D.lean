/- RulesParts: what this statement's function answers. -/
import Derived.Test.YtgffhmpnkfejbaaGreatLaw17A
set_option linter.all false
namespace Go.Proofs.YtgffhmpnkfejbaaGreat
open Go.RowKit
attribute [local irreducible] vcOps VS

theorem row_peek_sub {α : Type} {E : World → List Value → α → Prop} {sz : Nat} (hE : ElOk E sz) {w : World} {es : List α} {vs : List (List Value)} (h : RowE E w es vs) (spare : List AV) {i : Nat} {cs : List Value} (hv : vs[i]? = some cs) (o : Nat) (ds : List Value) (hd : ds <+: cs.drop o) : ∀ (j : Nat) (u : AV), (ds.map AV.val)[j]? = some u → (vs.flatten.map AV.val ++ spare)[0 + ((i : Nat) : Int).toNat * sz + o + j]? = some u := by
  intro j u hj
  rw [List.getElem?_map] at hj
  obtain ⟨x, hx, rfl⟩ := Option.map_eq_some_iff.1 hj
  obtain ⟨t, ht⟩ := hd
  rw [Nat.add_assoc]
  refine row_peek hE h spare hv (o + j) (.val x) ?_
  rw [List.getElem?_map, ← List.getElem?_drop, ← ht, List.getElem?_append_left (List.getElem?_eq_some_iff.1 hx).1, hx]
  rfl
theorem src_old {w w1 : World} {β : Nat → Nat} {vs : List (List Value)} {b off : Nat} (hx : ∀ (j : Nat) (u : Value), vs.flatten[j]? = some u → w.cell? ⟨b, off + j, none⟩ = some u) (hb : Beh w w1) : ∀ (j : Nat) (u : Value), ((vs.flatten.map AV.val).map (AV.leaf β))[j]? = some u → w1.cell? ⟨b, off + j, none⟩ = some u := fun j u hj => by
  rw [leaf_vals] at hj
  exact hb.cell (hx j u hj)
theorem back_idx {N z : Nat} (h : z < N) (hN : N ≤ 30) : IntKind.i64.wrap (IntKind.i64.wrap ((N : Int) - 1) - (z : Int)) = ((N - 1 - z : Nat) : Int) := by
  rw [IntWalk.i64_in ((N : Int) - 1) (by omega), IntWalk.i64_in _ (by omega)]; omega
theorem plain_big {k : Nat} (h : ¬ (k = 1 ∨ k = 2 ∨ k = 7 ∨ k = 10 ∨ k = 8 ∨ k = 9 ∨ k = 0)) : decide ((k : Int) > 11) = plainK k := by
  unfold plainK
  rw [decide_eq_decide]
  omega
theorem plain_snoc {l : List Itm} {z : Nat} {x : Itm} (hx : l[z]? = some x) {a b : Bool} (ha : (l.take z).all (fun x => plainK x.1) = a) (hb : plainK x.1 = b) : (l.take (z + 1)).all (fun x => plainK x.1) = (a && b) := by
  rw [take_snoc_at hx, List.all_append, ha]; simp [hb]
/-- several ways to the same place of the text -/
theorem VS.via {C : Cx} {Q : Exit → Act → World → Prop} {F : Fr} {H : Hp} {w : World} {P : Fr → Hp → World → Prop} {stk0 stk1 : List It} (h1 : (∀ F' H' w', P F' H' w' → VS C Q stk1 F' H' w') → VS C Q stk0 F H w) (h2 : ∀ F' H' w', P F' H' w' → VS C Q stk1 F' H' w') : VS C Q stk0 F H w := h1 h2
theorem VO.via {C : Cx} {m : Option (List FuncId)} {full : Array Oper} {l : List Oper} {Q : Exit → Act → World → Prop} {F : Fr} {H : Hp} {w : World} {P : Fr → Hp → World → Prop} {stk0 stk1 : List It} (h1 : (∀ F' H' w', P F' H' w' → VS C Q stk1 F' H' w') → vcOps C m full l (VS C Q stk0) F H w) (h2 : ∀ F' H' w', P F' H' w' → VS C Q stk1 F' H' w') : vcOps C m full l (VS C Q stk0) F H w := h1 h2
theorem rSame_ok (v u : Value) (P Q : Pt) (k l : Nat) (w : World) (hv : PtIn w v P k) (hu : PtIn w u Q l) (hk : k ≤ 33554431) (hl : l ≤ 33554431) (b : Bool) (hb : psame P Q = b) :
    Calls Tryz.prog 29 #[v, u] w fun e w' => e = .returned (.bool b) ∧ Beh w w' := hb ▸ rSame17_any v u P Q k l w hv hu hk hl
/-- what is known of the rows while the statement's loop runs -/
def PartsJ (w : World) (la lb : List Itm) (pa pb : Option Addr) (ca cb : Nat) (m : Nat) (L : List (Nat × AV)) (M : List (Nat × (TypeId × List AV))) (w' : World) : Prop :=
  ∃ (z : Nat) (pl : Bool), z ≤ (la ++ lb).length ∧ m = (la ++ lb).length - z ∧ ((la ++ lb).take z).all (fun x => plainK x.1) = pl ∧
    (((la ++ lb) = [] ∧ L = [(0, .val (.slice pa la.length ca)), (1, .val (.slice pb lb.length cb)), (5, .val (.slice none 0 0)), (6, .val (.slice none 0 0)), (7, .val (.bool pl)), (8, .val (.int .i64 (z : Int)))] ∧ M = []) ∨
     (0 < (la ++ lb).length ∧ ∃ vs spare cap, RowE (ItmE 6) w' (la ++ lb) vs ∧ (vs.flatten.map AV.val ++ spare).length = cap * 9 ∧ (la ++ lb).length ≤ cap ∧ cap ≤ 9223372036854775807 ∧ spare.all okLeaf = true ∧ lidsOf spare = [] ∧
       ((z = 0 ∧ L = [(0, .val (.slice pa la.length ca)), (1, .val (.slice pb lb.length cb)), (5, .row 25 0 (la ++ lb).length cap), (6, .val (.slice none 0 0)), (7, .val (.bool pl)), (8, .val (.int .i64 (z : Int)))] ∧ M = [(25, (51, vs.flatten.map .val ++ spare))]) ∨
        (0 < z ∧ ∃ vt sparet capt, RowE (ItmE 6) w' ((la ++ lb).reverse.take z) vt ∧ (vt.flatten.map AV.val ++ sparet).length = capt * 9 ∧ z ≤ capt ∧ capt ≤ 9223372036854775807 ∧ sparet.all okLeaf = true ∧ lidsOf sparet = [] ∧
          L = [(0, .val (.slice pa la.length ca)), (1, .val (.slice pb lb.length cb)), (5, .row 25 0 (la ++ lb).length cap), (6, .row 42 0 z capt), (7, .val (.bool pl)), (8, .val (.int .i64 (z : Int)))] ∧ M = [(25, (51, vs.flatten.map .val ++ spare)), (42, (51, vt.flatten.map .val ++ sparet))]))))
set_option maxRecDepth 8000 in
set_option maxHeartbeats 16000000 in
theorem rulesParts_any (v u : Value) (la lb : List Itm) (kk : Nat) (w : World) (hv : SlIn (ItmE kk) 9 w v la) (hu : SlIn (ItmE kk) 9 w u lb) :
    Calls Tryz.prog 6 #[v, u] w fun e w' => e = .returned (.bool true) ∧ Beh w w' := by
  obtain ⟨pa, ca, rfl, hnca, hcma⟩ := hv.form
  obtain ⟨pb, cb, rfl, hncb, hcmb⟩ := hu.form
  refine calm_enter (C := cxOf Tryz.prog w _) (args := [_, _]) Tryz.func6 rfl Tryz.ntmps6 (Nat.le_of_ble_eq_true rfl) ?_
  (repeat (first | refine wN ?_ | refine wP rfl ?_ | refine cx_r rfl ?_ | refine cx_d (by kernel_rfl) rfl ?_ | refine wO rfl rfl ?_))
  refine VO.call rfl rfl (fk Tryz.func8) (fun wa1 ka1 ba1 => (few17_any w _ la kk wa1 hv ba1).mono ?_)
  rintro e w1 ⟨b1, rfl, hs1, hb1⟩
  cases b1 with
  | false =>
    refine ⟨_, rfl, hb1, fun kb1 _ bb1 => wV rfl ?_⟩
    (repeat (first | refine wN ?_ | refine wP rfl ?_ | refine cx_r rfl ?_ | refine cx_d (by kernel_rfl) rfl ?_ | refine wO rfl rfl ?_))
    refine VO.call rfl rfl (fk Tryz.func9) (fun wa2 ka2 ba2 => (works17_any wa2).mono ?_)
    rintro e w2 ⟨rfl, hb2⟩
    skip
    refine ⟨_, rfl, hb2, fun kb2 _ bb2 => wV rfl ?_⟩
    (repeat (first | refine wN ?_ | refine wP rfl ?_ | refine cx_r rfl ?_ | refine cx_d (by kernel_rfl) rfl ?_ | refine wO rfl rfl ?_))
    refine VS.ret (cx_ok _ _) rfl rfl (fun wz kz bz => ?_)
    exact ⟨rfl, bz⟩
  | true =>
  refine ⟨_, rfl, hb1, fun kb1 _ bb1 => wV rfl ?_⟩
  (repeat (first | refine wN ?_ | refine wP rfl ?_ | refine cx_r rfl ?_ | refine cx_d (by kernel_rfl) rfl ?_ | refine wO rfl rfl ?_))
  refine VO.call rfl rfl (fk Tryz.func8) (fun wa2 ka2 ba2 => (few17_any w _ lb kk wa2 hu ba2).mono ?_)
  rintro e w2 ⟨b2, rfl, hs2, hb2⟩
  cases b2 with
  | false =>
    refine ⟨_, rfl, hb2, fun kb2 _ bb2 => wV rfl ?_⟩
    (repeat (first | refine wN ?_ | refine wP rfl ?_ | refine cx_r rfl ?_ | refine cx_d (by kernel_rfl) rfl ?_ | refine wO rfl rfl ?_))
    refine VO.call rfl rfl (fk Tryz.func9) (fun wa3 ka3 ba3 => (works17_any wa3).mono ?_)
    rintro e w3 ⟨rfl, hb3⟩
    skip
    refine ⟨_, rfl, hb3, fun kb3 _ bb3 => wV rfl ?_⟩
    (repeat (first | refine wN ?_ | refine wP rfl ?_ | refine cx_r rfl ?_ | refine cx_d (by kernel_rfl) rfl ?_ | refine wO rfl rfl ?_))
    refine VS.ret (cx_ok _ _) rfl rfl (fun wz kz bz => ?_)
    exact ⟨rfl, bz⟩
  | true =>
  refine ⟨_, rfl, hb2, fun kb2 _ bb2 => wV rfl ?_⟩
  (repeat (first | refine wN ?_ | refine wP rfl ?_ | refine cx_r rfl ?_ | refine cx_d (by kernel_rfl) rfl ?_ | refine wO rfl rfl ?_))
  obtain ⟨hA6, hA15⟩ := hs1 rfl
  obtain ⟨hB6, hB15⟩ := hs2 rfl
  obtain ⟨va, hra, hna, hsa⟩ := hA6.src (itm_ok 6)
  obtain ⟨vb, hrb, hnb, hsb⟩ := hB6.src (itm_ok 6)
  obtain ⟨hoka, hlna⟩ := hra.ok (itm_ok 6)
  obtain ⟨hokb, hlnb⟩ := hrb.ok (itm_ok 6)
  have hl30 : (la ++ lb).length ≤ 30 := by rw [List.length_append]; omega
  have hsrcA : ∀ w1, Beh w w1 → ∀ β : Nat → Nat, ∃ p cc, (Value.slice pa la.length ca) = .slice p la.length cc ∧ (la.length = 0 ∨ ∃ b off, p = some ⟨b, off, none⟩ ∧ ∀ (j : Nat) (u : Value), ((va.flatten.map AV.val).map (AV.leaf β))[j]? = some u → w1.cell? ⟨b, off + j, none⟩ = some u) := fun w1 hb β => ⟨pa, ca, rfl, hsa.imp id fun ⟨b, off, hp, hx⟩ => ⟨b, off, hp, src_old hx hb⟩⟩
  have hsrcB : ∀ w1, Beh w w1 → ∀ β : Nat → Nat, ∃ p cc, (Value.slice pb lb.length cb) = .slice p lb.length cc ∧ (lb.length = 0 ∨ ∃ b off, p = some ⟨b, off, none⟩ ∧ ∀ (j : Nat) (u : Value), ((vb.flatten.map AV.val).map (AV.leaf β))[j]? = some u → w1.cell? ⟨b, off + j, none⟩ = some u) := fun w1 hb β => ⟨pb, cb, rfl, hsb.imp id fun ⟨b, off, hp, hx⟩ => ⟨b, off, hp, src_old hx hb⟩⟩
  have hz60 : PSz (rulesOf (la ++ lb)) 601 := (rulesOf_sz (by omega) (la ++ lb) (fun x hx => (List.mem_append.1 hx).elim (slin_sz hA6 (by omega) x) (slin_sz hB6 (by omega) x))).mono (Nat.le_trans (ruleSz_le hl30) (by decide))
  have hzA := few_sz hA6 hA15
  have hzB := few_sz hB6 hB15
  have hzS : PSz (psum [rulesOf la, rulesOf lb]) 605 := (psum_sz (j := 301) [rulesOf la, rulesOf lb] (fun x hx => by simp only [List.mem_cons, List.not_mem_nil, or_false] at hx; rcases hx with rfl | rfl <;> assumption)).mono (Nat.le_of_ble_eq_true rfl)
  have hsz60 : ruleSz 6 (la ++ lb).length ≤ 60000000 := Nat.le_trans (ruleSz_le hl30) (by decide)
  have hszA : ruleSz 6 la.length ≤ 60000000 := Nat.le_trans (ruleSz_le hA15) (by decide)
  have hszB : ruleSz 6 lb.length ≤ 60000000 := Nat.le_trans (ruleSz_le hB15) (by decide)
  apply VO.via (P := fun F' H' w' => Entry (PartsJ w la lb pa pb ca cb) (la ++ lb).length F' H' w')
  · intro cont
    by_cases hla : la.length = 0
    · refine VO.app0 (cx_ok _ _) (t := 22) (e := 51) (sz := 9) rfl rfl rfl rfl rfl (fun w1 β _ _ _ => ⟨_, _, congrArg (fun n => Value.slice pa n ca) hla⟩) (fun w4 k4 b4 => wV rfl ?_)
      (repeat (first | refine wN ?_ | refine wP rfl ?_ | refine cx_r rfl ?_ | refine cx_d (by kernel_rfl) rfl ?_ | refine wO rfl rfl ?_))
      have hla' := List.length_eq_zero_iff.1 hla
      by_cases hlb : lb.length = 0
      · refine VO.app0 (cx_ok _ _) (t := 22) (e := 51) (sz := 9) rfl rfl rfl rfl rfl (fun w1 β _ _ _ => ⟨_, _, congrArg (fun n => Value.slice pb n cb) hlb⟩) (fun w5 k5 b5 => wV rfl ?_)
        (repeat (first | refine wN ?_ | refine wP rfl ?_ | refine cx_r rfl ?_ | refine cx_d (by kernel_rfl) rfl ?_ | refine wO rfl rfl ?_))
        have hlb' := List.length_eq_zero_iff.1 hlb
        refine cont _ _ _ ⟨_, _, ?_, ?_, ?_, ?_, ⟨0, true, by omega, rfl, rfl, .inl ⟨by rw [hla', hlb']; rfl, rfl, rfl⟩⟩⟩
        · (repeat (first | exact trivial | refine ⟨rfl, ?_⟩))
        · (repeat (first | exact trivial | refine ⟨rfl, ?_⟩))
        · rfl
        · (repeat (first | exact trivial | refine ⟨ClosedC.lit rfl, ?_⟩ | refine ⟨ClosedC.vals _, ?_⟩))
      · refine VO.app (cx_ok _ _) (t := 22) (e := 51) (sz := 9) (n := 0) (c := 0) (mm := lb.length) (known := []) (spare := []) (news := vb.flatten.map .val) (dst := 25) (del := none) rfl rfl rfl rfl rfl rfl rfl rfl (Nat.le_of_ble_eq_true rfl) rfl (.inl ⟨rfl, rfl, rfl, rfl, rfl, rfl, by omega⟩) (.inl rfl) rfl rfl (by omega) (by omega) ⟨rfl, rfl, lidsOf_vals _⟩ ⟨rfl, rfl, vals_ok hokb⟩ (by rw [List.length_map, hlnb]) (by omega)
          (fun w1 β k1 b1 ho => hsrcB w1 b1 β)
          (fun w25 cap25 sp25 ρ k25 b25 hρ hcap25 hmax25 hlen25 hok25 hlid25 => wV rfl ?_)
        (repeat (first | refine wN ?_ | refine wP rfl ?_ | refine cx_r rfl ?_ | refine cx_d (by kernel_rfl) rfl ?_ | refine wO rfl rfl ?_))
        have hrow25 : RowE (ItmE 6) w25 (la ++ lb) vb := by rw [hla']; exact hrb.kp (itm_ok 6) (Kp.of (U := UU) b25)
        have hll : 0 + lb.length = (la ++ lb).length := by rw [hla']; simp
        refine cont _ _ _ ⟨_, _, ?_, ?_, ?_, ?_, ⟨0, true, by omega, rfl, rfl, .inr ⟨by rw [List.length_append]; omega, vb, sp25, cap25, hrow25, by simpa using hlen25, by omega, hmax25, hok25, hlid25, .inl ⟨rfl, rfl, rfl⟩⟩⟩⟩
        · exact ⟨rfl, rfl, congrArg (fun n => some (AV.row 25 0 n cap25)) hll, rfl, rfl, rfl, trivial⟩
        · exact ⟨rfl, trivial⟩
        · rfl
        · exact ⟨.append (.vals _) (.none hlid25), trivial⟩
    · refine VO.app (cx_ok _ _) (t := 22) (e := 51) (sz := 9) (n := 0) (c := 0) (mm := la.length) (known := []) (spare := []) (news := va.flatten.map .val) (dst := 22) (del := none) rfl rfl rfl rfl rfl rfl rfl rfl (Nat.le_of_ble_eq_true rfl) rfl (.inl ⟨rfl, rfl, rfl, rfl, rfl, rfl, by omega⟩) (.inl rfl) rfl rfl (by omega) (by omega) ⟨rfl, rfl, lidsOf_vals _⟩ ⟨rfl, rfl, vals_ok hoka⟩ (by rw [List.length_map, hlna]) (by omega)
        (fun w1 β k1 b1 ho => hsrcA w1 b1 β)
        (fun w22 cap22 sp22 ρ k22 b22 hρ hcap22 hmax22 hlen22 hok22 hlid22 => wV rfl ?_)
      (repeat (first | refine wN ?_ | refine wP rfl ?_ | refine cx_r rfl ?_ | refine cx_d (by kernel_rfl) rfl ?_ | refine wO rfl rfl ?_))
      refine VO.app (cx_ok _ _) (t := 22) (e := 51) (sz := 9) (n := 0 + la.length) (c := cap22) (mm := lb.length) (known := va.flatten.map .val) (spare := sp22) (news := vb.flatten.map .val) (dst := 25) (del := some 22) rfl rfl rfl rfl rfl rfl rfl rfl (Nat.le_of_ble_eq_true rfl) rfl (.inr ⟨22, rfl, rfl, rfl⟩) (.inl rfl) (by rw [List.length_map, hlna, Nat.zero_add]) hlen22 hcap22 hmax22 ⟨lidsOf_vals _, hlid22, lidsOf_vals _⟩ ⟨vals_ok hoka, hok22, vals_ok hokb⟩ (by rw [List.length_map, hlnb]) (by omega)
        (fun w1 β k1 b1 ho => hsrcB w1 b1 β)
        (fun w25 cap25 sp25 ρ k25 b25 hρ hcap25 hmax25 hlen25 hok25 hlid25 => wV rfl ?_)
      (repeat (first | refine wN ?_ | refine wP rfl ?_ | refine cx_r rfl ?_ | refine cx_d (by kernel_rfl) rfl ?_ | refine wO rfl rfl ?_))
      have hrow25 : RowE (ItmE 6) w25 (la ++ lb) (va ++ vb) := (hra.append hrb).kp (itm_ok 6) (Kp.of (U := UU) b25)
      have hll : 0 + la.length + lb.length = (la ++ lb).length := by rw [List.length_append]; omega
      refine cont _ _ _ ⟨_, _, ?_, ?_, ?_, ?_, ⟨0, true, by omega, rfl, rfl, .inr ⟨by rw [List.length_append]; omega, va ++ vb, sp25, cap25, hrow25, by simpa using hlen25, by omega, hmax25, hok25, hlid25, .inl ⟨rfl, rfl, rfl⟩⟩⟩⟩
      · exact ⟨rfl, rfl, congrArg (fun n => some (AV.row 25 0 n cap25)) hll, rfl, rfl, rfl, trivial⟩
      · exact ⟨congrArg (fun l => some (_, l ++ sp25)) (by simp), trivial⟩
      · rfl
      · exact ⟨.append (.vals _) (.none hlid25), trivial⟩
  · intro F0 H0 w0 hent
    refine VS.loop (J := PartsJ w la lb pa pb ca cb) (la ++ lb).length hent ?_
    rintro m L M wJ ⟨z, pl, hz, rfl, hpl, ⟨hnil, rfl, rfl⟩ | ⟨hNp, vs, spare, cap, hrow, hlen', hzc, hcc, hsok, hsl, ⟨rfl, rfl, rfl⟩ | ⟨hz0, vt, sparet, capt, hrowt, hlent, hzct, hcct, hsokt, hslt, rfl, rfl⟩⟩⟩
    · have hN0 : (la ++ lb).length = 0 := by rw [hnil]; rfl
      obtain rfl : z = 0 := by omega
      (repeat (first | refine wN ?_ | refine wP rfl ?_ | refine cx_r rfl ?_ | refine cx_d (by kernel_rfl) rfl ?_ | refine wO rfl rfl ?_))
      refine VO.call rfl rfl (fk Tryz.func12) (fun wa10 ka10 ba10 => (rOf17_any _ (la ++ lb) 6 wa10 (hnil ▸ SlIn.nil _ _ _) (by omega) (by omega) hsz60).mono ?_)
      rintro e w10 ⟨r10, rfl, q10, hb10⟩
      have q10' := q10; obtain ⟨s10a, p10a, n10a, c10a, t10a, y10a, m10a, d10a, s10b, p10b, n10b, c10b, t10b, y10b, m10b, d10b, s10c, p10c, n10c, c10c, t10c, y10c, m10c, d10c, s10d, p10d, n10d, c10d, t10d, y10d, m10d, d10d, rfl, _⟩ := q10'
      refine ⟨_, rfl, hb10, fun kb10 _ bb10 => wV rfl ?_⟩
      (repeat (first | refine wN ?_ | refine wP rfl ?_ | refine cx_r rfl ?_ | refine cx_d (by kernel_rfl) rfl ?_ | refine wO rfl rfl ?_))
      refine VO.call rfl rfl (fk Tryz.func12) (fun wa11 ka11 ba11 => (rOf17_any _ la 6 wa11 (hA6.beh (itm_ok 6) ba11) (by omega) (by omega) hszA).mono ?_)
      rintro e w11 ⟨r11, rfl, q11, hb11⟩
      have q11' := q11; obtain ⟨s11a, p11a, n11a, c11a, t11a, y11a, m11a, d11a, s11b, p11b, n11b, c11b, t11b, y11b, m11b, d11b, s11c, p11c, n11c, c11c, t11c, y11c, m11c, d11c, s11d, p11d, n11d, c11d, t11d, y11d, m11d, d11d, rfl, _⟩ := q11'
      refine ⟨_, rfl, hb11, fun kb11 _ bb11 => wV rfl ?_⟩
      (repeat (first | refine wN ?_ | refine wP rfl ?_ | refine cx_r rfl ?_ | refine cx_d (by kernel_rfl) rfl ?_ | refine wO rfl rfl ?_))
      refine VO.call rfl rfl (fk Tryz.func12) (fun wa12 ka12 ba12 => (rOf17_any _ lb 6 wa12 (hB6.beh (itm_ok 6) ba12) (by omega) (by omega) hszB).mono ?_)
      rintro e w12 ⟨r12, rfl, q12, hb12⟩
      have q12' := q12; obtain ⟨s12a, p12a, n12a, c12a, t12a, y12a, m12a, d12a, s12b, p12b, n12b, c12b, t12b, y12b, m12b, d12b, s12c, p12c, n12c, c12c, t12c, y12c, m12c, d12c, s12d, p12d, n12d, c12d, t12d, y12d, m12d, d12d, rfl, _⟩ := q12'
      refine ⟨_, rfl, hb12, fun kb12 _ bb12 => wV rfl ?_⟩
      (repeat (first | refine wN ?_ | refine wP rfl ?_ | refine cx_r rfl ?_ | refine cx_d (by kernel_rfl) rfl ?_ | refine wO rfl rfl ?_))
      refine VO.callF rfl (fk Tryz.func27) (fun wa13 β ka13 ba13 ho => (rSum17_any _ [rulesOf la, rulesOf lb] 301 wa13 (ownV_sl (pt_ok 301) (ho.own 88 (.base (List.mem_singleton.2 rfl)) _ _ rfl) [] (vs := [[.bool s11a, .slice p11a n11a c11a, .bool t11a, .slice y11a m11a d11a, .bool s11b, .slice p11b n11b c11b, .bool t11b, .slice y11b m11b d11b, .bool s11c, .slice p11c n11c c11c, .bool t11c, .slice y11c m11c d11c, .bool s11d, .slice p11d n11d c11d, .bool t11d, .slice y11d m11d d11d], [.bool s12a, .slice p12a n12a c12a, .bool t12a, .slice y12a m12a d12a, .bool s12b, .slice p12b n12b c12b, .bool t12b, .slice y12b m12b d12b, .bool s12c, .slice p12c n12c c12c, .bool t12c, .slice y12c m12c d12c, .bool s12d, .slice p12d n12d c12d, .bool t12d, .slice y12d m12d d12d]]) (by rfl) (RowE.cons ((q11.kp (by (with_reducible (repeat (first | assumption | exact kU _ | exact kR _ | refine kT ?_ (by assumption)))))).to hzA) (RowE.cons ((q12.kp (by (with_reducible (repeat (first | assumption | exact kU _ | exact kR _ | refine kT ?_ (by assumption)))))).to hzB) (RowE.nil))) rfl (Nat.le_of_ble_eq_true rfl) (by decide)) (by omega) (by omega) (Nat.le_of_ble_eq_true rfl)).mono ?_)
      rintro e w13 ⟨r13, rfl, q13, hb13⟩
      have q13' := q13; obtain ⟨s13a, p13a, n13a, c13a, t13a, y13a, m13a, d13a, s13b, p13b, n13b, c13b, t13b, y13b, m13b, d13b, s13c, p13c, n13c, c13c, t13c, y13c, m13c, d13c, s13d, p13d, n13d, c13d, t13d, y13d, m13d, d13d, rfl, _⟩ := q13'
      refine ⟨_, rfl, hb13, fun kb13 _ bb13 => wV rfl ?_⟩
      (repeat (first | refine wN ?_ | refine wP rfl ?_ | refine cx_r rfl ?_ | refine cx_d (by kernel_rfl) rfl ?_ | refine wO rfl rfl ?_))
      refine VO.call rfl rfl (fk Tryz.func29) (fun wa14 ka14 ba14 => (rSame_ok _ _ (rulesOf (la ++ lb)) (psum [rulesOf la, rulesOf lb]) 601 605 wa14 ((q10.kp (by (with_reducible (repeat (first | assumption | exact kU _ | exact kR _ | refine kT ?_ (by assumption)))))).to hz60) ((q13.kp (by (with_reducible (repeat (first | assumption | exact kU _ | exact kR _ | refine kT ?_ (by assumption)))))).to hzS) (by omega) (by omega) true (psame_of (by rw [rulesOf_append, rulesOf_two]))).mono ?_)
      rintro e w14 ⟨rfl, hb14⟩
      skip
      refine ⟨_, rfl, hb14, fun kb14 _ bb14 => wV rfl ?_⟩
      (repeat (first | refine wN ?_ | refine wP rfl ?_ | refine cx_r rfl ?_ | refine cx_d (by kernel_rfl) rfl ?_ | refine wO rfl rfl ?_))
      refine VO.call rfl rfl (fk Tryz.func12) (fun wa15 ka15 ba15 => (rOf17_any _ (la ++ lb) 6 wa15 (hnil ▸ SlIn.nil _ _ _) (by omega) (by omega) hsz60).mono ?_)
      rintro e w15 ⟨r15, rfl, q15, hb15⟩
      have q15' := q15; obtain ⟨s15a, p15a, n15a, c15a, t15a, y15a, m15a, d15a, s15b, p15b, n15b, c15b, t15b, y15b, m15b, d15b, s15c, p15c, n15c, c15c, t15c, y15c, m15c, d15c, s15d, p15d, n15d, c15d, t15d, y15d, m15d, d15d, rfl, _⟩ := q15'
      refine ⟨_, rfl, hb15, fun kb15 _ bb15 => wV rfl ?_⟩
      (repeat (first | refine wN ?_ | refine wP rfl ?_ | refine cx_r rfl ?_ | refine cx_d (by kernel_rfl) rfl ?_ | refine wO rfl rfl ?_))
      refine VO.call rfl rfl (fk Tryz.func29) (fun wa16 ka16 ba16 => (rSame_ok _ _ (rulesOf (la ++ lb)) (rulesOf (la ++ lb)) 601 601 wa16 ((q10.kp (by (with_reducible (repeat (first | assumption | exact kU _ | exact kR _ | refine kT ?_ (by assumption)))))).to hz60) ((q15.kp (by (with_reducible (repeat (first | assumption | exact kU _ | exact kR _ | refine kT ?_ (by assumption)))))).to hz60) (by omega) (by omega) true (psame_self _)).mono ?_)
      rintro e w16 ⟨rfl, hb16⟩
      skip
      refine ⟨_, rfl, hb16, fun kb16 _ bb16 => wV rfl ?_⟩
      (repeat (first | refine wN ?_ | refine wP rfl ?_ | refine cx_r rfl ?_ | refine cx_d (by kernel_rfl) rfl ?_ | refine wO rfl rfl ?_))
      have hall : (la ++ lb).all (fun x => plainK x.1) = pl := by rw [← hpl, hnil]; rfl
      cases pl with
      | false =>
        (repeat (first | refine wN ?_ | refine wP rfl ?_ | refine cx_r rfl ?_ | refine cx_d (by kernel_rfl) rfl ?_ | refine wO rfl rfl ?_))
        refine VO.call rfl rfl (fk Tryz.func9) (fun wa17 ka17 ba17 => (works17_any wa17).mono ?_)
        rintro e w17 ⟨rfl, hb17⟩
        skip
        refine ⟨_, rfl, hb17, fun kb17 _ bb17 => wV rfl ?_⟩
        (repeat (first | refine wN ?_ | refine wP rfl ?_ | refine cx_r rfl ?_ | refine cx_d (by kernel_rfl) rfl ?_ | refine wO rfl rfl ?_))
        refine VS.ret (cx_ok _ _) rfl rfl (fun wz kz bz => ?_)
        exact ⟨rfl, bz⟩
      | true =>
        (repeat (first | refine wN ?_ | refine wP rfl ?_ | refine cx_r rfl ?_ | refine cx_d (by kernel_rfl) rfl ?_ | refine wO rfl rfl ?_))
        refine VO.call rfl rfl (fk Tryz.func15) (fun wa17 ka17 ba17 => (rdiff_any _ (rulesOf (la ++ lb)) 601 wa17 (q10.kp (by (with_reducible (repeat (first | assumption | exact kU _ | exact kR _ | refine kT ?_ (by assumption)))))) hz60 (by omega)).mono ?_)
        rintro e w17 ⟨r17, rfl, q17, hb17⟩
        obtain ⟨s17, p17, n17, c17, t17, y17, m17, d17, rfl⟩ := q17.form
        refine ⟨_, rfl, hb17, fun kb17 _ bb17 => wV rfl ?_⟩
        (repeat (first | refine wN ?_ | refine wP rfl ?_ | refine cx_r rfl ?_ | refine cx_d (by kernel_rfl) rfl ?_ | refine wO rfl rfl ?_))
        refine VO.call rfl rfl (fk Tryz.func20) (fun wa18 ka18 ba18 => (ratSign_ok _ (rulesOf (la ++ lb)).diff 3000 wa18 ((q17.kp (by (with_reducible (repeat (first | assumption | exact kU _ | exact kR _ | refine kT ?_ (by assumption)))))).in (((hz60.s.sub hz60.i).sub hz60.b).mono (by omega))) (by omega) 0 (rcmp_eq (diff_all hall))).mono ?_)
        rintro e w18 ⟨rfl, hb18⟩
        skip
        refine ⟨_, rfl, hb18, fun kb18 _ bb18 => wV rfl ?_⟩
        (repeat (first | refine wN ?_ | refine wP rfl ?_ | refine cx_r rfl ?_ | refine cx_d (by kernel_rfl) rfl ?_ | refine wO rfl rfl ?_))
        refine VO.call rfl rfl (fk Tryz.func9) (fun wa19 ka19 ba19 => (works17_any wa19).mono ?_)
        rintro e w19 ⟨rfl, hb19⟩
        skip
        refine ⟨_, rfl, hb19, fun kb19 _ bb19 => wV rfl ?_⟩
        (repeat (first | refine wN ?_ | refine wP rfl ?_ | refine cx_r rfl ?_ | refine cx_d (by kernel_rfl) rfl ?_ | refine wO rfl rfl ?_))
        refine VS.ret (cx_ok _ _) rfl rfl (fun wz kz bz => ?_)
        exact ⟨rfl, bz⟩
    · (repeat (first | refine wN ?_ | refine wP rfl ?_ | refine cx_r rfl ?_ | refine cx_d (by kernel_rfl) rfl ?_ | refine wO rfl rfl ?_))
      by_cases hlt : (0 : Nat) < (la ++ lb).length
      · obtain ⟨x, hx⟩ : ∃ x, (la ++ lb)[(la ++ lb).length - 1 - (0 : Nat)]? = some x := ⟨_, List.getElem?_eq_getElem (by omega)⟩
        have hxr : (la ++ lb).reverse[(0 : Nat)]? = some x := by rw [List.getElem?_reverse (by omega)]; exact hx
        obtain ⟨y, hy⟩ : ∃ y, (la ++ lb)[(0 : Nat)]? = some y := ⟨_, List.getElem?_eq_getElem (by omega)⟩
        obtain ⟨cx, hcx, hex⟩ := hrow.at _ x hx
        obtain ⟨cy, hcy, hey⟩ := hrow.at _ y hy
        obtain ⟨s8a, p8a, n8a, c8a, t8a, y8a, m8a, d8a, s8b, p8b, n8b, c8b, t8b, y8b, m8b, d8b, rfl, hkx, hArx, hTox⟩ := hex
        obtain ⟨s9a, p9a, n9a, c9a, t9a, y9a, m9a, d9a, s9b, p9b, n9b, c9b, t9b, y9b, m9b, d9b, rfl, hky, _, _⟩ := hey
        obtain ⟨kd, ax, tx⟩ := x
        obtain ⟨ky, ay, ty⟩ := y
        refine VS.condY rfl (decide_eq_true (Int.ofNat_lt.2 hlt)) ?_
        (repeat (first | refine wN ?_ | refine wP rfl ?_ | refine cx_r rfl ?_ | refine cx_d (by kernel_rfl) rfl ?_ | refine wO rfl rfl ?_))
        refine VO.fix 38 rfl (congrArg (fun z => AV.val (.int .i64 z)) (back_idx hlt hl30)) ?_
        refine VO.cond rfl ⟨by omega, by omega⟩ ?_
        refine wV rfl ?_
        (repeat (first | refine wN ?_ | refine wP rfl ?_ | refine cx_r rfl ?_ | refine cx_d (by kernel_rfl) rfl ?_ | refine wO rfl rfl ?_))
        refine VO.peek rfl (([.int .u8 (kd : Int), .bool s8a, .slice p8a n8a c8a, .bool t8a, .slice y8a m8a d8a, .bool s8b, .slice p8b n8b c8b, .bool t8b, .slice y8b m8b d8b] : List Value).map AV.val) rfl (row_peek (itm_ok 6) hrow spare hcx) (wV rfl ?_)
        (repeat (first | refine wN ?_ | refine wP rfl ?_ | refine cx_r rfl ?_ | refine cx_d (by kernel_rfl) rfl ?_ | refine wO rfl rfl ?_))
        refine VO.app (cx_ok _ _) (t := 22) (e := 51) (sz := 9) (n := 0) (c := 0) (mm := 1) (known := []) (spare := []) (del := none) (news := ([.int .u8 (kd : Int), .bool s8a, .slice p8a n8a c8a, .bool t8a, .slice y8a m8a d8a, .bool s8b, .slice p8b n8b c8b, .bool t8b, .slice y8b m8b d8b] : List Value).map .val) (dst := 42) rfl rfl rfl rfl rfl rfl rfl rfl (Nat.le_of_ble_eq_true rfl) rfl (.inl ⟨rfl, rfl, rfl, rfl, rfl, rfl, by omega⟩) (.inl rfl) rfl rfl (by omega) (by omega) ⟨rfl, rfl, rfl⟩ ⟨rfl, rfl, rfl⟩ rfl (by omega)
          (fun w1 β k1 b1 ho => ⟨_, _, rfl, .inr ⟨β 41, 0, rfl, own_src (rest := []) (ho.own 41 (.base (List.mem_append_right _ (List.mem_singleton.2 rfl))) _ _ rfl) rfl⟩⟩)
          (fun w13 cap' spare' ρ k13 b13 hρ hc1 hc2 hlen2 hok' hlid' => wV rfl ?_)
        (repeat (first | refine wN ?_ | refine wP rfl ?_ | refine cx_r rfl ?_ | refine cx_d (by kernel_rfl) rfl ?_ | refine wO rfl rfl ?_))
        refine VO.cond rfl ⟨by omega, by omega⟩ ?_
        refine wV rfl ?_
        (repeat (first | refine wN ?_ | refine wP rfl ?_ | refine cx_r rfl ?_ | refine cx_d (by kernel_rfl) rfl ?_ | refine wO rfl rfl ?_))
        refine VO.peek rfl (([.int .u8 (ky : Int)] : List Value).map AV.val) rfl (row_peek_sub (itm_ok 6) hrow spare hcy 0 _ ⟨_, rfl⟩) (wV rfl ?_)
        (repeat (first | refine wN ?_ | refine wP rfl ?_ | refine cx_r rfl ?_ | refine cx_d (by kernel_rfl) rfl ?_ | refine wO rfl rfl ?_))
        have hrow' : RowE (ItmE 6) w13 ((la ++ lb).reverse.take ((0 : Nat) + 1)) ([[.int .u8 (kd : Int), .bool s8a, .slice p8a n8a c8a, .bool t8a, .slice y8a m8a d8a, .bool s8b, .slice p8b n8b c8b, .bool t8b, .slice y8b m8b d8b]]) := by
          rw [take_snoc_at hxr]
          exact .cons (ItmE.mk hkx (hArx.kp (by (with_reducible (repeat (first | assumption | exact kU _ | exact kR _ | refine kT ?_ (by assumption)))))) (hTox.kp (by (with_reducible (repeat (first | assumption | exact kU _ | exact kR _ | refine kT ?_ (by assumption))))))) .nil
        have hrow1 : RowE (ItmE 6) w13 (la ++ lb) vs := hrow.kp (itm_ok 6) (by (with_reducible (repeat (first | assumption | exact kU _ | exact kR _ | refine kT ?_ (by assumption)))))
        cases pl with
        | false =>
          (repeat (first | refine wN ?_ | refine wP rfl ?_ | refine cx_r rfl ?_ | refine cx_d (by kernel_rfl) rfl ?_ | refine wO rfl rfl ?_))
          refine VS.back ((la ++ lb).length - ((0 : Nat) + 1)) (by omega) ⟨_, _, ?_, ?_, ?_, ?_, ⟨(0 : Nat) + 1, false, by omega, rfl, plain_snoc hy hpl rfl, .inr ⟨hNp, vs, spare, cap, hrow1, hlen', hzc, hcc, hsok, hsl, .inr ⟨by omega, [[.int .u8 (kd : Int), .bool s8a, .slice p8a n8a c8a, .bool t8a, .slice y8a m8a d8a, .bool s8b, .slice p8b n8b c8b, .bool t8b, .slice y8b m8b d8b]], spare', cap', hrow', ?_, by omega, hc2, hok', hlid', rfl, rfl⟩⟩⟩⟩
          · refine ⟨rfl, rfl, rfl, rfl, rfl, ?_, trivial⟩
            rfl
          · exact ⟨rfl, rfl, trivial⟩
          · rfl
          · exact ⟨.append (.vals _) (.none hsl), .append (.vals _) (.none hlid'), trivial⟩
          · simpa using hlen2
        | true =>
          (repeat (first | refine wN ?_ | refine wP rfl ?_ | refine cx_r rfl ?_ | refine cx_d (by kernel_rfl) rfl ?_ | refine wO rfl rfl ?_))
          have hcase : ky = 1 ∨ ky = 2 ∨ ky = 7 ∨ ky = 10 ∨ ky = 8 ∨ ky = 9 ∨ ky = 0 ∨ ¬ (ky = 1 ∨ ky = 2 ∨ ky = 7 ∨ ky = 10 ∨ ky = 8 ∨ ky = 9 ∨ ky = 0) := by omega
          rcases hcase with rfl | rfl | rfl | rfl | rfl | rfl | rfl | hno
          · (repeat (first | refine wN ?_ | refine wP rfl ?_ | refine cx_r rfl ?_ | refine cx_d (by kernel_rfl) rfl ?_ | refine wO rfl rfl ?_))
            refine VS.back ((la ++ lb).length - ((0 : Nat) + 1)) (by omega) ⟨_, _, ?_, ?_, ?_, ?_, ⟨(0 : Nat) + 1, true, by omega, rfl, plain_snoc hy hpl rfl, .inr ⟨hNp, vs, spare, cap, hrow1, hlen', hzc, hcc, hsok, hsl, .inr ⟨by omega, [[.int .u8 (kd : Int), .bool s8a, .slice p8a n8a c8a, .bool t8a, .slice y8a m8a d8a, .bool s8b, .slice p8b n8b c8b, .bool t8b, .slice y8b m8b d8b]], spare', cap', hrow', ?_, by omega, hc2, hok', hlid', rfl, rfl⟩⟩⟩⟩
            · refine ⟨rfl, rfl, rfl, rfl, rfl, ?_, trivial⟩
              rfl
            · exact ⟨rfl, rfl, trivial⟩
            · rfl
            · exact ⟨.append (.vals _) (.none hsl), .append (.vals _) (.none hlid'), trivial⟩
            · simpa using hlen2
          · (repeat (first | refine wN ?_ | refine wP rfl ?_ | refine cx_r rfl ?_ | refine cx_d (by kernel_rfl) rfl ?_ | refine wO rfl rfl ?_))
            refine VS.back ((la ++ lb).length - ((0 : Nat) + 1)) (by omega) ⟨_, _, ?_, ?_, ?_, ?_, ⟨(0 : Nat) + 1, true, by omega, rfl, plain_snoc hy hpl rfl, .inr ⟨hNp, vs, spare, cap, hrow1, hlen', hzc, hcc, hsok, hsl, .inr ⟨by omega, [[.int .u8 (kd : Int), .bool s8a, .slice p8a n8a c8a, .bool t8a, .slice y8a m8a d8a, .bool s8b, .slice p8b n8b c8b, .bool t8b, .slice y8b m8b d8b]], spare', cap', hrow', ?_, by omega, hc2, hok', hlid', rfl, rfl⟩⟩⟩⟩
            · refine ⟨rfl, rfl, rfl, rfl, rfl, ?_, trivial⟩
              rfl
            · exact ⟨rfl, rfl, trivial⟩
            · rfl
            · exact ⟨.append (.vals _) (.none hsl), .append (.vals _) (.none hlid'), trivial⟩
            · simpa using hlen2
          · (repeat (first | refine wN ?_ | refine wP rfl ?_ | refine cx_r rfl ?_ | refine cx_d (by kernel_rfl) rfl ?_ | refine wO rfl rfl ?_))
            refine VS.back ((la ++ lb).length - ((0 : Nat) + 1)) (by omega) ⟨_, _, ?_, ?_, ?_, ?_, ⟨(0 : Nat) + 1, true, by omega, rfl, plain_snoc hy hpl rfl, .inr ⟨hNp, vs, spare, cap, hrow1, hlen', hzc, hcc, hsok, hsl, .inr ⟨by omega, [[.int .u8 (kd : Int), .bool s8a, .slice p8a n8a c8a, .bool t8a, .slice y8a m8a d8a, .bool s8b, .slice p8b n8b c8b, .bool t8b, .slice y8b m8b d8b]], spare', cap', hrow', ?_, by omega, hc2, hok', hlid', rfl, rfl⟩⟩⟩⟩
            · refine ⟨rfl, rfl, rfl, rfl, rfl, ?_, trivial⟩
              rfl
            · exact ⟨rfl, rfl, trivial⟩
            · rfl
            · exact ⟨.append (.vals _) (.none hsl), .append (.vals _) (.none hlid'), trivial⟩
            · simpa using hlen2
          · (repeat (first | refine wN ?_ | refine wP rfl ?_ | refine cx_r rfl ?_ | refine cx_d (by kernel_rfl) rfl ?_ | refine wO rfl rfl ?_))
            refine VS.back ((la ++ lb).length - ((0 : Nat) + 1)) (by omega) ⟨_, _, ?_, ?_, ?_, ?_, ⟨(0 : Nat) + 1, true, by omega, rfl, plain_snoc hy hpl rfl, .inr ⟨hNp, vs, spare, cap, hrow1, hlen', hzc, hcc, hsok, hsl, .inr ⟨by omega, [[.int .u8 (kd : Int), .bool s8a, .slice p8a n8a c8a, .bool t8a, .slice y8a m8a d8a, .bool s8b, .slice p8b n8b c8b, .bool t8b, .slice y8b m8b d8b]], spare', cap', hrow', ?_, by omega, hc2, hok', hlid', rfl, rfl⟩⟩⟩⟩
            · refine ⟨rfl, rfl, rfl, rfl, rfl, ?_, trivial⟩
              rfl
            · exact ⟨rfl, rfl, trivial⟩
            · rfl
            · exact ⟨.append (.vals _) (.none hsl), .append (.vals _) (.none hlid'), trivial⟩
            · simpa using hlen2
          · (repeat (first | refine wN ?_ | refine wP rfl ?_ | refine cx_r rfl ?_ | refine cx_d (by kernel_rfl) rfl ?_ | refine wO rfl rfl ?_))
            refine VS.back ((la ++ lb).length - ((0 : Nat) + 1)) (by omega) ⟨_, _, ?_, ?_, ?_, ?_, ⟨(0 : Nat) + 1, true, by omega, rfl, plain_snoc hy hpl rfl, .inr ⟨hNp, vs, spare, cap, hrow1, hlen', hzc, hcc, hsok, hsl, .inr ⟨by omega, [[.int .u8 (kd : Int), .bool s8a, .slice p8a n8a c8a, .bool t8a, .slice y8a m8a d8a, .bool s8b, .slice p8b n8b c8b, .bool t8b, .slice y8b m8b d8b]], spare', cap', hrow', ?_, by omega, hc2, hok', hlid', rfl, rfl⟩⟩⟩⟩
            · refine ⟨rfl, rfl, rfl, rfl, rfl, ?_, trivial⟩
              rfl
            · exact ⟨rfl, rfl, trivial⟩
            · rfl
            · exact ⟨.append (.vals _) (.none hsl), .append (.vals _) (.none hlid'), trivial⟩
            · simpa using hlen2
          · (repeat (first | refine wN ?_ | refine wP rfl ?_ | refine cx_r rfl ?_ | refine cx_d (by kernel_rfl) rfl ?_ | refine wO rfl rfl ?_))
            refine VS.back ((la ++ lb).length - ((0 : Nat) + 1)) (by omega) ⟨_, _, ?_, ?_, ?_, ?_, ⟨(0 : Nat) + 1, true, by omega, rfl, plain_snoc hy hpl rfl, .inr ⟨hNp, vs, spare, cap, hrow1, hlen', hzc, hcc, hsok, hsl, .inr ⟨by omega, [[.int .u8 (kd : Int), .bool s8a, .slice p8a n8a c8a, .bool t8a, .slice y8a m8a d8a, .bool s8b, .slice p8b n8b c8b, .bool t8b, .slice y8b m8b d8b]], spare', cap', hrow', ?_, by omega, hc2, hok', hlid', rfl, rfl⟩⟩⟩⟩
            · refine ⟨rfl, rfl, rfl, rfl, rfl, ?_, trivial⟩
              rfl
            · exact ⟨rfl, rfl, trivial⟩
            · rfl
            · exact ⟨.append (.vals _) (.none hsl), .append (.vals _) (.none hlid'), trivial⟩
            · simpa using hlen2
          · (repeat (first | refine wN ?_ | refine wP rfl ?_ | refine cx_r rfl ?_ | refine cx_d (by kernel_rfl) rfl ?_ | refine wO rfl rfl ?_))
            refine VS.back ((la ++ lb).length - ((0 : Nat) + 1)) (by omega) ⟨_, _, ?_, ?_, ?_, ?_, ⟨(0 : Nat) + 1, true, by omega, rfl, plain_snoc hy hpl rfl, .inr ⟨hNp, vs, spare, cap, hrow1, hlen', hzc, hcc, hsok, hsl, .inr ⟨by omega, [[.int .u8 (kd : Int), .bool s8a, .slice p8a n8a c8a, .bool t8a, .slice y8a m8a d8a, .bool s8b, .slice p8b n8b c8b, .bool t8b, .slice y8b m8b d8b]], spare', cap', hrow', ?_, by omega, hc2, hok', hlid', rfl, rfl⟩⟩⟩⟩
            · refine ⟨rfl, rfl, rfl, rfl, rfl, ?_, trivial⟩
              rfl
            · exact ⟨rfl, rfl, trivial⟩
            · rfl
            · exact ⟨.append (.vals _) (.none hsl), .append (.vals _) (.none hlid'), trivial⟩
            · simpa using hlen2
          · skip
            refine VO.fix 52 rfl (congrArg (fun b => AV.val (.bool b)) (show ((ky : Int) == 1) = false by rw [beq_eq_false_iff_ne]; omega)) ?_
            (repeat (first | refine wN ?_ | refine wP rfl ?_ | refine cx_r rfl ?_ | refine cx_d (by kernel_rfl) rfl ?_ | refine wO rfl rfl ?_))
            refine VO.fix 56 rfl (congrArg (fun b => AV.val (.bool b)) (show ((ky : Int) == 2) = false by rw [beq_eq_false_iff_ne]; omega)) ?_
            (repeat (first | refine wN ?_ | refine wP rfl ?_ | refine cx_r rfl ?_ | refine cx_d (by kernel_rfl) rfl ?_ | refine wO rfl rfl ?_))
            refine VO.fix 60 rfl (congrArg (fun b => AV.val (.bool b)) (show ((ky : Int) == 7) = false by rw [beq_eq_false_iff_ne]; omega)) ?_
            (repeat (first | refine wN ?_ | refine wP rfl ?_ | refine cx_r rfl ?_ | refine cx_d (by kernel_rfl) rfl ?_ | refine wO rfl rfl ?_))
            refine VO.fix 64 rfl (congrArg (fun b => AV.val (.bool b)) (show ((ky : Int) == 10) = false by rw [beq_eq_false_iff_ne]; omega)) ?_
            (repeat (first | refine wN ?_ | refine wP rfl ?_ | refine cx_r rfl ?_ | refine cx_d (by kernel_rfl) rfl ?_ | refine wO rfl rfl ?_))
            refine VO.fix 68 rfl (congrArg (fun b => AV.val (.bool b)) (show ((ky : Int) == 8) = false by rw [beq_eq_false_iff_ne]; omega)) ?_
            (repeat (first | refine wN ?_ | refine wP rfl ?_ | refine cx_r rfl ?_ | refine cx_d (by kernel_rfl) rfl ?_ | refine wO rfl rfl ?_))
            refine VO.fix 72 rfl (congrArg (fun b => AV.val (.bool b)) (show ((ky : Int) == 9) = false by rw [beq_eq_false_iff_ne]; omega)) ?_
            (repeat (first | refine wN ?_ | refine wP rfl ?_ | refine cx_r rfl ?_ | refine cx_d (by kernel_rfl) rfl ?_ | refine wO rfl rfl ?_))
            refine VO.fix 76 rfl (congrArg (fun b => AV.val (.bool b)) (show ((ky : Int) == 0) = false by rw [beq_eq_false_iff_ne]; omega)) ?_
            (repeat (first | refine wN ?_ | refine wP rfl ?_ | refine cx_r rfl ?_ | refine cx_d (by kernel_rfl) rfl ?_ | refine wO rfl rfl ?_))
            refine VS.back ((la ++ lb).length - ((0 : Nat) + 1)) (by omega) ⟨_, _, ?_, ?_, ?_, ?_, ⟨(0 : Nat) + 1, (decide ((ky : Int) > 11)), by omega, rfl, (plain_snoc hy hpl (plain_big hno).symm).trans (Bool.true_and _), .inr ⟨hNp, vs, spare, cap, hrow1, hlen', hzc, hcc, hsok, hsl, .inr ⟨by omega, [[.int .u8 (kd : Int), .bool s8a, .slice p8a n8a c8a, .bool t8a, .slice y8a m8a d8a, .bool s8b, .slice p8b n8b c8b, .bool t8b, .slice y8b m8b d8b]], spare', cap', hrow', ?_, by omega, hc2, hok', hlid', rfl, rfl⟩⟩⟩⟩
            · refine ⟨rfl, rfl, rfl, rfl, rfl, ?_, trivial⟩
              rfl
            · exact ⟨rfl, rfl, trivial⟩
            · rfl
            · exact ⟨.append (.vals _) (.none hsl), .append (.vals _) (.none hlid'), trivial⟩
            · simpa using hlen2
      · refine VS.condN rfl (decide_eq_false (fun e => hlt (Int.ofNat_lt.1 e))) ?_
        obtain hzN : (0 : Nat) = (la ++ lb).length := by omega
        (repeat (first | refine wN ?_ | refine wP rfl ?_ | refine cx_r rfl ?_ | refine cx_d (by kernel_rfl) rfl ?_ | refine wO rfl rfl ?_))
        exfalso
        omega
    · (repeat (first | refine wN ?_ | refine wP rfl ?_ | refine cx_r rfl ?_ | refine cx_d (by kernel_rfl) rfl ?_ | refine wO rfl rfl ?_))
      by_cases hlt : z < (la ++ lb).length
      · obtain ⟨x, hx⟩ : ∃ x, (la ++ lb)[(la ++ lb).length - 1 - z]? = some x := ⟨_, List.getElem?_eq_getElem (by omega)⟩
        have hxr : (la ++ lb).reverse[z]? = some x := by rw [List.getElem?_reverse (by omega)]; exact hx
        obtain ⟨y, hy⟩ : ∃ y, (la ++ lb)[z]? = some y := ⟨_, List.getElem?_eq_getElem (by omega)⟩
        obtain ⟨cx, hcx, hex⟩ := hrow.at _ x hx
        obtain ⟨cy, hcy, hey⟩ := hrow.at _ y hy
        obtain ⟨s8a, p8a, n8a, c8a, t8a, y8a, m8a, d8a, s8b, p8b, n8b, c8b, t8b, y8b, m8b, d8b, rfl, hkx, hArx, hTox⟩ := hex
        obtain ⟨s9a, p9a, n9a, c9a, t9a, y9a, m9a, d9a, s9b, p9b, n9b, c9b, t9b, y9b, m9b, d9b, rfl, hky, _, _⟩ := hey
        obtain ⟨kd, ax, tx⟩ := x
        obtain ⟨ky, ay, ty⟩ := y
        refine VS.condY rfl (decide_eq_true (Int.ofNat_lt.2 hlt)) ?_
        (repeat (first | refine wN ?_ | refine wP rfl ?_ | refine cx_r rfl ?_ | refine cx_d (by kernel_rfl) rfl ?_ | refine wO rfl rfl ?_))
        refine VO.fix 38 rfl (congrArg (fun z => AV.val (.int .i64 z)) (back_idx hlt hl30)) ?_
        refine VO.cond rfl ⟨by omega, by omega⟩ ?_
        refine wV rfl ?_
        (repeat (first | refine wN ?_ | refine wP rfl ?_ | refine cx_r rfl ?_ | refine cx_d (by kernel_rfl) rfl ?_ | refine wO rfl rfl ?_))
        refine VO.peek rfl (([.int .u8 (kd : Int), .bool s8a, .slice p8a n8a c8a, .bool t8a, .slice y8a m8a d8a, .bool s8b, .slice p8b n8b c8b, .bool t8b, .slice y8b m8b d8b] : List Value).map AV.val) rfl (row_peek (itm_ok 6) hrow spare hcx) (wV rfl ?_)
        (repeat (first | refine wN ?_ | refine wP rfl ?_ | refine cx_r rfl ?_ | refine cx_d (by kernel_rfl) rfl ?_ | refine wO rfl rfl ?_))
        obtain ⟨hok1, hln1⟩ := hrowt.ok (itm_ok 6)
        have htl : ((la ++ lb).reverse.take z).length = z := by rw [List.length_take, List.length_reverse]; omega
        refine VO.app (cx_ok _ _) (t := 22) (e := 51) (sz := 9) (n := z) (c := capt) (mm := 1) (known := vt.flatten.map .val) (spare := sparet) (del := some 42) (news := ([.int .u8 (kd : Int), .bool s8a, .slice p8a n8a c8a, .bool t8a, .slice y8a m8a d8a, .bool s8b, .slice p8b n8b c8b, .bool t8b, .slice y8b m8b d8b] : List Value).map .val) (dst := 42) rfl rfl rfl rfl rfl rfl rfl rfl (Nat.le_of_ble_eq_true rfl) rfl (.inr ⟨42, rfl, rfl, rfl⟩) (.inr rfl) (by rw [List.length_map, hln1, htl]) hlent hzct hcct ⟨lidsOf_vals _, hslt, rfl⟩ ⟨vals_ok hok1, hsokt, rfl⟩ rfl (by omega)
          (fun w1 β k1 b1 ho => ⟨_, _, rfl, .inr ⟨β 41, 0, rfl, own_src (rest := []) (ho.own 41 (.base (List.mem_append_right _ (List.mem_singleton.2 rfl))) _ _ rfl) rfl⟩⟩)
          (fun w13 cap' spare' ρ k13 b13 hρ hc1 hc2 hlen2 hok' hlid' => VO.fixH 25 rfl (fgl_none (by rw [lidsOf_append, lidsOf_vals, hsl]; rfl) _ _) (wV rfl ?_))
        (repeat (first | refine wN ?_ | refine wP rfl ?_ | refine cx_r rfl ?_ | refine cx_d (by kernel_rfl) rfl ?_ | refine wO rfl rfl ?_))
        refine VO.cond rfl ⟨by omega, by omega⟩ ?_
        refine wV rfl ?_
        (repeat (first | refine wN ?_ | refine wP rfl ?_ | refine cx_r rfl ?_ | refine cx_d (by kernel_rfl) rfl ?_ | refine wO rfl rfl ?_))
        refine VO.peek rfl (([.int .u8 (ky : Int)] : List Value).map AV.val) rfl (row_peek_sub (itm_ok 6) hrow spare hcy 0 _ ⟨_, rfl⟩) (wV rfl ?_)
        (repeat (first | refine wN ?_ | refine wP rfl ?_ | refine cx_r rfl ?_ | refine cx_d (by kernel_rfl) rfl ?_ | refine wO rfl rfl ?_))
        have hrow' : RowE (ItmE 6) w13 ((la ++ lb).reverse.take (z + 1)) (vt ++ [[.int .u8 (kd : Int), .bool s8a, .slice p8a n8a c8a, .bool t8a, .slice y8a m8a d8a, .bool s8b, .slice p8b n8b c8b, .bool t8b, .slice y8b m8b d8b]]) := by
          rw [take_snoc_at hxr]
          exact (hrowt.kp (itm_ok 6) (by (with_reducible (repeat (first | assumption | exact kU _ | exact kR _ | refine kT ?_ (by assumption)))))).snoc (ItmE.mk hkx (hArx.kp (by (with_reducible (repeat (first | assumption | exact kU _ | exact kR _ | refine kT ?_ (by assumption)))))) (hTox.kp (by (with_reducible (repeat (first | assumption | exact kU _ | exact kR _ | refine kT ?_ (by assumption)))))))
        have hrow1 : RowE (ItmE 6) w13 (la ++ lb) vs := hrow.kp (itm_ok 6) (by (with_reducible (repeat (first | assumption | exact kU _ | exact kR _ | refine kT ?_ (by assumption)))))
        cases pl with
        | false =>
          (repeat (first | refine wN ?_ | refine wP rfl ?_ | refine cx_r rfl ?_ | refine cx_d (by kernel_rfl) rfl ?_ | refine wO rfl rfl ?_))
          refine VS.back ((la ++ lb).length - (z + 1)) (by omega) ⟨_, _, ?_, ?_, ?_, ?_, ⟨z + 1, false, by omega, rfl, plain_snoc hy hpl rfl, .inr ⟨hNp, vs, spare, cap, hrow1, hlen', hzc, hcc, hsok, hsl, .inr ⟨by omega, vt ++ [[.int .u8 (kd : Int), .bool s8a, .slice p8a n8a c8a, .bool t8a, .slice y8a m8a d8a, .bool s8b, .slice p8b n8b c8b, .bool t8b, .slice y8b m8b d8b]], spare', cap', hrow', ?_, by omega, hc2, hok', hlid', rfl, rfl⟩⟩⟩⟩
          · refine ⟨rfl, rfl, rfl, rfl, rfl, ?_, trivial⟩
            rw [← nat_step (i := z) (by omega)]; rfl
          · exact ⟨rfl, congrArg (fun l => some (_, l ++ spare')) (by simp), trivial⟩
          · rfl
          · exact ⟨.append (.vals _) (.none hsl), .append (.vals _) (.none hlid'), trivial⟩
          · simpa using hlen2
        | true =>
          (repeat (first | refine wN ?_ | refine wP rfl ?_ | refine cx_r rfl ?_ | refine cx_d (by kernel_rfl) rfl ?_ | refine wO rfl rfl ?_))
          have hcase : ky = 1 ∨ ky = 2 ∨ ky = 7 ∨ ky = 10 ∨ ky = 8 ∨ ky = 9 ∨ ky = 0 ∨ ¬ (ky = 1 ∨ ky = 2 ∨ ky = 7 ∨ ky = 10 ∨ ky = 8 ∨ ky = 9 ∨ ky = 0) := by omega
          rcases hcase with rfl | rfl | rfl | rfl | rfl | rfl | rfl | hno
          · (repeat (first | refine wN ?_ | refine wP rfl ?_ | refine cx_r rfl ?_ | refine cx_d (by kernel_rfl) rfl ?_ | refine wO rfl rfl ?_))
            refine VS.back ((la ++ lb).length - (z + 1)) (by omega) ⟨_, _, ?_, ?_, ?_, ?_, ⟨z + 1, true, by omega, rfl, plain_snoc hy hpl rfl, .inr ⟨hNp, vs, spare, cap, hrow1, hlen', hzc, hcc, hsok, hsl, .inr ⟨by omega, vt ++ [[.int .u8 (kd : Int), .bool s8a, .slice p8a n8a c8a, .bool t8a, .slice y8a m8a d8a, .bool s8b, .slice p8b n8b c8b, .bool t8b, .slice y8b m8b d8b]], spare', cap', hrow', ?_, by omega, hc2, hok', hlid', rfl, rfl⟩⟩⟩⟩
            · refine ⟨rfl, rfl, rfl, rfl, rfl, ?_, trivial⟩
              rw [← nat_step (i := z) (by omega)]; rfl
            · exact ⟨rfl, congrArg (fun l => some (_, l ++ spare')) (by simp), trivial⟩
            · rfl
            · exact ⟨.append (.vals _) (.none hsl), .append (.vals _) (.none hlid'), trivial⟩
            · simpa using hlen2
          · (repeat (first | refine wN ?_ | refine wP rfl ?_ | refine cx_r rfl ?_ | refine cx_d (by kernel_rfl) rfl ?_ | refine wO rfl rfl ?_))
            refine VS.back ((la ++ lb).length - (z + 1)) (by omega) ⟨_, _, ?_, ?_, ?_, ?_, ⟨z + 1, true, by omega, rfl, plain_snoc hy hpl rfl, .inr ⟨hNp, vs, spare, cap, hrow1, hlen', hzc, hcc, hsok, hsl, .inr ⟨by omega, vt ++ [[.int .u8 (kd : Int), .bool s8a, .slice p8a n8a c8a, .bool t8a, .slice y8a m8a d8a, .bool s8b, .slice p8b n8b c8b, .bool t8b, .slice y8b m8b d8b]], spare', cap', hrow', ?_, by omega, hc2, hok', hlid', rfl, rfl⟩⟩⟩⟩
            · refine ⟨rfl, rfl, rfl, rfl, rfl, ?_, trivial⟩
              rw [← nat_step (i := z) (by omega)]; rfl
            · exact ⟨rfl, congrArg (fun l => some (_, l ++ spare')) (by simp), trivial⟩
            · rfl
            · exact ⟨.append (.vals _) (.none hsl), .append (.vals _) (.none hlid'), trivial⟩
            · simpa using hlen2
          · (repeat (first | refine wN ?_ | refine wP rfl ?_ | refine cx_r rfl ?_ | refine cx_d (by kernel_rfl) rfl ?_ | refine wO rfl rfl ?_))
            refine VS.back ((la ++ lb).length - (z + 1)) (by omega) ⟨_, _, ?_, ?_, ?_, ?_, ⟨z + 1, true, by omega, rfl, plain_snoc hy hpl rfl, .inr ⟨hNp, vs, spare, cap, hrow1, hlen', hzc, hcc, hsok, hsl, .inr ⟨by omega, vt ++ [[.int .u8 (kd : Int), .bool s8a, .slice p8a n8a c8a, .bool t8a, .slice y8a m8a d8a, .bool s8b, .slice p8b n8b c8b, .bool t8b, .slice y8b m8b d8b]], spare', cap', hrow', ?_, by omega, hc2, hok', hlid', rfl, rfl⟩⟩⟩⟩
            · refine ⟨rfl, rfl, rfl, rfl, rfl, ?_, trivial⟩
              rw [← nat_step (i := z) (by omega)]; rfl
            · exact ⟨rfl, congrArg (fun l => some (_, l ++ spare')) (by simp), trivial⟩
            · rfl
            · exact ⟨.append (.vals _) (.none hsl), .append (.vals _) (.none hlid'), trivial⟩
            · simpa using hlen2
          · (repeat (first | refine wN ?_ | refine wP rfl ?_ | refine cx_r rfl ?_ | refine cx_d (by kernel_rfl) rfl ?_ | refine wO rfl rfl ?_))
            refine VS.back ((la ++ lb).length - (z + 1)) (by omega) ⟨_, _, ?_, ?_, ?_, ?_, ⟨z + 1, true, by omega, rfl, plain_snoc hy hpl rfl, .inr ⟨hNp, vs, spare, cap, hrow1, hlen', hzc, hcc, hsok, hsl, .inr ⟨by omega, vt ++ [[.int .u8 (kd : Int), .bool s8a, .slice p8a n8a c8a, .bool t8a, .slice y8a m8a d8a, .bool s8b, .slice p8b n8b c8b, .bool t8b, .slice y8b m8b d8b]], spare', cap', hrow', ?_, by omega, hc2, hok', hlid', rfl, rfl⟩⟩⟩⟩
            · refine ⟨rfl, rfl, rfl, rfl, rfl, ?_, trivial⟩
              rw [← nat_step (i := z) (by omega)]; rfl
            · exact ⟨rfl, congrArg (fun l => some (_, l ++ spare')) (by simp), trivial⟩
            · rfl
            · exact ⟨.append (.vals _) (.none hsl), .append (.vals _) (.none hlid'), trivial⟩
            · simpa using hlen2
          · (repeat (first | refine wN ?_ | refine wP rfl ?_ | refine cx_r rfl ?_ | refine cx_d (by kernel_rfl) rfl ?_ | refine wO rfl rfl ?_))
            refine VS.back ((la ++ lb).length - (z + 1)) (by omega) ⟨_, _, ?_, ?_, ?_, ?_, ⟨z + 1, true, by omega, rfl, plain_snoc hy hpl rfl, .inr ⟨hNp, vs, spare, cap, hrow1, hlen', hzc, hcc, hsok, hsl, .inr ⟨by omega, vt ++ [[.int .u8 (kd : Int), .bool s8a, .slice p8a n8a c8a, .bool t8a, .slice y8a m8a d8a, .bool s8b, .slice p8b n8b c8b, .bool t8b, .slice y8b m8b d8b]], spare', cap', hrow', ?_, by omega, hc2, hok', hlid', rfl, rfl⟩⟩⟩⟩
            · refine ⟨rfl, rfl, rfl, rfl, rfl, ?_, trivial⟩
              rw [← nat_step (i := z) (by omega)]; rfl
            · exact ⟨rfl, congrArg (fun l => some (_, l ++ spare')) (by simp), trivial⟩
            · rfl
            · exact ⟨.append (.vals _) (.none hsl), .append (.vals _) (.none hlid'), trivial⟩
            · simpa using hlen2
          · (repeat (first | refine wN ?_ | refine wP rfl ?_ | refine cx_r rfl ?_ | refine cx_d (by kernel_rfl) rfl ?_ | refine wO rfl rfl ?_))
            refine VS.back ((la ++ lb).length - (z + 1)) (by omega) ⟨_, _, ?_, ?_, ?_, ?_, ⟨z + 1, true, by omega, rfl, plain_snoc hy hpl rfl, .inr ⟨hNp, vs, spare, cap, hrow1, hlen', hzc, hcc, hsok, hsl, .inr ⟨by omega, vt ++ [[.int .u8 (kd : Int), .bool s8a, .slice p8a n8a c8a, .bool t8a, .slice y8a m8a d8a, .bool s8b, .slice p8b n8b c8b, .bool t8b, .slice y8b m8b d8b]], spare', cap', hrow', ?_, by omega, hc2, hok', hlid', rfl, rfl⟩⟩⟩⟩
            · refine ⟨rfl, rfl, rfl, rfl, rfl, ?_, trivial⟩
              rw [← nat_step (i := z) (by omega)]; rfl
            · exact ⟨rfl, congrArg (fun l => some (_, l ++ spare')) (by simp), trivial⟩
            · rfl
            · exact ⟨.append (.vals _) (.none hsl), .append (.vals _) (.none hlid'), trivial⟩
            · simpa using hlen2
          · (repeat (first | refine wN ?_ | refine wP rfl ?_ | refine cx_r rfl ?_ | refine cx_d (by kernel_rfl) rfl ?_ | refine wO rfl rfl ?_))
            refine VS.back ((la ++ lb).length - (z + 1)) (by omega) ⟨_, _, ?_, ?_, ?_, ?_, ⟨z + 1, true, by omega, rfl, plain_snoc hy hpl rfl, .inr ⟨hNp, vs, spare, cap, hrow1, hlen', hzc, hcc, hsok, hsl, .inr ⟨by omega, vt ++ [[.int .u8 (kd : Int), .bool s8a, .slice p8a n8a c8a, .bool t8a, .slice y8a m8a d8a, .bool s8b, .slice p8b n8b c8b, .bool t8b, .slice y8b m8b d8b]], spare', cap', hrow', ?_, by omega, hc2, hok', hlid', rfl, rfl⟩⟩⟩⟩
            · refine ⟨rfl, rfl, rfl, rfl, rfl, ?_, trivial⟩
              rw [← nat_step (i := z) (by omega)]; rfl
            · exact ⟨rfl, congrArg (fun l => some (_, l ++ spare')) (by simp), trivial⟩
            · rfl
            · exact ⟨.append (.vals _) (.none hsl), .append (.vals _) (.none hlid'), trivial⟩
            · simpa using hlen2
          · skip
            refine VO.fix 52 rfl (congrArg (fun b => AV.val (.bool b)) (show ((ky : Int) == 1) = false by rw [beq_eq_false_iff_ne]; omega)) ?_
            (repeat (first | refine wN ?_ | refine wP rfl ?_ | refine cx_r rfl ?_ | refine cx_d (by kernel_rfl) rfl ?_ | refine wO rfl rfl ?_))
            refine VO.fix 56 rfl (congrArg (fun b => AV.val (.bool b)) (show ((ky : Int) == 2) = false by rw [beq_eq_false_iff_ne]; omega)) ?_
            (repeat (first | refine wN ?_ | refine wP rfl ?_ | refine cx_r rfl ?_ | refine cx_d (by kernel_rfl) rfl ?_ | refine wO rfl rfl ?_))
            refine VO.fix 60 rfl (congrArg (fun b => AV.val (.bool b)) (show ((ky : Int) == 7) = false by rw [beq_eq_false_iff_ne]; omega)) ?_
            (repeat (first | refine wN ?_ | refine wP rfl ?_ | refine cx_r rfl ?_ | refine cx_d (by kernel_rfl) rfl ?_ | refine wO rfl rfl ?_))
            refine VO.fix 64 rfl (congrArg (fun b => AV.val (.bool b)) (show ((ky : Int) == 10) = false by rw [beq_eq_false_iff_ne]; omega)) ?_
            (repeat (first | refine wN ?_ | refine wP rfl ?_ | refine cx_r rfl ?_ | refine cx_d (by kernel_rfl) rfl ?_ | refine wO rfl rfl ?_))
            refine VO.fix 68 rfl (congrArg (fun b => AV.val (.bool b)) (show ((ky : Int) == 8) = false by rw [beq_eq_false_iff_ne]; omega)) ?_
            (repeat (first | refine wN ?_ | refine wP rfl ?_ | refine cx_r rfl ?_ | refine cx_d (by kernel_rfl) rfl ?_ | refine wO rfl rfl ?_))
            refine VO.fix 72 rfl (congrArg (fun b => AV.val (.bool b)) (show ((ky : Int) == 9) = false by rw [beq_eq_false_iff_ne]; omega)) ?_
            (repeat (first | refine wN ?_ | refine wP rfl ?_ | refine cx_r rfl ?_ | refine cx_d (by kernel_rfl) rfl ?_ | refine wO rfl rfl ?_))
            refine VO.fix 76 rfl (congrArg (fun b => AV.val (.bool b)) (show ((ky : Int) == 0) = false by rw [beq_eq_false_iff_ne]; omega)) ?_
            (repeat (first | refine wN ?_ | refine wP rfl ?_ | refine cx_r rfl ?_ | refine cx_d (by kernel_rfl) rfl ?_ | refine wO rfl rfl ?_))
            refine VS.back ((la ++ lb).length - (z + 1)) (by omega) ⟨_, _, ?_, ?_, ?_, ?_, ⟨z + 1, (decide ((ky : Int) > 11)), by omega, rfl, (plain_snoc hy hpl (plain_big hno).symm).trans (Bool.true_and _), .inr ⟨hNp, vs, spare, cap, hrow1, hlen', hzc, hcc, hsok, hsl, .inr ⟨by omega, vt ++ [[.int .u8 (kd : Int), .bool s8a, .slice p8a n8a c8a, .bool t8a, .slice y8a m8a d8a, .bool s8b, .slice p8b n8b c8b, .bool t8b, .slice y8b m8b d8b]], spare', cap', hrow', ?_, by omega, hc2, hok', hlid', rfl, rfl⟩⟩⟩⟩
            · refine ⟨rfl, rfl, rfl, rfl, rfl, ?_, trivial⟩
              rw [← nat_step (i := z) (by omega)]; rfl
            · exact ⟨rfl, congrArg (fun l => some (_, l ++ spare')) (by simp), trivial⟩
            · rfl
            · exact ⟨.append (.vals _) (.none hsl), .append (.vals _) (.none hlid'), trivial⟩
            · simpa using hlen2
      · refine VS.condN rfl (decide_eq_false (fun e => hlt (Int.ofNat_lt.1 e))) ?_
        obtain hzN : z = (la ++ lb).length := by omega
        (repeat (first | refine wN ?_ | refine wP rfl ?_ | refine cx_r rfl ?_ | refine cx_d (by kernel_rfl) rfl ?_ | refine wO rfl rfl ?_))
        have hrev : RowE (ItmE 6) wJ (la ++ lb).reverse vt := by rw [List.take_of_length_le (by rw [List.length_reverse]; omega)] at hrowt; exact hrowt
        have hall : (la ++ lb).all (fun x => plainK x.1) = pl := by rw [List.take_of_length_le (by omega)] at hpl; exact hpl
        refine VO.callF rfl (fk Tryz.func12) (fun wa10 β ka10 ba10 ho => (rOf17_any _ (la ++ lb) 6 wa10 (ownV_sl (itm_ok 6) (ho.own 25 (.base (List.mem_singleton.2 rfl)) _ _ rfl) spare rfl (hrow.kp (itm_ok 6) (by (with_reducible (repeat (first | assumption | exact kU _ | exact kR _ | refine kT ?_ (by assumption)))))) rfl hzc hcc) (by omega) (by omega) hsz60).mono ?_)
        rintro e w10 ⟨r10, rfl, q10, hb10⟩
        have q10' := q10; obtain ⟨s10a, p10a, n10a, c10a, t10a, y10a, m10a, d10a, s10b, p10b, n10b, c10b, t10b, y10b, m10b, d10b, s10c, p10c, n10c, c10c, t10c, y10c, m10c, d10c, s10d, p10d, n10d, c10d, t10d, y10d, m10d, d10d, rfl, _⟩ := q10'
        refine ⟨_, rfl, hb10, fun kb10 _ bb10 => wV rfl ?_⟩
        (repeat (first | refine wN ?_ | refine wP rfl ?_ | refine cx_r rfl ?_ | refine cx_d (by kernel_rfl) rfl ?_ | refine wO rfl rfl ?_))
        refine VO.call rfl rfl (fk Tryz.func12) (fun wa11 ka11 ba11 => (rOf17_any _ la 6 wa11 (hA6.beh (itm_ok 6) ba11) (by omega) (by omega) hszA).mono ?_)
        rintro e w11 ⟨r11, rfl, q11, hb11⟩
        have q11' := q11; obtain ⟨s11a, p11a, n11a, c11a, t11a, y11a, m11a, d11a, s11b, p11b, n11b, c11b, t11b, y11b, m11b, d11b, s11c, p11c, n11c, c11c, t11c, y11c, m11c, d11c, s11d, p11d, n11d, c11d, t11d, y11d, m11d, d11d, rfl, _⟩ := q11'
        refine ⟨_, rfl, hb11, fun kb11 _ bb11 => wV rfl ?_⟩
        (repeat (first | refine wN ?_ | refine wP rfl ?_ | refine cx_r rfl ?_ | refine cx_d (by kernel_rfl) rfl ?_ | refine wO rfl rfl ?_))
        refine VO.call rfl rfl (fk Tryz.func12) (fun wa12 ka12 ba12 => (rOf17_any _ lb 6 wa12 (hB6.beh (itm_ok 6) ba12) (by omega) (by omega) hszB).mono ?_)
        rintro e w12 ⟨r12, rfl, q12, hb12⟩
        have q12' := q12; obtain ⟨s12a, p12a, n12a, c12a, t12a, y12a, m12a, d12a, s12b, p12b, n12b, c12b, t12b, y12b, m12b, d12b, s12c, p12c, n12c, c12c, t12c, y12c, m12c, d12c, s12d, p12d, n12d, c12d, t12d, y12d, m12d, d12d, rfl, _⟩ := q12'
        refine ⟨_, rfl, hb12, fun kb12 _ bb12 => wV rfl ?_⟩
        (repeat (first | refine wN ?_ | refine wP rfl ?_ | refine cx_r rfl ?_ | refine cx_d (by kernel_rfl) rfl ?_ | refine wO rfl rfl ?_))
        refine VO.callF rfl (fk Tryz.func27) (fun wa13 β ka13 ba13 ho => (rSum17_any _ [rulesOf la, rulesOf lb] 301 wa13 (ownV_sl (pt_ok 301) (ho.own 88 (.base (List.mem_singleton.2 rfl)) _ _ rfl) [] (vs := [[.bool s11a, .slice p11a n11a c11a, .bool t11a, .slice y11a m11a d11a, .bool s11b, .slice p11b n11b c11b, .bool t11b, .slice y11b m11b d11b, .bool s11c, .slice p11c n11c c11c, .bool t11c, .slice y11c m11c d11c, .bool s11d, .slice p11d n11d c11d, .bool t11d, .slice y11d m11d d11d], [.bool s12a, .slice p12a n12a c12a, .bool t12a, .slice y12a m12a d12a, .bool s12b, .slice p12b n12b c12b, .bool t12b, .slice y12b m12b d12b, .bool s12c, .slice p12c n12c c12c, .bool t12c, .slice y12c m12c d12c, .bool s12d, .slice p12d n12d c12d, .bool t12d, .slice y12d m12d d12d]]) (by rfl) (RowE.cons ((q11.kp (by (with_reducible (repeat (first | assumption | exact kU _ | exact kR _ | refine kT ?_ (by assumption)))))).to hzA) (RowE.cons ((q12.kp (by (with_reducible (repeat (first | assumption | exact kU _ | exact kR _ | refine kT ?_ (by assumption)))))).to hzB) (RowE.nil))) rfl (Nat.le_of_ble_eq_true rfl) (by decide)) (by omega) (by omega) (Nat.le_of_ble_eq_true rfl)).mono ?_)
        rintro e w13 ⟨r13, rfl, q13, hb13⟩
        have q13' := q13; obtain ⟨s13a, p13a, n13a, c13a, t13a, y13a, m13a, d13a, s13b, p13b, n13b, c13b, t13b, y13b, m13b, d13b, s13c, p13c, n13c, c13c, t13c, y13c, m13c, d13c, s13d, p13d, n13d, c13d, t13d, y13d, m13d, d13d, rfl, _⟩ := q13'
        refine ⟨_, rfl, hb13, fun kb13 _ bb13 => wV rfl ?_⟩
        (repeat (first | refine wN ?_ | refine wP rfl ?_ | refine cx_r rfl ?_ | refine cx_d (by kernel_rfl) rfl ?_ | refine wO rfl rfl ?_))
        refine VO.call rfl rfl (fk Tryz.func29) (fun wa14 ka14 ba14 => (rSame_ok _ _ (rulesOf (la ++ lb)) (psum [rulesOf la, rulesOf lb]) 601 605 wa14 ((q10.kp (by (with_reducible (repeat (first | assumption | exact kU _ | exact kR _ | refine kT ?_ (by assumption)))))).to hz60) ((q13.kp (by (with_reducible (repeat (first | assumption | exact kU _ | exact kR _ | refine kT ?_ (by assumption)))))).to hzS) (by omega) (by omega) true (psame_of (by rw [rulesOf_append, rulesOf_two]))).mono ?_)
        rintro e w14 ⟨rfl, hb14⟩
        skip
        refine ⟨_, rfl, hb14, fun kb14 _ bb14 => wV rfl ?_⟩
        (repeat (first | refine wN ?_ | refine wP rfl ?_ | refine cx_r rfl ?_ | refine cx_d (by kernel_rfl) rfl ?_ | refine wO rfl rfl ?_))
        refine VO.callF rfl (fk Tryz.func12) (fun wa15 β ka15 ba15 ho => (rOf17_any _ (la ++ lb).reverse 6 wa15 (ownV_sl (itm_ok 6) (ho.own 42 (.base (List.mem_singleton.2 rfl)) _ _ rfl) sparet rfl (hrev.kp (itm_ok 6) (by (with_reducible (repeat (first | assumption | exact kU _ | exact kR _ | refine kT ?_ (by assumption)))))) (by rw [List.length_reverse]; exact hzN) hzct hcct) (by omega) (by omega) (by rw [List.length_reverse]; exact hsz60)).mono ?_)
        rintro e w15 ⟨r15, rfl, q15, hb15⟩
        rw [rulesOf_reverse] at q15
        have q15' := q15; obtain ⟨s15a, p15a, n15a, c15a, t15a, y15a, m15a, d15a, s15b, p15b, n15b, c15b, t15b, y15b, m15b, d15b, s15c, p15c, n15c, c15c, t15c, y15c, m15c, d15c, s15d, p15d, n15d, c15d, t15d, y15d, m15d, d15d, rfl, _⟩ := q15'
        refine ⟨_, rfl, hb15, fun kb15 _ bb15 => wV rfl ?_⟩
        (repeat (first | refine wN ?_ | refine wP rfl ?_ | refine cx_r rfl ?_ | refine cx_d (by kernel_rfl) rfl ?_ | refine wO rfl rfl ?_))
        refine VO.call rfl rfl (fk Tryz.func29) (fun wa16 ka16 ba16 => (rSame_ok _ _ (rulesOf (la ++ lb)) (rulesOf (la ++ lb)) 601 601 wa16 ((q10.kp (by (with_reducible (repeat (first | assumption | exact kU _ | exact kR _ | refine kT ?_ (by assumption)))))).to hz60) ((q15.kp (by (with_reducible (repeat (first | assumption | exact kU _ | exact kR _ | refine kT ?_ (by assumption)))))).to hz60) (by omega) (by omega) true (psame_self _)).mono ?_)
        rintro e w16 ⟨rfl, hb16⟩
        skip
        refine ⟨_, rfl, hb16, fun kb16 _ bb16 => wV rfl ?_⟩
        (repeat (first | refine wN ?_ | refine wP rfl ?_ | refine cx_r rfl ?_ | refine cx_d (by kernel_rfl) rfl ?_ | refine wO rfl rfl ?_))
        cases pl with
        | false =>
          (repeat (first | refine wN ?_ | refine wP rfl ?_ | refine cx_r rfl ?_ | refine cx_d (by kernel_rfl) rfl ?_ | refine wO rfl rfl ?_))
          refine VO.call rfl rfl (fk Tryz.func9) (fun wa17 ka17 ba17 => (works17_any wa17).mono ?_)
          rintro e w17 ⟨rfl, hb17⟩
          skip
          refine ⟨_, rfl, hb17, fun kb17 _ bb17 => wV rfl ?_⟩
          (repeat (first | refine wN ?_ | refine wP rfl ?_ | refine cx_r rfl ?_ | refine cx_d (by kernel_rfl) rfl ?_ | refine wO rfl rfl ?_))
          refine VS.ret (cx_ok _ _) rfl rfl (fun wz kz bz => ?_)
          exact ⟨rfl, bz⟩
        | true =>
          (repeat (first | refine wN ?_ | refine wP rfl ?_ | refine cx_r rfl ?_ | refine cx_d (by kernel_rfl) rfl ?_ | refine wO rfl rfl ?_))
          refine VO.call rfl rfl (fk Tryz.func15) (fun wa17 ka17 ba17 => (rdiff_any _ (rulesOf (la ++ lb)) 601 wa17 (q10.kp (by (with_reducible (repeat (first | assumption | exact kU _ | exact kR _ | refine kT ?_ (by assumption)))))) hz60 (by omega)).mono ?_)
          rintro e w17 ⟨r17, rfl, q17, hb17⟩
          obtain ⟨s17, p17, n17, c17, t17, y17, m17, d17, rfl⟩ := q17.form
          refine ⟨_, rfl, hb17, fun kb17 _ bb17 => wV rfl ?_⟩
          (repeat (first | refine wN ?_ | refine wP rfl ?_ | refine cx_r rfl ?_ | refine cx_d (by kernel_rfl) rfl ?_ | refine wO rfl rfl ?_))
          refine VO.call rfl rfl (fk Tryz.func20) (fun wa18 ka18 ba18 => (ratSign_ok _ (rulesOf (la ++ lb)).diff 3000 wa18 ((q17.kp (by (with_reducible (repeat (first | assumption | exact kU _ | exact kR _ | refine kT ?_ (by assumption)))))).in (((hz60.s.sub hz60.i).sub hz60.b).mono (by omega))) (by omega) 0 (rcmp_eq (diff_all hall))).mono ?_)
          rintro e w18 ⟨rfl, hb18⟩
          skip
          refine ⟨_, rfl, hb18, fun kb18 _ bb18 => wV rfl ?_⟩
          (repeat (first | refine wN ?_ | refine wP rfl ?_ | refine cx_r rfl ?_ | refine cx_d (by kernel_rfl) rfl ?_ | refine wO rfl rfl ?_))
          refine VO.call rfl rfl (fk Tryz.func9) (fun wa19 ka19 ba19 => (works17_any wa19).mono ?_)
          rintro e w19 ⟨rfl, hb19⟩
          skip
          refine ⟨_, rfl, hb19, fun kb19 _ bb19 => wV rfl ?_⟩
          (repeat (first | refine wN ?_ | refine wP rfl ?_ | refine cx_r rfl ?_ | refine cx_d (by kernel_rfl) rfl ?_ | refine wO rfl rfl ?_))
          refine VS.ret (cx_ok _ _) rfl rfl (fun wz kz bz => ?_)
          exact ⟨rfl, bz⟩
end Go.Proofs.YtgffhmpnkfejbaaGreat
