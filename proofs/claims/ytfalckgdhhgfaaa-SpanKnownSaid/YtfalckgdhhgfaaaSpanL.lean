/- What the statement SpanTells computes: true, at every input. -/
import Derived.Deep.RegionLaw
import Derived.Test.YtfalckgdhhgfaaaSpanH
namespace Go.Proofs.Ytfalckgdhhgfaaa
open Go.RowKit

/-- a row of bools of the call's own, whatever they are -/
def BoolRow (B : Nat) (w : World) (u : Value) (n : Nat) : Prop := ∃ bs : List Bool, bs.length = n ∧ w.ownsRow B 4 1 u n (bools bs)
theorem bools_set (bs : List Bool) (j : Nat) (b : Bool) : (bools bs).set j (.bool b) = bools (bs.set j b) := by simp [bools, List.map_set]
theorem grown_setB {w : World} {g j : Nat} {u : Value} : w.grownBy (w.setCell ⟨g, j, none⟩ u) (some g) :=
  ⟨rfl, rfl, rfl, by simp [World.setCell], fun k _ hne => Below.heap_setCell w ⟨g, j, none⟩ u k (fun e => hne (by rw [e]))⟩
theorem BoolRow.store {B : Nat} {w : World} {u : Value} {n g j : Nat} {b : Bool} (h : BoolRow B w u n) : BoolRow B (w.setCell ⟨g, j, none⟩ (.bool b)) u n := by
  obtain ⟨bs, hl, ho⟩ := h
  by_cases hn : u.ownBlock = some g
  · rcases ho.2 with ⟨rfl, _⟩ | ⟨g', cap, cur, rfl, _⟩
    · simp [Value.ownBlock] at hn
    · have : g' = g := by simpa [Value.ownBlock] using hn
      subst this
      have h1 := (ho.stored j (.bool b)).1
      rw [bools_set] at h1
      exact ⟨bs.set j b, by simp [hl], h1⟩
  · exact ⟨bs, hl, ho.kept grown_setB (.inr hn)⟩
/-- the rows that are changed behind -/
def FlipGrid (B : Nat) (w : World) (vo : Value) (n : Nat) (hs : List Value) : Prop :=
  w.ownsRow B 35 1 vo n hs ∧ ∀ (i : Nat) u, hs[i]? = some u → ∃ L, BoolRow B w u L
theorem FlipGrid.of {B : Nat} {w : World} {v : Value} {M : List (List Bool)} (h : GridOwn B w v M) : ∃ hs, FlipGrid B w v M.length hs := by
  obtain ⟨hs, h1, h2⟩ := h
  refine ⟨hs, h1, fun i u hu => ?_⟩
  have hl : hs.length = M.length := by have := h1.1; omega
  have hi : i < M.length := by rw [← hl]; exact (List.getElem?_eq_some_iff.1 hu).1
  obtain ⟨u', hu', hr⟩ := h2 i _ (List.getElem?_eq_getElem hi)
  rw [hu] at hu'
  cases hu'
  exact ⟨_, _, rfl, hr⟩
theorem FlipGrid.lt {B n : Nat} {w : World} {v : Value} {hs : List Value} (h : FlipGrid B w v n hs) : ∀ (i : Nat) u, hs[i]? = some u → ∀ g, u.ownBlock = some g → g < w.heap.size := fun i u hu g hg => by
  obtain ⟨L, bs, _, ho⟩ := h.2 i u hu
  exact (ho.lt g hg).2
theorem FlipGrid.at {B n i : Nat} {w : World} {p : Option Addr} {c : Nat} {hs : List Value} (h : FlipGrid B w (.slice p n c) n hs) (hi : i < n) :
    ∃ g u q L d, p = some ⟨g, 0, none⟩ ∧ hs[i]? = some u ∧ u = .slice q L d ∧ L ≤ d ∧ d ≤ 9223372036854775807 ∧ g < w.heap.size ∧ w.cell? ⟨g, i, none⟩ = some u ∧ BoolRow B w u L := by
  obtain ⟨g, c', hv, _, hg⟩ := Own.formPos h.1 (by omega)
  simp only [Value.slice.injEq, true_and] at hv
  obtain ⟨rfl, rfl⟩ := hv
  have hl : hs.length = n := by have := h.1.1; omega
  have hu := List.getElem?_eq_getElem (show i < hs.length by omega)
  obtain ⟨L, hb⟩ := h.2 i _ hu
  obtain ⟨bs, _, ho⟩ := id hb
  obtain ⟨q, d, hf, h1, h2, _⟩ := Own.form ho
  exact ⟨g, _, q, L, d, rfl, hu, hf, h1, by unfold maxLen at h2; omega, hg, by rw [h.1.cellAt _ (by omega)]; exact hu, hb⟩
theorem BoolRow.at {B w L q d j} (h : BoolRow B w (.slice q L d) L) (hj : j < L) : ∃ g b, q = some ⟨g, 0, none⟩ ∧ B ≤ g ∧ g < w.heap.size ∧ w.cell? ⟨g, j, none⟩ = some (.bool b) ∧ w.frozen? ⟨g, j, none⟩ = false := by
  obtain ⟨bs, hl, ho⟩ := h
  obtain ⟨g, c', hv, hg, hgl⟩ := Own.formPos ho (by omega)
  simp only [Value.slice.injEq, true_and] at hv
  obtain ⟨rfl, rfl⟩ := hv
  have hx := List.getElem?_eq_getElem (show j < bs.length by omega)
  exact ⟨g, _, rfl, hg, hgl, by rw [ho.cellAt _ (by omega), bools_get hx], ho.frozenAt _⟩
theorem FlipGrid.below {B : Nat} {w w' : World} {v : Value} {n : Nat} {hs : List Value} (h : FlipGrid B w v n hs) (hb : Below w.heap.size w w') : FlipGrid B w' v n hs :=
  ⟨Own.below h.1 hb, fun i u hu => by obtain ⟨L, bs, h1, h2⟩ := h.2 i u hu; exact ⟨L, bs, h1, Own.below h2 hb⟩⟩
theorem FlipGrid.store {B : Nat} {w : World} {v u : Value} {n L g j cap : Nat} {hs : List Value} {b : Bool} (h : FlipGrid B w v n hs) (hr : BoolRow B w u L) (hu : u = .slice (some ⟨g, 0, none⟩) L cap) : FlipGrid B (w.setCell ⟨g, j, none⟩ (.bool b)) v n hs := by
  obtain ⟨bs, _, ho⟩ := hr
  refine ⟨h.1.kept grown_setB ?_, fun i u' hu' => by obtain ⟨L', hr'⟩ := h.2 i u' hu'; exact ⟨L', hr'.store⟩⟩
  have := own_apart h.1 ho (by decide)
  rw [hu] at this
  simpa [Value.ownBlock] using this
/-- what lies beyond a block is kept -/
def Beyond (B : Nat) (w w' : World) : Prop := w.heap.size ≤ w'.heap.size ∧ ∀ k, B ≤ k → k < w.heap.size → w'.heap[k]? = w.heap[k]?
theorem Beyond.refl (B : Nat) (w : World) : Beyond B w w := ⟨Nat.le_refl _, fun _ _ _ => rfl⟩
theorem Beyond.store {B : Nat} {w w' : World} {g j : Nat} {u : Value} (h : Beyond B w w') (hg : g < B) : Beyond B w (w'.setCell ⟨g, j, none⟩ u) := by
  have hs := (grown_setB (w := w') (g := g) (j := j) (u := u)).size
  refine ⟨by have := h.1; omega, fun k hk hl => ?_⟩
  have h1 := h.1
  exact ((grown_setB (w := w') (g := g) (j := j) (u := u)).block k (by omega) (fun e => by cases e; omega)).trans (h.2 k hk hl)
theorem Own.beyond {B B' e sz n : Nat} {w w' : World} {v : Value} {cs : List Value} (h : w.ownsRow B e sz v n cs) (hb : Beyond B' w w') (hB : B' ≤ B) : w'.ownsRow B e sz v n cs := by
  refine ⟨h.1, ?_⟩
  rcases h.2 with h2 | ⟨g, cap, cur, hv, hg, hh, r⟩
  · exact .inl h2
  · exact .inr ⟨g, cap, cur, hv, hg, (hb.2 g (by omega) (Array.getElem?_eq_some_iff.1 hh).1).trans hh, r⟩
theorem GridOwn.beyond {B B' : Nat} {w w' : World} {v : Value} {M : List (List Bool)} (h : GridOwn B w v M) (hb : Beyond B' w w') (hB : B' ≤ B) : GridOwn B w' v M := by
  obtain ⟨hs, h1, h2⟩ := h
  exact ⟨hs, Own.beyond h1 hb hB, fun i r hi => by obtain ⟨u, hu, hr⟩ := h2 i r hi; exact ⟨u, hu, Own.beyond hr hb hB⟩⟩

theorem below_nil {w w' : World} (h : w.grownBy w' (Value.slice none 0 0).ownBlock) : Below w.heap.size w w' := ⟨h.os, h.tape, h.output, h.size, fun k hk => h.block k hk (by simp [Value.ownBlock])⟩
structure TellsEnv (w : World) (mv rv lv : Value) (M : List (List Bool)) (l : List Int) (b : Nat) : Prop where
  grid : RdGrid w mv M
  rows : RdGrid w rv M
  ints : Rd w 1 lv l.length (zints l)
  box : Boxed w b 26 rv
theorem TellsEnv.below {w w' : World} {mv rv lv : Value} {M : List (List Bool)} {l : List Int} {b : Nat} (h : TellsEnv w mv rv lv M l b) (hb : Below w.heap.size w w') : TellsEnv w' mv rv lv M l b :=
  ⟨h.grid.below hb, h.rows.below hb, h.ints.below hb, Boxed_below h.box hb⟩

def CopyInv (M : List (List Bool)) (w : World) (ov iv : Value) (wr : World) : Prop :=
  ∃ k : Nat, k ≤ M.length ∧ iv = .int .i64 (k : Int) ∧ GridOwn w.heap.size wr ov (M.take k) ∧ Below w.heap.size w wr
def FlipInv (w w3 : World) (B : Nat) (ov : Value) (n : Nat) (hs : List Value) (wr : World) : Prop :=
  FlipGrid w.heap.size wr ov n hs ∧ Beyond B w3 wr ∧ Below w.heap.size w wr

set_option maxRecDepth 100000 in
set_option maxHeartbeats 4000000 in
theorem spanTells_any (mv lv : Value) (y e : Int) (M : List (List Bool)) (l : List Int) (w : World) (hg : RdGrid w mv M) (hl : Rd w 1 lv l.length (zints l)) :
    Calls Try.prog 12 #[mv, .int .i64 y, .int .i64 e, lv] w fun x w' => x = .returned (.bool true) ∧ Below w.heap.size w w' := by
  obtain ⟨p, c, rfl, hnc, hcm⟩ := hg.form
  obtain ⟨q, d, rfl, hld, hdm, _⟩ := hl.form
  unfold maxLen at hdm
  refine walk_q fun R' hR' => ?_
  have HG := Lib.hid hg
  have HL := Lib.hid hl
  clear hg hl
  go_enter Try.func12, Try.ntmps12
  go_wp2_with fail
  refine (few_any _ M _ HG.out).mono ?_
  rintro x w1 ⟨⟨bb, rfl, hbb⟩, rfl⟩
  cases hfew : bb with
  | false =>
    go_wp2_with fail
    refine (works_any _).mono ?_
    rintro x w1 ⟨rfl, hb1⟩
    go_wp2_with fail
    exact hR'.out _ _ ⟨rfl, hb1⟩
  | true =>
    have hsm := hbb hfew
    have HSM := Lib.hid hsm
    have hM : M.length ≤ 50 := hsm.1
    clear hbb hsm hfew
    by_cases hl10 : l.length ≤ 10
    · go_wp2_with fail
      obtain ⟨i0, hi, hz0, hz1, hz2⟩ := info_parts infoBools
      obtain ⟨i1, hj, hy0, hy1, hy2⟩ := info_parts infoBool
      go_loopw [9, 10] (fun ov iv wr => CopyInv M w ov iv wr) (fun _ iv _ => M.length - (intOf iv).toNat)
      case atStart => exact ⟨0, Nat.zero_le _, rfl, GridOwn.nil _ _, Below.refl _ _⟩
      case round =>
        obtain ⟨k, hk, rfl, hgrid, hb⟩ := hrel
        have HGR := Lib.hid hgrid
        have HB := Lib.hid hb
        have hws := hb.size
        clear hgrid hb
        by_cases hkn : k < M.length
        · obtain ⟨bk, ok, pk, dk, r, rfl, hr, hc, hrd, hdmk, hR⟩ := (HG.out.below HB.out).rowAt hkn
          have hbk := cell_lt hc
          simp only at hbk
          obtain ⟨hs, hs1, hs2⟩ := HGR.out
          have hkl : (M.take k).length = k := by rw [List.length_take]; omega
          rw [hkl] at hs1
          have hrl : r.length ≤ 50 := HSM.out.2 r (List.mem_of_getElem? hr)
          have HR := Lib.hid hR
          have HRR := Lib.hid hr
          have HS2 := Lib.hid hs2
          clear hR hr hs2
          go_wp2_with (first
            | (at_builtin; refine wpList_append_rd wr rfl _ _ 35 rfl w.heap.size 4 i1 (.bool false) 1 1 Try.underlying35 hj hy0 hy1 hy2 rfl (by decide) (.slice none 0 0) 0 [] rfl (World.ownsRow_nil _ _ _ _) _ r.length _ rfl HR.out (bools_one _) (by unfold maxLen; omega) (by omega) hws ?_; intro v1 w1 hown1 hgr1; have hb1 := below_nil hgr1; rw [Nat.zero_add, List.nil_append] at hown1; obtain ⟨pu, cu, rfl, _, _, _⟩ := Own.form hown1)
            | (at_builtin; refine wpList_append_rd (w1.alloc _) rfl _ _ 22 rfl w.heap.size 35 i0 (.slice none 0 0) 1 24 Try.underlying22 hi hz0 hz1 hz2 rfl (by decide) u9 k hs rfl ((Own.below hs1 hb1).alloc _) _ 1 [.slice pu r.length cu] rfl (Rd.litN rfl (by omega)) (by simp [Value.oneCell']) (by unfold maxLen; omega) (by omega) (Nat.le_trans (Nat.le_trans hws hb1.size) (by simp)) ?_; intro v2 w2 hown2 hgr2))
          have hgs := GridOwn.snoc (u := .slice pu r.length cu) (hkl.symm ▸ Own.below hs1 hb1) (fun i r hi => by obtain ⟨u, h1, h2⟩ := HS2.out i r hi; exact ⟨u, h1, Own.below h2 hb1⟩) hown1 hown2 (by rw [hkl]) hgr2
          have hbs : Below w.heap.size w w2 := ((HB.out.trans (hb1.mono hws)).alloc (Nat.le_trans hws hb1.size) _).grown hgr2 (by have := hb1.size; simp; omega) fun j hj => (hs1.lt j hj).1
          have HGS := Lib.hid hgs
          have HBS := Lib.hid hbs
          clear hgs hbs hown1 hown2 hgr1 hgr2 hb1 hs1
          go_wp2_with fail
          go_roundw
          case rel => exact ⟨k + 1, by omega, by go_num, by rw [List.take_add_one, HRR.out]; exact HGS.out, HBS.out⟩
          case measure => simp [intOf]; omega
        · obtain rfl : k = M.length := by omega
          have hgo := HGR.out
          rw [List.take_length] at hgo
          have HGO := Lib.hid hgo
          obtain ⟨po, co, hvo, _, _⟩ := hgo.rd.form
          obtain ⟨hs, hfl⟩ := FlipGrid.of hgo
          have HLT := Lib.hid hfl.lt
          have HFL := Lib.hid hfl
          clear hgo hfl HGR
          subst hvo
          clear hi hz0 hz1 hz2 hj hy0 hy1 hy2
          go_wp2_with fail
          refine (of_any _ M _ HGO.out.rd (by omega) (fun r hr => by have := HSM.out.2 r hr; omega)).mono ?_
          rintro x w2 ⟨⟨rv, rfl, hg2⟩, hb2⟩
          obtain ⟨pr, cr, hvr, hrc, hrm⟩ := hg2.rd.form
          subst hvr
          have bB := Boxed.new w2 26 (.slice pr M.length cr)
          have hs2 := hb2.size
          have HG3 := Lib.hid (hg2.below ((Below.refl _ _).alloc (Nat.le_refl _) (.cells #[.slice pr M.length cr] 26)))
          have hba := Below.thn hb2 ((Below.refl _ _).alloc (Nat.le_refl _) (.cells #[.slice pr M.length cr] 26))
          have HF3 := Lib.hid (HFL.out.below hba)
          have HB3 := Lib.hid (HB.out.trans (hba.mono hws))
          have hs3 : w2.heap.size < (w2.alloc (.cells #[.slice pr M.length cr] 26)).heap.size := by simp
          clear hg2 hb2 hba HFL HGO
          obtain ⟨B2, hB2⟩ : ∃ B2, B2 = wr.heap.size := ⟨_, rfl⟩
          rw [← hB2] at hs2 HG3 HLT hws
          clear hB2
          generalize hn : M.length = n at *
          have HN := Lib.hid hn
          clear hn
          go_wp2_with fail
          generalize w2.alloc (.cells #[.slice pr n cr] 26) = w3 at *
          have HB3' := Lib.hid bB
          clear bB
          go_loopw [13] (fun iv wr' => ∃ i : Nat, i ≤ n ∧ iv = .int .i64 (i : Int) ∧ FlipInv w w3 B2 (.slice po n co) n hs wr') (fun iv _ => n - (intOf iv).toNat)
          case atStart => exact ⟨0, Nat.zero_le _, rfl, HF3.out, Beyond.refl _ _, HB3.out⟩
          case round =>
            obtain ⟨i, hin, rfl, hinv⟩ := hrel
            have HINV := Lib.hid hinv
            clear hinv
            by_cases hilt : i < n
            · obtain ⟨g, u, qi, L, di, rfl, hu, rfl, hLd, hdi, _, _, _⟩ := HINV.out.1.at hilt
              have HU := Lib.hid hu
              clear hu
              go_wp2_with fail
              go_loopw [14] (fun jv wr' => ∃ j : Nat, j ≤ L ∧ jv = .int .i64 (j : Int) ∧ FlipInv w w3 B2 (.slice (some ⟨g, 0, none⟩) n co) n hs wr') (fun jv _ => L - (intOf jv).toNat)
              case atStart => exact ⟨0, Nat.zero_le _, rfl, HINV.out⟩
              case round =>
                obtain ⟨j, hjL, rfl, hinv2⟩ := hrel
                obtain ⟨g', u', q', L', d', hg', hu', hue, _, _, hgl, hch, hbr⟩ := hinv2.1.at hilt
                rw [HU.out] at hu'
                cases hu'
                simp only [Value.slice.injEq] at hue
                obtain ⟨rfl, rfl, rfl⟩ := hue
                simp only [Option.some.injEq, Addr.mk.injEq, and_true] at hg'
                subst hg'
                have HI2 := Lib.hid hinv2
                have HBR := Lib.hid hbr
                clear hinv2 hbr
                have hi0 : (0 : Int) ≤ (i : Int) := by omega
                have hi1 : (i : Int) < (n : Int) := by omega
                by_cases hjlt : j < L
                · obtain ⟨gb, b0, rfl, hBg, hgbl, hcb, hfb⟩ := HBR.out.at hjlt
                  have hj0 : (0 : Int) ≤ (j : Int) := by omega
                  have hj1 : (j : Int) < (L : Int) := by omega
                  have hgB := HLT.out i _ HU.out gb rfl
                  have HP : Hid (FlipInv w w3 B2 (.slice (some ⟨g, 0, none⟩) n co) n hs ((World.setCell _ ⟨gb, j, none⟩ (.bool (!b0))).drew)) := ⟨HI2.out.1.store (b := !b0) HBR.out rfl, HI2.out.2.1.store hgB, (HI2.out.2.2.setCell (p := ⟨gb, j, none⟩) hBg _).drew⟩
                  go_wp2_with fail
                  go_region
                  go_wp2_with fail
                  go_roundw
                  case rel => exact ⟨j + 1, by omega, by go_num, HP.out⟩
                  case measure => simp [intOf]; omega
                · obtain rfl : j = L := by omega
                  go_wp2_with fail
                  go_roundw
                  case rel => exact ⟨i + 1, by omega, by go_num, HI2.out⟩
                  case measure => simp [intOf]; omega
            · obtain rfl : i = n := by omega
              have HE0 : Hid (TellsEnv _ (.slice p i c) (.slice pr i cr) (.slice q l.length d) M l w2.heap.size) :=
                ⟨HG.out.below HINV.out.2.2, (HG3.out.beyond HINV.out.2.1 (Nat.le_refl _)).rd, HL.out.below HINV.out.2.2, (HINV.out.2.1.2 _ hs2 HB3'.out.lt).trans HB3'.out⟩
              have HB0 := Lib.hid HINV.out.2.2
              have HF : Hid (M.length ≤ 1000) := by show _ ≤ _; rw [HN.out]; omega
              clear HINV HG3 HL HB3' HF3 HB3 HG HLT HB
              have bx0 := HE0.out.box.cell
              have lx0 := HE0.out.box.lt
              go_wp2_with fail
              refine (is_any _ y e M _ HE0.out.rows).mono ?_
              rintro x v0 ⟨rfl, hb⟩
              have HE1 := Lib.hid (HE0.out.below hb)
              have HB1 := Lib.hid (HB0.out.trans (hb.mono HB0.out.size))
              have bx1 := HE1.out.box.cell
              have lx1 := HE1.out.box.lt
              clear hb bx0 lx0
              generalize hB1 : mem M y e = bb1
              have HV1 := Lib.hid hB1
              have hn1 : (bb1 != bb1) = false := by simp
              clear hB1
              go_wp2_with fail
              refine (refIs_any _ y e M _ HE1.out.grid).mono ?_
              rintro x v' ⟨rfl, rfl⟩
              rw [HV1.out]
              go_wp2_with fail
              refine (all_any _ _ y l M _ HE1.out.rows HE1.out.ints).mono ?_
              rintro x v1 ⟨rfl, hb⟩
              have HE2 := Lib.hid (HE1.out.below hb)
              have HB2 := Lib.hid (HB1.out.trans (hb.mono HB1.out.size))
              have bx2 := HE2.out.box.cell
              have lx2 := HE2.out.box.lt
              clear hb bx1 lx1
              generalize hB2 : allB M y l = bb2
              have HV2 := Lib.hid hB2
              have hn2 : (bb2 != bb2) = false := by simp
              clear hB2
              go_wp2_with fail
              refine (refAll_any _ _ y l M _ HE2.out.grid HE2.out.ints).mono ?_
              rintro x v' ⟨rfl, rfl⟩
              rw [HV2.out]
              go_wp2_with fail
              refine (joins_any _ y e M _ HE2.out.rows).mono ?_
              rintro x v2 ⟨rfl, hb⟩
              have HE3 := Lib.hid (HE2.out.below hb)
              have HB3 := Lib.hid (HB2.out.trans (hb.mono HB2.out.size))
              have bx3 := HE3.out.box.cell
              have lx3 := HE3.out.box.lt
              clear hb bx2 lx2
              generalize hB3 : (mem M y e && !mem M (y - 1) e) = bb3
              have HV3 := Lib.hid hB3
              have hn3 : (bb3 != bb3) = false := by simp
              clear hB3
              go_wp2_with fail
              refine (refJoins_any _ y e M _ HE3.out.grid).mono ?_
              rintro x v' ⟨rfl, rfl⟩
              rw [HV3.out]
              go_wp2_with fail
              refine (leaves_any _ y e M _ HE3.out.rows).mono ?_
              rintro x v3 ⟨rfl, hb⟩
              have HE4 := Lib.hid (HE3.out.below hb)
              have HB4 := Lib.hid (HB3.out.trans (hb.mono HB3.out.size))
              have bx4 := HE4.out.box.cell
              have lx4 := HE4.out.box.lt
              clear hb bx3 lx3
              generalize hB4 : (decide (0 ≤ y ∧ y < (M.length : Int)) && !mem M y e && mem M (y - 1) e) = bb4
              have HV4 := Lib.hid hB4
              have hn4 : (bb4 != bb4) = false := by simp
              clear hB4
              go_wp2_with fail
              refine (refLeaves_any _ y e M _ HE4.out.grid).mono ?_
              rintro x v' ⟨rfl, rfl⟩
              rw [HV4.out]
              go_wp2_with fail
              refine (spansRow_any _ e M _ HE4.out.rows HF.out).mono ?_
              rintro x v4 ⟨⟨s1, rfl, ho1⟩, hb⟩
              have HE5 := Lib.hid (HE4.out.below hb)
              have HB5 := Lib.hid (HB4.out.trans (hb.mono HB4.out.size))
              have bx5 := HE5.out.box.cell
              have lx5 := HE5.out.box.lt
              clear hb bx4 lx4
              have HS1 := Lib.hid (Rd.own ho1)
              clear ho1
              go_wp2_with fail
              refine (refSpans_any _ e M _ HE5.out.grid HF.out).mono ?_
              rintro x v5 ⟨⟨s2, rfl, ho2⟩, hb⟩
              have HS1' := Lib.hid (HS1.out.below hb)
              have HE6 := Lib.hid (HE5.out.below hb)
              have HB6 := Lib.hid (HB5.out.trans (hb.mono HB5.out.size))
              have bx6 := HE6.out.box.cell
              have lx6 := HE6.out.box.lt
              clear hb bx5 lx5
              have HS2 := Lib.hid (Rd.own ho2)
              clear ho2 HS1
              go_wp2_with fail
              refine (sameL_any _ _ (spansFrom (fun z => mem M z e) M.length 0) _ HS1'.out HS2.out).mono ?_
              rintro x v6 ⟨rfl, hb⟩
              have HE7 := Lib.hid (HE6.out.below hb)
              have HB7 := Lib.hid (HB6.out.trans (hb.mono HB6.out.size))
              have bx7 := HE7.out.box.cell
              have lx7 := HE7.out.box.lt
              clear hb bx6 lx6
              go_wp2_with fail
              refine (since_any _ y e M _ HE7.out.rows).mono ?_
              rintro x v7 ⟨rfl, hb⟩
              have HE8 := Lib.hid (HE7.out.below hb)
              have HB8 := Lib.hid (HB7.out.trans (hb.mono HB7.out.size))
              have bx8 := HE8.out.box.cell
              have lx8 := HE8.out.box.lt
              clear hb bx7 lx7
              generalize hS : sinceL (spansFrom (fun z => mem M z e) M.length 0) y = sn
              have HSN := Lib.hid hS
              clear hS
              have hsn : (sn == sn) = true := by simp
              go_wp2_with fail
              refine (refSince_any _ y e M _ HE8.out.grid HF.out).mono ?_
              rintro x v8 ⟨rfl, hb⟩
              have HE9 := Lib.hid (HE8.out.below hb)
              have HB9 := Lib.hid (HB8.out.trans (hb.mono HB8.out.size))
              have bx9 := HE9.out.box.cell
              have lx9 := HE9.out.box.lt
              clear hb bx8 lx8
              rw [HSN.out]
              go_wp2_with fail
              refine (parted_any _ _ y l M _ HE9.out.rows HE9.out.ints).mono ?_
              rintro x v9 ⟨⟨r1, rfl, hr1⟩, hb⟩
              have HE10 := Lib.hid (HE9.out.below hb)
              have HB10 := Lib.hid (HB9.out.trans (hb.mono HB9.out.size))
              have bx10 := HE10.out.box.cell
              have lx10 := HE10.out.box.lt
              clear hb bx9 lx9
              have HR1 := Lib.hid hr1
              clear hr1
              have hrn : (r1 == r1) = true := by simp
              go_wp2_with fail
              refine (refParted_any _ _ y l M _ HE10.out.grid HE10.out.ints).mono ?_
              rintro x v' ⟨⟨r2, rfl, hr2⟩, rfl⟩
              obtain rfl := HR1.out.one hr2
              clear hr2
              go_wp2_with fail
              refine (works_any _).mono ?_
              rintro x vz ⟨rfl, hb⟩
              go_wp2_with fail
              exact hR'.out _ _ ⟨rfl, HB10.out.trans (hb.mono HB10.out.size)⟩
    · go_wp2_with fail
      refine (works_any _).mono ?_
      rintro x w1 ⟨rfl, hb1⟩
      go_wp2_with fail
      exact hR'.out _ _ ⟨rfl, hb1⟩

end Go.Proofs.Ytfalckgdhhgfaaa
