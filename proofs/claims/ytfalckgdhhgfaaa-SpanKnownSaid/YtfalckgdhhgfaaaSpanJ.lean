/- What the statement SpanParts computes: true, at every input. -/
import Derived.Test.YtfalckgdhhgfaaaSpanI
namespace Go.Proofs.Ytfalckgdhhgfaaa
open Go.RowKit

structure PartsEnv (w : World) (mv : Value) (M : List (List Bool)) (lv : Value) (l : List (Int × Int)) (b : Nat) : Prop where
  grid : RdGrid w mv M
  row : Rd w 2 lv l.length (spanCells l)
  box : Boxed w b 26 mv
theorem PartsEnv.below {w w' : World} {mv lv : Value} {M : List (List Bool)} {l : List (Int × Int)} {b : Nat} (h : PartsEnv w mv M lv l b) (hb : Below w.heap.size w w') : PartsEnv w' mv M lv l b :=
  ⟨h.grid.below hb, h.row.below hb, Boxed_below h.box hb⟩

def TwoRows (w : World) (B g1 g2 n : Nat) (A F : List Int) : Prop :=
  w.ownsRow B 3 1 (.slice (some ⟨g1, 0, none⟩) n n) n (zints A) ∧ w.ownsRow B 3 1 (.slice (some ⟨g2, 0, none⟩) n n) n (zints F)
def PartsInv (l : List (Int × Int)) (w : World) (g1 g2 n : Nat) (iv : Value) (wr : World) : Prop :=
  ∃ (i : Nat) (A F : List Int), i ≤ l.length ∧ iv = .int .i64 (i : Int) ∧ A.length = n ∧ Filled l i A F ∧ TwoRows wr w.heap.size g1 g2 n A F ∧ Below w.heap.size w wr
def PartsIn (l : List (Int × Int)) (w : World) (g1 g2 n i : Nat) (s : Int × Int) (yv : Value) (wr : World) : Prop :=
  ∃ (t : Nat) (A F : List Int), s.1 ≤ (t : Int) ∧ (t : Int) ≤ s.2 + 1 ∧ yv = .int .i64 (t : Int) ∧ A.length = n ∧ FillIn l i s (t : Int) A F ∧ TwoRows wr w.heap.size g1 g2 n A F ∧ Below w.heap.size w wr
theorem own_full (w : World) (base n : Nat) (e : TypeId) (cur : Array Value) (hb : base ≤ w.heap.size) (hs : cur.size = n) (hn : n ≤ 1000) : (w.alloc (.cells cur e)).ownsRow base e 1 (.slice (some ⟨w.heap.size, 0, none⟩) n n) n cur.toList :=
  ⟨by simp [hs], .inr ⟨w.heap.size, n, cur, rfl, hb, World.alloc_heap_new w _, Nat.le_refl _, by unfold maxLen; omega, by omega, by rw [Nat.mul_one, List.take_of_length_le (by simp [hs])]⟩⟩
theorem two_makes (w : World) (n : Nat) (hn : n ≤ 1000) :
    TwoRows ((w.alloc (.cells (madeCells #[Value.int .i64 0] n) 3)).alloc (.cells (madeCells #[Value.int .i64 0] n) 3)).drew w.heap.size w.heap.size (w.heap.size + 1) n (List.replicate n 0) (List.replicate n 0) ∧
      TwoRows ((w.alloc (.cells (madeCells #[Value.int .i64 0] n) 3)).alloc (.cells (madeCells #[Value.int .i64 0] n) 3)).drew w.heap.size (w.heap.size + 1) w.heap.size n (List.replicate n 0) (List.replicate n 0) := by
  have e : (madeCells #[Value.int .i64 0] n).toList = zints (List.replicate n 0) := by
    rw [toList_madeCells_one]; simp [zints]
  have hsz : (madeCells #[Value.int .i64 0] n).size = n := by rw [← Array.length_toList, e]; simp
  have a1 := (own_full w w.heap.size n 3 _ (Nat.le_refl _) hsz hn).alloc (.cells (madeCells #[Value.int .i64 0] n) 3)
  have a2 := own_full (w.alloc (.cells (madeCells #[Value.int .i64 0] n) 3)) w.heap.size n 3 _ (by simp) hsz hn
  rw [e] at a1 a2
  rw [World.size_alloc] at a2
  exact ⟨⟨a1, a2⟩, ⟨a2, a1⟩⟩

set_option maxRecDepth 100000 in
set_option maxHeartbeats 4000000 in
theorem spanParts_any (mv : Value) (e : Int) (M : List (List Bool)) (w : World) (hg : RdGrid w mv M) :
    Calls Try.prog 3 #[mv, .int .i64 e] w fun x w' => x = .returned (.bool true) ∧ Below w.heap.size w w' := by
  obtain ⟨p, c, rfl, hnc, hcm⟩ := hg.form
  refine walk_q fun R' hR' => ?_
  have HG := Lib.hid hg
  clear hg
  go_enter Try.func3, Try.ntmps3
  go_wp2_with fail
  refine (few_any _ M _ HG.out).mono ?_
  rintro x w1 ⟨⟨bb, rfl, hbb⟩, rfl⟩
  cases hfew : bb with
  | false =>
    go_wp2_with fail
    refine (works_any _).mono ?_
    rintro x w1 ⟨rfl, hb1⟩
    go_wp2_with fail
    exact hR'.out _ _ ⟨rfl, hb1⟩
  | true =>
    have hsm := hbb hfew
    have HSM := Lib.hid hsm
    have hM : M.length ≤ 50 := hsm.1
    clear hbb hsm hfew
    have bB := Boxed.new w 26 (.slice p M.length c)
    have hb0 := (Below.refl w.heap.size w).alloc (Nat.le_refl _) (.cells #[.slice p M.length c] 26)
    have hc0 := bB.cell
    have hl0 := bB.lt
    go_wp2_with fail
    refine (spansRow_any _ e M _ (HG.out.below hb0) (by omega)).mono ?_
    rintro x w2 ⟨⟨lv, rfl, hown⟩, hb2⟩
    have HF : Hid (∀ z, (fun z => mem M z e) z = true → 0 ≤ z ∧ z < (M.length : Int)) := fun z hz => ⟨(mem_year hz).1, (mem_year hz).2.1⟩
    have HLL := Lib.hid (spans_len (fun z => mem M z e) M.length)
    generalize hl : spansFrom (fun z => mem M z e) M.length 0 = l at *
    have HEL := Lib.hid hl
    have HENV : Hid (PartsEnv w2 (.slice p M.length c) M lv l w.heap.size) := ⟨HG.out.below (Below.thn hb0 hb2), Rd.own hown, Boxed_below bB hb2⟩
    have HBW := Lib.hid (Below.thn hb0 hb2)
    have hlw := (Boxed_below bB hb2).lt
    obtain ⟨lp, lc, rfl, hlc1, hlc2, _⟩ := Own.form hown
    have hln : l.length ≤ M.length := HLL.out
    generalize hn : M.length = n at *
    have HN := Lib.hid hn
    have hmk : ∀ W : World, (Instr.makeSlice 29 (.int .i64 (n : Int)) (.int .i64 (n : Int))).run Try.prog W = .ok (.slice (some ⟨W.heap.size, 0, none⟩) n n) (W.alloc (.cells (madeCells (Value.int .i64 0).cells (n * 1)) 3)) := fun W => by
      obtain ⟨i0, hi, hz0, hz1, hz2⟩ := info_parts (show (Try.prog.info? 3).map (fun i => (i.zero, i.size, i.bytes)) = some (some (.int .i64 0), 1, 8) by kernel_rfl)
      have := run_make (P := Try.prog) W 29 3 i0 (.int .i64 0) Try.underlying29 hi hz0 .i64 .i64 (n : Int) (n : Int) (by omega) (Int.le_refl _) (by rw [hz2]; omega) (by omega)
      rw [hz1, Int.toNat_natCast] at this
      exact this
    clear hl hb0 hb2 hown bB hc0 hl0 hn
    go_wp2_with fail
    go_region
    · have hT := (two_makes w2 n (by omega)).1
      have hB3 := (((Below.refl w2.heap.size w2).alloc (Nat.le_refl _) (.cells (madeCells #[Value.int .i64 0] n) 3)).alloc (by simp) (.cells (madeCells #[Value.int .i64 0] n) 3)).drew
      generalize World.drew (World.alloc (World.alloc w2 (.cells (madeCells #[Value.int .i64 0] n) 3)) (.cells (madeCells #[Value.int .i64 0] n) 3)) = w3 at *
      have HT3 := Lib.hid hT
      have HB3 := Lib.hid hB3
      clear hT hB3 hmk
      go_wp2_with fail
      go_loopw [9] (fun iv wr => PartsInv l w2 w2.heap.size (w2.heap.size + 1) n iv wr) (fun iv _ => l.length - (intOf iv).toNat)
      case atStart => exact ⟨0, _, _, Nat.zero_le _, rfl, by simp, Filled.start l n, HT3.out, HB3.out⟩
      case round =>
        obtain ⟨i, A, F, hil, rfl, hAn, hfil, hT, hb⟩ := hrel
        have HFIL := Lib.hid hfil
        have HTR := Lib.hid hT
        have HBI := Lib.hid hb
        have HE2 := Lib.hid (HENV.out.below hb)
        clear hfil hT hb
        by_cases hilt : i < l.length
        · obtain ⟨lb, lo, ⟨s1, s2⟩, rfl, hx, hlb, ha1, ha2⟩ := spanCell HENV.out.row rfl hilt
          simp only at ha1 ha2
          have hc1 := (HBI.out.cell (p := ⟨lb, lo + i * 2, none⟩) hlb).trans ha1
          have hc2 := (HBI.out.cell (p := ⟨lb, lo + i * 2 + 1, none⟩) hlb).trans ha2
          have HA1 := Lib.hid ha1
          have HA2 := Lib.hid ha2
          clear ha1 ha2
          have hrun := spans_run (fun z hz => (HF.out z hz).2) (by rw [HEL.out]; exact List.mem_of_getElem? hx)
          obtain ⟨⟨r1, r2, r3, r4⟩, r5, r6⟩ := hrun
          simp only at r1 r2 r3 r4 r5 r6
          have HX := Lib.hid hx
          have HR3 := Lib.hid r3
          clear r1 r3 r4 hx
          have q1 : decide (s1 < 0) = false := decide_eq_false (by omega)
          have q2 : decide (s2 < s1) = false := decide_eq_false (by omega)
          have q3 : decide ((n : Int) ≤ s2) = false := decide_eq_false (by omega)
          have hk0 : (0 : Int) ≤ (i : Int) := by omega
          have hk1 : (i : Int) < (l.length : Int) := by omega
          have hreg : (0 : Int) < (i : Int) → ∃ j : Nat, i = j + 1 := fun h => ⟨i - 1, by omega⟩
          by_cases hi0 : 0 < i
          · obtain ⟨j, hj⟩ : ∃ j, i = j + 1 := ⟨i - 1, by omega⟩
            obtain ⟨lb', lo', ⟨p1, p2⟩, hlp, hxp, hlbp, hd1, hd2⟩ := spanCell HE2.out.row rfl (show j < l.length by omega)
            simp only [Option.some.injEq, Addr.mk.injEq, and_true] at hlp
            obtain ⟨rfl, rfl⟩ := hlp
            simp only at hd1 hd2
            have hap : p2 + 2 ≤ s1 := by
              have hp := List.pairwise_iff_getElem.1 (spans_apart (f := fun z => mem M z e) (n := n) (fun z hz => (HF.out z hz).2))
              have h1 := (List.getElem?_eq_some_iff.1 hxp).2
              have h2 := (List.getElem?_eq_some_iff.1 HX.out).2
              have := hp j i (by rw [HEL.out]; omega) (by rw [HEL.out]; omega) (by omega)
              simp only [HEL.out, h1, h2] at this
              exact this
            have hrp := spans_run (f := fun z => mem M z e) (n := n) (fun z hz => (HF.out z hz).2) (by rw [HEL.out]; exact List.mem_of_getElem? hxp)
            have hp20 : 0 ≤ p2 := by have h1 := hrp.1.2.1; have h2 := hrp.2.1; simp only at h1 h2; omega
            have hw1 : IntKind.i64.wrap ((i : Int) - 1) = (j : Int) := by rw [IntWalk.i64_in _ (by omega)]; omega
            have hw2 : IntKind.i64.wrap (p2 + 2) = p2 + 2 := IntWalk.i64_in _ (by omega)
            have hj0 : (0 : Int) ≤ (j : Int) := by omega
            have hj1 : (j : Int) < (l.length : Int) := by omega
            have q4 : decide (0 < i) = true := decide_eq_true hi0
            have q6 : decide (s1 < p2 + 2) = false := decide_eq_false (by omega)
            have HJ := Lib.hid hj
            clear hxp hrp hap hj
            go_wp2_with fail
            go_quiet (fail)
            go_wp2_with fail
            obtain ⟨t0, rfl⟩ := Int.eq_ofNat_of_zero_le r5
            have hTq : TwoRows (wr.drewN nq) w2.heap.size w2.heap.size (w2.heap.size + 1) n A F := HTR.out
            have hbq : Below w2.heap.size w2 (wr.drewN nq) := Below.drewN HBI.out nq
            generalize wr.drewN nq = wq at *
            go_loopw [10] (fun yv wr' => PartsIn l w2 w2.heap.size (w2.heap.size + 1) n i ((t0 : Int), s2) yv wr') (fun yv _ => (s2 + 1 - intOf yv).toNat)
            case atStart => exact ⟨t0, A, F, Int.le_refl _, by simp only; omega, rfl, hAn, FillIn.begin HFIL.out, hTq, hbq⟩
            case round =>
              obtain ⟨t, A2, F2, ht1, ht2, rfl, hA2, hfi, hT2, hb2⟩ := hrel
              simp only at ht1 ht2
              have HFI := Lib.hid hfi
              have HT2 := Lib.hid hT2
              have HB2 := Lib.hid hb2
              have hk2 := (hb2.cell (p := ⟨lb, lo + i * 2 + 1, none⟩) hlb).trans HA2.out
              have hsz2 := hb2.size
              clear hfi hb2 hT2 hTq hbq
              by_cases hts : (t : Int) ≤ s2
              · obtain ⟨a0, ha0⟩ : ∃ a0, A2[t]? = some a0 := ⟨_, List.getElem?_eq_getElem (by omega)⟩
                obtain ⟨f0, hf0⟩ : ∃ f0, F2[t]? = some f0 := ⟨_, List.getElem?_eq_getElem (by have := HFI.out.1; omega)⟩
                obtain ⟨x1, x2⟩ := Own.zcell HT2.out.1 ha0
                have hO1 := Own.zstore (j := t) (x := (i : Int) + 1) HT2.out.1
                have hO2 := Own.zother (g' := w2.heap.size) (j := t) (u := .int .i64 ((i : Int) + 1)) HT2.out.2 (by omega)
                obtain ⟨y1, y2⟩ := Own.zcell hO2 hf0
                have hB4 := HB2.out.setCell (p := ⟨w2.heap.size, t, none⟩) (by simp) (.int .i64 ((i : Int) + 1))
                have z1 := (hB4.cell (p := ⟨lb, lo + i * 2, none⟩) hlb).trans HA1.out
                have hwi : IntKind.i64.wrap ((i : Int) + 1) = (i : Int) + 1 := IntWalk.i64_in _ (by omega)
                have hwt : IntKind.i64.wrap ((t : Int) + 1) = (t : Int) + 1 := IntWalk.i64_in _ (by omega)
                have HP : Hid (PartsIn l w2 w2.heap.size (w2.heap.size + 1) n i ((t0 : Int), s2) (.int .i64 ((t : Int) + 1)) ((World.setCell _ ⟨w2.heap.size, t, none⟩ (.int .i64 ((i : Int) + 1))).setCell ⟨(w2.heap.size + 1), t, none⟩ (.int .i64 (t0 : Int)))) :=
                  ⟨t + 1, A2.set t ((i : Int) + 1), F2.set t (t0 : Int), by simp only; omega, by simp only; omega, by simp, by simp [hA2], by have := HFI.out.step ht1 (by omega); simpa using this, ⟨Own.zother hO1 (by omega), Own.zstore hO2⟩, hB4.setCell (p := ⟨(w2.heap.size + 1), t, none⟩) (by simp) _⟩
                have lt1 : (t : Int) < (n : Int) := by omega
                have lt0 : (0 : Int) ≤ (t : Int) := by omega
                clear hO1 hO2 hB4
                go_wp2_with fail
                go_roundw
                case rel => exact HP.out
                case measure => simp only [intOf]; omega
              · obtain rfl : s2 = (t : Int) - 1 := by omega
                go_wp2_with fail
                go_roundw
                case rel => exact ⟨i + 1, A2, F2, by omega, by go_num, hA2, FillIn.done (s := ((t0 : Int), (t : Int) - 1)) (by have := HFI.out; simpa using this) HX.out, HT2.out, HB2.out⟩
                case measure => simp [intOf]; omega
          · have q4 : decide (0 < i) = false := decide_eq_false hi0
            go_wp2_with fail
            go_quiet (fail)
            go_wp2_with fail
            obtain ⟨t0, rfl⟩ := Int.eq_ofNat_of_zero_le r5
            have hTq : TwoRows (wr.drewN nq) w2.heap.size w2.heap.size (w2.heap.size + 1) n A F := HTR.out
            have hbq : Below w2.heap.size w2 (wr.drewN nq) := Below.drewN HBI.out nq
            generalize wr.drewN nq = wq at *
            go_loopw [10] (fun yv wr' => PartsIn l w2 w2.heap.size (w2.heap.size + 1) n i ((t0 : Int), s2) yv wr') (fun yv _ => (s2 + 1 - intOf yv).toNat)
            case atStart => exact ⟨t0, A, F, Int.le_refl _, by simp only; omega, rfl, hAn, FillIn.begin HFIL.out, hTq, hbq⟩
            case round =>
              obtain ⟨t, A2, F2, ht1, ht2, rfl, hA2, hfi, hT2, hb2⟩ := hrel
              simp only at ht1 ht2
              have HFI := Lib.hid hfi
              have HT2 := Lib.hid hT2
              have HB2 := Lib.hid hb2
              have hk2 := (hb2.cell (p := ⟨lb, lo + i * 2 + 1, none⟩) hlb).trans HA2.out
              have hsz2 := hb2.size
              clear hfi hb2 hT2 hTq hbq
              by_cases hts : (t : Int) ≤ s2
              · obtain ⟨a0, ha0⟩ : ∃ a0, A2[t]? = some a0 := ⟨_, List.getElem?_eq_getElem (by omega)⟩
                obtain ⟨f0, hf0⟩ : ∃ f0, F2[t]? = some f0 := ⟨_, List.getElem?_eq_getElem (by have := HFI.out.1; omega)⟩
                obtain ⟨x1, x2⟩ := Own.zcell HT2.out.1 ha0
                have hO1 := Own.zstore (j := t) (x := (i : Int) + 1) HT2.out.1
                have hO2 := Own.zother (g' := w2.heap.size) (j := t) (u := .int .i64 ((i : Int) + 1)) HT2.out.2 (by omega)
                obtain ⟨y1, y2⟩ := Own.zcell hO2 hf0
                have hB4 := HB2.out.setCell (p := ⟨w2.heap.size, t, none⟩) (by simp) (.int .i64 ((i : Int) + 1))
                have z1 := (hB4.cell (p := ⟨lb, lo + i * 2, none⟩) hlb).trans HA1.out
                have hwi : IntKind.i64.wrap ((i : Int) + 1) = (i : Int) + 1 := IntWalk.i64_in _ (by omega)
                have hwt : IntKind.i64.wrap ((t : Int) + 1) = (t : Int) + 1 := IntWalk.i64_in _ (by omega)
                have HP : Hid (PartsIn l w2 w2.heap.size (w2.heap.size + 1) n i ((t0 : Int), s2) (.int .i64 ((t : Int) + 1)) ((World.setCell _ ⟨w2.heap.size, t, none⟩ (.int .i64 ((i : Int) + 1))).setCell ⟨(w2.heap.size + 1), t, none⟩ (.int .i64 (t0 : Int)))) :=
                  ⟨t + 1, A2.set t ((i : Int) + 1), F2.set t (t0 : Int), by simp only; omega, by simp only; omega, by simp, by simp [hA2], by have := HFI.out.step ht1 (by omega); simpa using this, ⟨Own.zother hO1 (by omega), Own.zstore hO2⟩, hB4.setCell (p := ⟨(w2.heap.size + 1), t, none⟩) (by simp) _⟩
                have lt1 : (t : Int) < (n : Int) := by omega
                have lt0 : (0 : Int) ≤ (t : Int) := by omega
                clear hO1 hO2 hB4
                go_wp2_with fail
                go_roundw
                case rel => exact HP.out
                case measure => simp only [intOf]; omega
              · obtain rfl : s2 = (t : Int) - 1 := by omega
                go_wp2_with fail
                go_roundw
                case rel => exact ⟨i + 1, A2, F2, by omega, by go_num, hA2, FillIn.done (s := ((t0 : Int), (t : Int) - 1)) (by have := HFI.out; simpa using this) HX.out, HT2.out, HB2.out⟩
                case measure => simp [intOf]; omega
        · obtain rfl : i = l.length := by omega
          have hfy := fun y hy => filled_year (y := y) (f := fun z => mem M z e) (n := n) HF.out (by rw [HEL.out]; exact HFIL.out) hy
          rw [HEL.out] at hfy
          have HFY := Lib.hid hfy
          clear hfy
          go_wp2_with fail
          go_loopw [11] (fun yv wr' => ∃ y : Nat, y ≤ n ∧ yv = .int .i64 (y : Int) ∧ TwoRows wr' w2.heap.size w2.heap.size (w2.heap.size + 1) n A F ∧ Below w2.heap.size w2 wr') (fun yv _ => n - (intOf yv).toNat)
          case atStart => exact ⟨0, Nat.zero_le _, rfl, HTR.out, HBI.out⟩
          case round =>
            obtain ⟨y, hyn, rfl, hT3, hb3⟩ := hrel
            have HT3 := Lib.hid hT3
            have HB3 := Lib.hid hb3
            have E3 := Lib.hid (HENV.out.below hb3)
            have hs3 := hb3.size
            clear hT3 hb3
            by_cases hylt : y < n
            · have hwy : IntKind.i64.wrap ((y : Int) + 1) = (y : Int) + 1 := IntWalk.i64_in _ (by omega)
              have hy0 : (0 : Int) ≤ (y : Int) := by omega
              have hy1 : (y : Int) < (n : Int) := by omega
              rcases HFY.out y (by omega) with ⟨k, x, hk, hx, hk0, hm, hxy, hsin, hxc⟩ | ⟨hk, hm, hsin⟩
              · rcases hxc with ⟨rfl, hm1⟩ | ⟨hxlt, hm1⟩
                · obtain ⟨c1, c2⟩ := Own.zcell HT3.out.1 hk
                  have cbx := E3.out.box.cell
                  have lbx := E3.out.box.lt
                  go_wp2_with fail
                  refine (is_any _ y e M _ E3.out.grid).mono ?_
                  rintro r w4 ⟨rfl, hb4⟩
                  rw [hm]
                  have E4 := Lib.hid (E3.out.below hb4)
                  have HB4 := Lib.hid (HB3.out.trans (hb4.mono hs3))
                  have hT4 := And.intro (Own.below HT3.out.1 hb4) (Own.below HT3.out.2 hb4)
                  have cbx4 := E4.out.box.cell
                  have lbx4 := E4.out.box.lt
                  clear cbx lbx c1 c2
                  go_wp2_with fail
                  refine (joins_any _ y e M _ E4.out.grid).mono ?_
                  rintro r w5 ⟨rfl, hb5⟩
                  rw [show (mem M (y : Int) e && !mem M ((y : Int) - 1) e) = true by rw [hm, hm1]; rfl]
                  have E5 := Lib.hid (E4.out.below hb5)
                  have HB5 := Lib.hid (HB4.out.trans (hb5.mono (by have := hb4.size; omega)))
                  have hT5 := And.intro (Own.below hT4.1 hb5) (Own.below hT4.2 hb5)
                  have cbx5 := E5.out.box.cell
                  have lbx5 := E5.out.box.lt
                  obtain ⟨f1, f2⟩ := Own.zcell hT5.2 hx
                  clear cbx4 lbx4
                  go_wp2_with fail
                  refine (leaves_any _ y e M _ E5.out.grid).mono ?_
                  rintro r w6 ⟨rfl, hb6⟩
                  rw [show (decide (0 ≤ (y : Int) ∧ (y : Int) < (M.length : Int)) && !mem M (y : Int) e && mem M ((y : Int) - 1) e) = false by rw [hm, hm1]; simp]
                  have E6 := Lib.hid (E5.out.below hb6)
                  have HB6 := Lib.hid (HB5.out.trans (hb6.mono (by have := hb4.size; have := hb5.size; omega)))
                  have hT6 := And.intro (Own.below hT5.1 hb6) (Own.below hT5.2 hb6)
                  have cbx6 := E6.out.box.cell
                  have lbx6 := E6.out.box.lt
                  obtain ⟨f3, f4⟩ := Own.zcell hT6.2 hx
                  clear cbx5 lbx5
                  go_wp2_with fail
                  refine (since_any _ y e M _ E6.out.grid).mono ?_
                  rintro r w7 ⟨rfl, hb7⟩
                  rw [HN.out, HEL.out, hsin]
                  have HB7 := Lib.hid (HB6.out.trans (hb7.mono (by have := hb4.size; have := hb5.size; have := hb6.size; omega)))
                  have HT7 := Lib.hid (And.intro (Own.below hT6.1 hb7) (Own.below hT6.2 hb7))
                  clear hb4 hb5 hb6 hb7 hT4 hT5 hT6 cbx6 lbx6
                  go_wp2_with fail
                  go_roundw
                  case rel => exact ⟨y + 1, by omega, by go_num, HT7.out, HB7.out⟩
                  case measure => simp [intOf]; omega
                · have hne : (x == (y : Int)) = false := by rw [beq_eq_false_iff_ne]; omega
                  obtain ⟨c1, c2⟩ := Own.zcell HT3.out.1 hk
                  have cbx := E3.out.box.cell
                  have lbx := E3.out.box.lt
                  go_wp2_with fail
                  refine (is_any _ y e M _ E3.out.grid).mono ?_
                  rintro r w4 ⟨rfl, hb4⟩
                  rw [hm]
                  have E4 := Lib.hid (E3.out.below hb4)
                  have HB4 := Lib.hid (HB3.out.trans (hb4.mono hs3))
                  have hT4 := And.intro (Own.below HT3.out.1 hb4) (Own.below HT3.out.2 hb4)
                  have cbx4 := E4.out.box.cell
                  have lbx4 := E4.out.box.lt
                  clear cbx lbx c1 c2
                  go_wp2_with fail
                  refine (joins_any _ y e M _ E4.out.grid).mono ?_
                  rintro r w5 ⟨rfl, hb5⟩
                  rw [show (mem M (y : Int) e && !mem M ((y : Int) - 1) e) = false by rw [hm, hm1]; rfl]
                  have E5 := Lib.hid (E4.out.below hb5)
                  have HB5 := Lib.hid (HB4.out.trans (hb5.mono (by have := hb4.size; omega)))
                  have hT5 := And.intro (Own.below hT4.1 hb5) (Own.below hT4.2 hb5)
                  have cbx5 := E5.out.box.cell
                  have lbx5 := E5.out.box.lt
                  obtain ⟨f1, f2⟩ := Own.zcell hT5.2 hx
                  clear cbx4 lbx4
                  go_wp2_with fail
                  refine (leaves_any _ y e M _ E5.out.grid).mono ?_
                  rintro r w6 ⟨rfl, hb6⟩
                  rw [show (decide (0 ≤ (y : Int) ∧ (y : Int) < (M.length : Int)) && !mem M (y : Int) e && mem M ((y : Int) - 1) e) = false by rw [hm]; simp]
                  have E6 := Lib.hid (E5.out.below hb6)
                  have HB6 := Lib.hid (HB5.out.trans (hb6.mono (by have := hb4.size; have := hb5.size; omega)))
                  have hT6 := And.intro (Own.below hT5.1 hb6) (Own.below hT5.2 hb6)
                  have cbx6 := E6.out.box.cell
                  have lbx6 := E6.out.box.lt
                  obtain ⟨f3, f4⟩ := Own.zcell hT6.2 hx
                  clear cbx5 lbx5
                  go_wp2_with fail
                  refine (since_any _ y e M _ E6.out.grid).mono ?_
                  rintro r w7 ⟨rfl, hb7⟩
                  rw [HN.out, HEL.out, hsin]
                  have HB7 := Lib.hid (HB6.out.trans (hb7.mono (by have := hb4.size; have := hb5.size; have := hb6.size; omega)))
                  have HT7 := Lib.hid (And.intro (Own.below hT6.1 hb7) (Own.below hT6.2 hb7))
                  clear hb4 hb5 hb6 hb7 hT4 hT5 hT6 cbx6 lbx6
                  go_wp2_with fail
                  go_roundw
                  case rel => exact ⟨y + 1, by omega, by go_num, HT7.out, HB7.out⟩
                  case measure => simp [intOf]; omega
              · by_cases hyp : 0 < y
                · obtain ⟨j, hj⟩ : ∃ j, y = j + 1 := ⟨y - 1, by omega⟩
                  rcases HFY.out j (by omega) with ⟨k2, x2, hk2, _, hk20, hm2, _, _, _⟩ | ⟨hk2, hm2, _⟩
                  · have hm1 : mem M ((y : Int) - 1) e = true := by rw [hj, show ((j + 1 : Nat) : Int) - 1 = (j : Int) by omega]; exact hm2
                    have hwj : IntKind.i64.wrap ((y : Int) - 1) = (j : Int) := by rw [IntWalk.i64_in _ (by omega)]; omega
                    have hmax : max (y : Int) 1 = (y : Int) := by omega
                    have hjn0 : (0 : Int) ≤ (j : Int) := by omega
                    have hjn : (j : Int) < (n : Int) := by omega
                    clear hj
                    obtain ⟨c1, c2⟩ := Own.zcell HT3.out.1 hk
                    have cbx := E3.out.box.cell
                    have lbx := E3.out.box.lt
                    go_wp2_with fail
                    refine (is_any _ y e M _ E3.out.grid).mono ?_
                    rintro r w4 ⟨rfl, hb4⟩
                    rw [hm]
                    have E4 := Lib.hid (E3.out.below hb4)
                    have HB4 := Lib.hid (HB3.out.trans (hb4.mono hs3))
                    have hT4 := And.intro (Own.below HT3.out.1 hb4) (Own.below HT3.out.2 hb4)
                    have cbx4 := E4.out.box.cell
                    have lbx4 := E4.out.box.lt
                    clear cbx lbx c1 c2
                    go_wp2_with fail
                    refine (joins_any _ y e M _ E4.out.grid).mono ?_
                    rintro r w5 ⟨rfl, hb5⟩
                    rw [show (mem M (y : Int) e && !mem M ((y : Int) - 1) e) = false by rw [hm, hm1]; rfl]
                    have E5 := Lib.hid (E4.out.below hb5)
                    have HB5 := Lib.hid (HB4.out.trans (hb5.mono (by have := hb4.size; omega)))
                    have hT5 := And.intro (Own.below hT4.1 hb5) (Own.below hT4.2 hb5)
                    have cbx5 := E5.out.box.cell
                    have lbx5 := E5.out.box.lt
                    obtain ⟨f1, f2⟩ := Own.zcell hT5.1 hk2
                    clear cbx4 lbx4
                    go_wp2_with fail
                    refine (leaves_any _ y e M _ E5.out.grid).mono ?_
                    rintro r w6 ⟨rfl, hb6⟩
                    rw [show (decide (0 ≤ (y : Int) ∧ (y : Int) < (M.length : Int)) && !mem M (y : Int) e && mem M ((y : Int) - 1) e) = true by rw [decide_eq_true (And.intro hy0 (by rw [HN.out]; exact hy1))]; rw [hm, hm1]; rfl]
                    have E6 := Lib.hid (E5.out.below hb6)
                    have HB6 := Lib.hid (HB5.out.trans (hb6.mono (by have := hb4.size; have := hb5.size; omega)))
                    have hT6 := And.intro (Own.below hT5.1 hb6) (Own.below hT5.2 hb6)
                    have cbx6 := E6.out.box.cell
                    have lbx6 := E6.out.box.lt
                    obtain ⟨f3, f4⟩ := Own.zcell hT6.1 hk2
                    clear cbx5 lbx5
                    go_wp2_with fail
                    refine (since_any _ y e M _ E6.out.grid).mono ?_
                    rintro r w7 ⟨rfl, hb7⟩
                    rw [HN.out, HEL.out, hsin]
                    have HB7 := Lib.hid (HB6.out.trans (hb7.mono (by have := hb4.size; have := hb5.size; have := hb6.size; omega)))
                    have HT7 := Lib.hid (And.intro (Own.below hT6.1 hb7) (Own.below hT6.2 hb7))
                    clear hb4 hb5 hb6 hb7 hT4 hT5 hT6 cbx6 lbx6
                    go_wp2_with fail
                    go_roundw
                    case rel => exact ⟨y + 1, by omega, by go_num, HT7.out, HB7.out⟩
                    case measure => simp [intOf]; omega
                  · have hm1 : mem M ((y : Int) - 1) e = false := by rw [hj, show ((j + 1 : Nat) : Int) - 1 = (j : Int) by omega]; exact hm2
                    have hwj : IntKind.i64.wrap ((y : Int) - 1) = (j : Int) := by rw [IntWalk.i64_in _ (by omega)]; omega
                    have hmax : max (y : Int) 1 = (y : Int) := by omega
                    have hjn0 : (0 : Int) ≤ (j : Int) := by omega
                    have hjn : (j : Int) < (n : Int) := by omega
                    clear hj
                    obtain ⟨c1, c2⟩ := Own.zcell HT3.out.1 hk
                    have cbx := E3.out.box.cell
                    have lbx := E3.out.box.lt
                    go_wp2_with fail
                    refine (is_any _ y e M _ E3.out.grid).mono ?_
                    rintro r w4 ⟨rfl, hb4⟩
                    rw [hm]
                    have E4 := Lib.hid (E3.out.below hb4)
                    have HB4 := Lib.hid (HB3.out.trans (hb4.mono hs3))
                    have hT4 := And.intro (Own.below HT3.out.1 hb4) (Own.below HT3.out.2 hb4)
                    have cbx4 := E4.out.box.cell
                    have lbx4 := E4.out.box.lt
                    clear cbx lbx c1 c2
                    go_wp2_with fail
                    refine (joins_any _ y e M _ E4.out.grid).mono ?_
                    rintro r w5 ⟨rfl, hb5⟩
                    rw [show (mem M (y : Int) e && !mem M ((y : Int) - 1) e) = false by rw [hm, hm1]; rfl]
                    have E5 := Lib.hid (E4.out.below hb5)
                    have HB5 := Lib.hid (HB4.out.trans (hb5.mono (by have := hb4.size; omega)))
                    have hT5 := And.intro (Own.below hT4.1 hb5) (Own.below hT4.2 hb5)
                    have cbx5 := E5.out.box.cell
                    have lbx5 := E5.out.box.lt
                    obtain ⟨f1, f2⟩ := Own.zcell hT5.1 hk2
                    clear cbx4 lbx4
                    go_wp2_with fail
                    refine (leaves_any _ y e M _ E5.out.grid).mono ?_
                    rintro r w6 ⟨rfl, hb6⟩
                    rw [show (decide (0 ≤ (y : Int) ∧ (y : Int) < (M.length : Int)) && !mem M (y : Int) e && mem M ((y : Int) - 1) e) = false by rw [decide_eq_true (And.intro hy0 (by rw [HN.out]; exact hy1))]; rw [hm, hm1]; rfl]
                    have E6 := Lib.hid (E5.out.below hb6)
                    have HB6 := Lib.hid (HB5.out.trans (hb6.mono (by have := hb4.size; have := hb5.size; omega)))
                    have hT6 := And.intro (Own.below hT5.1 hb6) (Own.below hT5.2 hb6)
                    have cbx6 := E6.out.box.cell
                    have lbx6 := E6.out.box.lt
                    obtain ⟨f3, f4⟩ := Own.zcell hT6.1 hk2
                    clear cbx5 lbx5
                    go_wp2_with fail
                    refine (since_any _ y e M _ E6.out.grid).mono ?_
                    rintro r w7 ⟨rfl, hb7⟩
                    rw [HN.out, HEL.out, hsin]
                    have HB7 := Lib.hid (HB6.out.trans (hb7.mono (by have := hb4.size; have := hb5.size; have := hb6.size; omega)))
                    have HT7 := Lib.hid (And.intro (Own.below hT6.1 hb7) (Own.below hT6.2 hb7))
                    clear hb4 hb5 hb6 hb7 hT4 hT5 hT6 cbx6 lbx6
                    go_wp2_with fail
                    go_roundw
                    case rel => exact ⟨y + 1, by omega, by go_num, HT7.out, HB7.out⟩
                    case measure => simp [intOf]; omega
                · have hm1 : mem M ((y : Int) - 1) e = false := mem_off (by omega)
                  obtain ⟨c1, c2⟩ := Own.zcell HT3.out.1 hk
                  have cbx := E3.out.box.cell
                  have lbx := E3.out.box.lt
                  go_wp2_with fail
                  refine (is_any _ y e M _ E3.out.grid).mono ?_
                  rintro r w4 ⟨rfl, hb4⟩
                  rw [hm]
                  have E4 := Lib.hid (E3.out.below hb4)
                  have HB4 := Lib.hid (HB3.out.trans (hb4.mono hs3))
                  have hT4 := And.intro (Own.below HT3.out.1 hb4) (Own.below HT3.out.2 hb4)
                  have cbx4 := E4.out.box.cell
                  have lbx4 := E4.out.box.lt
                  clear cbx lbx c1 c2
                  go_wp2_with fail
                  refine (joins_any _ y e M _ E4.out.grid).mono ?_
                  rintro r w5 ⟨rfl, hb5⟩
                  rw [show (mem M (y : Int) e && !mem M ((y : Int) - 1) e) = false by rw [hm, hm1]; rfl]
                  have E5 := Lib.hid (E4.out.below hb5)
                  have HB5 := Lib.hid (HB4.out.trans (hb5.mono (by have := hb4.size; omega)))
                  have hT5 := And.intro (Own.below hT4.1 hb5) (Own.below hT4.2 hb5)
                  have cbx5 := E5.out.box.cell
                  have lbx5 := E5.out.box.lt
                  clear cbx4 lbx4
                  go_wp2_with fail
                  refine (leaves_any _ y e M _ E5.out.grid).mono ?_
                  rintro r w6 ⟨rfl, hb6⟩
                  rw [show (decide (0 ≤ (y : Int) ∧ (y : Int) < (M.length : Int)) && !mem M (y : Int) e && mem M ((y : Int) - 1) e) = false by rw [decide_eq_true (And.intro hy0 (by rw [HN.out]; exact hy1))]; rw [hm, hm1]; rfl]
                  have E6 := Lib.hid (E5.out.below hb6)
                  have HB6 := Lib.hid (HB5.out.trans (hb6.mono (by have := hb4.size; have := hb5.size; omega)))
                  have hT6 := And.intro (Own.below hT5.1 hb6) (Own.below hT5.2 hb6)
                  have cbx6 := E6.out.box.cell
                  have lbx6 := E6.out.box.lt
                  clear cbx5 lbx5
                  go_wp2_with fail
                  refine (since_any _ y e M _ E6.out.grid).mono ?_
                  rintro r w7 ⟨rfl, hb7⟩
                  rw [HN.out, HEL.out, hsin]
                  have HB7 := Lib.hid (HB6.out.trans (hb7.mono (by have := hb4.size; have := hb5.size; have := hb6.size; omega)))
                  have HT7 := Lib.hid (And.intro (Own.below hT6.1 hb7) (Own.below hT6.2 hb7))
                  clear hb4 hb5 hb6 hb7 hT4 hT5 hT6 cbx6 lbx6
                  go_wp2_with fail
                  go_roundw
                  case rel => exact ⟨y + 1, by omega, by go_num, HT7.out, HB7.out⟩
                  case measure => simp [intOf]; omega
            · obtain rfl : y = n := by omega
              go_wp2_with fail
              refine (works_any _).mono ?_
              rintro x w4 ⟨rfl, hb4⟩
              go_wp2_with fail
              exact hR'.out _ _ ⟨rfl, (HBW.out.trans (HB3.out.mono HBW.out.size)).trans (hb4.mono (by have := HBW.out.size; omega))⟩
    · have hT := (two_makes w2 n (by omega)).2
      have hB3 := (((Below.refl w2.heap.size w2).alloc (Nat.le_refl _) (.cells (madeCells #[Value.int .i64 0] n) 3)).alloc (by simp) (.cells (madeCells #[Value.int .i64 0] n) 3)).drew
      generalize World.drew (World.alloc (World.alloc w2 (.cells (madeCells #[Value.int .i64 0] n) 3)) (.cells (madeCells #[Value.int .i64 0] n) 3)) = w3 at *
      have HT3 := Lib.hid hT
      have HB3 := Lib.hid hB3
      clear hT hB3 hmk
      go_wp2_with fail
      go_loopw [9] (fun iv wr => PartsInv l w2 (w2.heap.size + 1) w2.heap.size n iv wr) (fun iv _ => l.length - (intOf iv).toNat)
      case atStart => exact ⟨0, _, _, Nat.zero_le _, rfl, by simp, Filled.start l n, HT3.out, HB3.out⟩
      case round =>
        obtain ⟨i, A, F, hil, rfl, hAn, hfil, hT, hb⟩ := hrel
        have HFIL := Lib.hid hfil
        have HTR := Lib.hid hT
        have HBI := Lib.hid hb
        have HE2 := Lib.hid (HENV.out.below hb)
        clear hfil hT hb
        by_cases hilt : i < l.length
        · obtain ⟨lb, lo, ⟨s1, s2⟩, rfl, hx, hlb, ha1, ha2⟩ := spanCell HENV.out.row rfl hilt
          simp only at ha1 ha2
          have hc1 := (HBI.out.cell (p := ⟨lb, lo + i * 2, none⟩) hlb).trans ha1
          have hc2 := (HBI.out.cell (p := ⟨lb, lo + i * 2 + 1, none⟩) hlb).trans ha2
          have HA1 := Lib.hid ha1
          have HA2 := Lib.hid ha2
          clear ha1 ha2
          have hrun := spans_run (fun z hz => (HF.out z hz).2) (by rw [HEL.out]; exact List.mem_of_getElem? hx)
          obtain ⟨⟨r1, r2, r3, r4⟩, r5, r6⟩ := hrun
          simp only at r1 r2 r3 r4 r5 r6
          have HX := Lib.hid hx
          have HR3 := Lib.hid r3
          clear r1 r3 r4 hx
          have q1 : decide (s1 < 0) = false := decide_eq_false (by omega)
          have q2 : decide (s2 < s1) = false := decide_eq_false (by omega)
          have q3 : decide ((n : Int) ≤ s2) = false := decide_eq_false (by omega)
          have hk0 : (0 : Int) ≤ (i : Int) := by omega
          have hk1 : (i : Int) < (l.length : Int) := by omega
          have hreg : (0 : Int) < (i : Int) → ∃ j : Nat, i = j + 1 := fun h => ⟨i - 1, by omega⟩
          by_cases hi0 : 0 < i
          · obtain ⟨j, hj⟩ : ∃ j, i = j + 1 := ⟨i - 1, by omega⟩
            obtain ⟨lb', lo', ⟨p1, p2⟩, hlp, hxp, hlbp, hd1, hd2⟩ := spanCell HE2.out.row rfl (show j < l.length by omega)
            simp only [Option.some.injEq, Addr.mk.injEq, and_true] at hlp
            obtain ⟨rfl, rfl⟩ := hlp
            simp only at hd1 hd2
            have hap : p2 + 2 ≤ s1 := by
              have hp := List.pairwise_iff_getElem.1 (spans_apart (f := fun z => mem M z e) (n := n) (fun z hz => (HF.out z hz).2))
              have h1 := (List.getElem?_eq_some_iff.1 hxp).2
              have h2 := (List.getElem?_eq_some_iff.1 HX.out).2
              have := hp j i (by rw [HEL.out]; omega) (by rw [HEL.out]; omega) (by omega)
              simp only [HEL.out, h1, h2] at this
              exact this
            have hrp := spans_run (f := fun z => mem M z e) (n := n) (fun z hz => (HF.out z hz).2) (by rw [HEL.out]; exact List.mem_of_getElem? hxp)
            have hp20 : 0 ≤ p2 := by have h1 := hrp.1.2.1; have h2 := hrp.2.1; simp only at h1 h2; omega
            have hw1 : IntKind.i64.wrap ((i : Int) - 1) = (j : Int) := by rw [IntWalk.i64_in _ (by omega)]; omega
            have hw2 : IntKind.i64.wrap (p2 + 2) = p2 + 2 := IntWalk.i64_in _ (by omega)
            have hj0 : (0 : Int) ≤ (j : Int) := by omega
            have hj1 : (j : Int) < (l.length : Int) := by omega
            have q4 : decide (0 < i) = true := decide_eq_true hi0
            have q6 : decide (s1 < p2 + 2) = false := decide_eq_false (by omega)
            have HJ := Lib.hid hj
            clear hxp hrp hap hj
            go_wp2_with fail
            go_quiet (fail)
            go_wp2_with fail
            obtain ⟨t0, rfl⟩ := Int.eq_ofNat_of_zero_le r5
            have hTq : TwoRows (wr.drewN nq) w2.heap.size (w2.heap.size + 1) w2.heap.size n A F := HTR.out
            have hbq : Below w2.heap.size w2 (wr.drewN nq) := Below.drewN HBI.out nq
            generalize wr.drewN nq = wq at *
            go_loopw [10] (fun yv wr' => PartsIn l w2 (w2.heap.size + 1) w2.heap.size n i ((t0 : Int), s2) yv wr') (fun yv _ => (s2 + 1 - intOf yv).toNat)
            case atStart => exact ⟨t0, A, F, Int.le_refl _, by simp only; omega, rfl, hAn, FillIn.begin HFIL.out, hTq, hbq⟩
            case round =>
              obtain ⟨t, A2, F2, ht1, ht2, rfl, hA2, hfi, hT2, hb2⟩ := hrel
              simp only at ht1 ht2
              have HFI := Lib.hid hfi
              have HT2 := Lib.hid hT2
              have HB2 := Lib.hid hb2
              have hk2 := (hb2.cell (p := ⟨lb, lo + i * 2 + 1, none⟩) hlb).trans HA2.out
              have hsz2 := hb2.size
              clear hfi hb2 hT2 hTq hbq
              by_cases hts : (t : Int) ≤ s2
              · obtain ⟨a0, ha0⟩ : ∃ a0, A2[t]? = some a0 := ⟨_, List.getElem?_eq_getElem (by omega)⟩
                obtain ⟨f0, hf0⟩ : ∃ f0, F2[t]? = some f0 := ⟨_, List.getElem?_eq_getElem (by have := HFI.out.1; omega)⟩
                obtain ⟨x1, x2⟩ := Own.zcell HT2.out.1 ha0
                have hO1 := Own.zstore (j := t) (x := (i : Int) + 1) HT2.out.1
                have hO2 := Own.zother (g' := (w2.heap.size + 1)) (j := t) (u := .int .i64 ((i : Int) + 1)) HT2.out.2 (by omega)
                obtain ⟨y1, y2⟩ := Own.zcell hO2 hf0
                have hB4 := HB2.out.setCell (p := ⟨(w2.heap.size + 1), t, none⟩) (by simp) (.int .i64 ((i : Int) + 1))
                have z1 := (hB4.cell (p := ⟨lb, lo + i * 2, none⟩) hlb).trans HA1.out
                have hwi : IntKind.i64.wrap ((i : Int) + 1) = (i : Int) + 1 := IntWalk.i64_in _ (by omega)
                have hwt : IntKind.i64.wrap ((t : Int) + 1) = (t : Int) + 1 := IntWalk.i64_in _ (by omega)
                have HP : Hid (PartsIn l w2 (w2.heap.size + 1) w2.heap.size n i ((t0 : Int), s2) (.int .i64 ((t : Int) + 1)) ((World.setCell _ ⟨(w2.heap.size + 1), t, none⟩ (.int .i64 ((i : Int) + 1))).setCell ⟨w2.heap.size, t, none⟩ (.int .i64 (t0 : Int)))) :=
                  ⟨t + 1, A2.set t ((i : Int) + 1), F2.set t (t0 : Int), by simp only; omega, by simp only; omega, by simp, by simp [hA2], by have := HFI.out.step ht1 (by omega); simpa using this, ⟨Own.zother hO1 (by omega), Own.zstore hO2⟩, hB4.setCell (p := ⟨w2.heap.size, t, none⟩) (by simp) _⟩
                have lt1 : (t : Int) < (n : Int) := by omega
                have lt0 : (0 : Int) ≤ (t : Int) := by omega
                clear hO1 hO2 hB4
                go_wp2_with fail
                go_roundw
                case rel => exact HP.out
                case measure => simp only [intOf]; omega
              · obtain rfl : s2 = (t : Int) - 1 := by omega
                go_wp2_with fail
                go_roundw
                case rel => exact ⟨i + 1, A2, F2, by omega, by go_num, hA2, FillIn.done (s := ((t0 : Int), (t : Int) - 1)) (by have := HFI.out; simpa using this) HX.out, HT2.out, HB2.out⟩
                case measure => simp [intOf]; omega
          · have q4 : decide (0 < i) = false := decide_eq_false hi0
            go_wp2_with fail
            go_quiet (fail)
            go_wp2_with fail
            obtain ⟨t0, rfl⟩ := Int.eq_ofNat_of_zero_le r5
            have hTq : TwoRows (wr.drewN nq) w2.heap.size (w2.heap.size + 1) w2.heap.size n A F := HTR.out
            have hbq : Below w2.heap.size w2 (wr.drewN nq) := Below.drewN HBI.out nq
            generalize wr.drewN nq = wq at *
            go_loopw [10] (fun yv wr' => PartsIn l w2 (w2.heap.size + 1) w2.heap.size n i ((t0 : Int), s2) yv wr') (fun yv _ => (s2 + 1 - intOf yv).toNat)
            case atStart => exact ⟨t0, A, F, Int.le_refl _, by simp only; omega, rfl, hAn, FillIn.begin HFIL.out, hTq, hbq⟩
            case round =>
              obtain ⟨t, A2, F2, ht1, ht2, rfl, hA2, hfi, hT2, hb2⟩ := hrel
              simp only at ht1 ht2
              have HFI := Lib.hid hfi
              have HT2 := Lib.hid hT2
              have HB2 := Lib.hid hb2
              have hk2 := (hb2.cell (p := ⟨lb, lo + i * 2 + 1, none⟩) hlb).trans HA2.out
              have hsz2 := hb2.size
              clear hfi hb2 hT2 hTq hbq
              by_cases hts : (t : Int) ≤ s2
              · obtain ⟨a0, ha0⟩ : ∃ a0, A2[t]? = some a0 := ⟨_, List.getElem?_eq_getElem (by omega)⟩
                obtain ⟨f0, hf0⟩ : ∃ f0, F2[t]? = some f0 := ⟨_, List.getElem?_eq_getElem (by have := HFI.out.1; omega)⟩
                obtain ⟨x1, x2⟩ := Own.zcell HT2.out.1 ha0
                have hO1 := Own.zstore (j := t) (x := (i : Int) + 1) HT2.out.1
                have hO2 := Own.zother (g' := (w2.heap.size + 1)) (j := t) (u := .int .i64 ((i : Int) + 1)) HT2.out.2 (by omega)
                obtain ⟨y1, y2⟩ := Own.zcell hO2 hf0
                have hB4 := HB2.out.setCell (p := ⟨(w2.heap.size + 1), t, none⟩) (by simp) (.int .i64 ((i : Int) + 1))
                have z1 := (hB4.cell (p := ⟨lb, lo + i * 2, none⟩) hlb).trans HA1.out
                have hwi : IntKind.i64.wrap ((i : Int) + 1) = (i : Int) + 1 := IntWalk.i64_in _ (by omega)
                have hwt : IntKind.i64.wrap ((t : Int) + 1) = (t : Int) + 1 := IntWalk.i64_in _ (by omega)
                have HP : Hid (PartsIn l w2 (w2.heap.size + 1) w2.heap.size n i ((t0 : Int), s2) (.int .i64 ((t : Int) + 1)) ((World.setCell _ ⟨(w2.heap.size + 1), t, none⟩ (.int .i64 ((i : Int) + 1))).setCell ⟨w2.heap.size, t, none⟩ (.int .i64 (t0 : Int)))) :=
                  ⟨t + 1, A2.set t ((i : Int) + 1), F2.set t (t0 : Int), by simp only; omega, by simp only; omega, by simp, by simp [hA2], by have := HFI.out.step ht1 (by omega); simpa using this, ⟨Own.zother hO1 (by omega), Own.zstore hO2⟩, hB4.setCell (p := ⟨w2.heap.size, t, none⟩) (by simp) _⟩
                have lt1 : (t : Int) < (n : Int) := by omega
                have lt0 : (0 : Int) ≤ (t : Int) := by omega
                clear hO1 hO2 hB4
                go_wp2_with fail
                go_roundw
                case rel => exact HP.out
                case measure => simp only [intOf]; omega
              · obtain rfl : s2 = (t : Int) - 1 := by omega
                go_wp2_with fail
                go_roundw
                case rel => exact ⟨i + 1, A2, F2, by omega, by go_num, hA2, FillIn.done (s := ((t0 : Int), (t : Int) - 1)) (by have := HFI.out; simpa using this) HX.out, HT2.out, HB2.out⟩
                case measure => simp [intOf]; omega
        · obtain rfl : i = l.length := by omega
          have hfy := fun y hy => filled_year (y := y) (f := fun z => mem M z e) (n := n) HF.out (by rw [HEL.out]; exact HFIL.out) hy
          rw [HEL.out] at hfy
          have HFY := Lib.hid hfy
          clear hfy
          go_wp2_with fail
          go_loopw [11] (fun yv wr' => ∃ y : Nat, y ≤ n ∧ yv = .int .i64 (y : Int) ∧ TwoRows wr' w2.heap.size (w2.heap.size + 1) w2.heap.size n A F ∧ Below w2.heap.size w2 wr') (fun yv _ => n - (intOf yv).toNat)
          case atStart => exact ⟨0, Nat.zero_le _, rfl, HTR.out, HBI.out⟩
          case round =>
            obtain ⟨y, hyn, rfl, hT3, hb3⟩ := hrel
            have HT3 := Lib.hid hT3
            have HB3 := Lib.hid hb3
            have E3 := Lib.hid (HENV.out.below hb3)
            have hs3 := hb3.size
            clear hT3 hb3
            by_cases hylt : y < n
            · have hwy : IntKind.i64.wrap ((y : Int) + 1) = (y : Int) + 1 := IntWalk.i64_in _ (by omega)
              have hy0 : (0 : Int) ≤ (y : Int) := by omega
              have hy1 : (y : Int) < (n : Int) := by omega
              rcases HFY.out y (by omega) with ⟨k, x, hk, hx, hk0, hm, hxy, hsin, hxc⟩ | ⟨hk, hm, hsin⟩
              · rcases hxc with ⟨rfl, hm1⟩ | ⟨hxlt, hm1⟩
                · obtain ⟨c1, c2⟩ := Own.zcell HT3.out.1 hk
                  have cbx := E3.out.box.cell
                  have lbx := E3.out.box.lt
                  go_wp2_with fail
                  refine (is_any _ y e M _ E3.out.grid).mono ?_
                  rintro r w4 ⟨rfl, hb4⟩
                  rw [hm]
                  have E4 := Lib.hid (E3.out.below hb4)
                  have HB4 := Lib.hid (HB3.out.trans (hb4.mono hs3))
                  have hT4 := And.intro (Own.below HT3.out.1 hb4) (Own.below HT3.out.2 hb4)
                  have cbx4 := E4.out.box.cell
                  have lbx4 := E4.out.box.lt
                  clear cbx lbx c1 c2
                  go_wp2_with fail
                  refine (joins_any _ y e M _ E4.out.grid).mono ?_
                  rintro r w5 ⟨rfl, hb5⟩
                  rw [show (mem M (y : Int) e && !mem M ((y : Int) - 1) e) = true by rw [hm, hm1]; rfl]
                  have E5 := Lib.hid (E4.out.below hb5)
                  have HB5 := Lib.hid (HB4.out.trans (hb5.mono (by have := hb4.size; omega)))
                  have hT5 := And.intro (Own.below hT4.1 hb5) (Own.below hT4.2 hb5)
                  have cbx5 := E5.out.box.cell
                  have lbx5 := E5.out.box.lt
                  obtain ⟨f1, f2⟩ := Own.zcell hT5.2 hx
                  clear cbx4 lbx4
                  go_wp2_with fail
                  refine (leaves_any _ y e M _ E5.out.grid).mono ?_
                  rintro r w6 ⟨rfl, hb6⟩
                  rw [show (decide (0 ≤ (y : Int) ∧ (y : Int) < (M.length : Int)) && !mem M (y : Int) e && mem M ((y : Int) - 1) e) = false by rw [hm, hm1]; simp]
                  have E6 := Lib.hid (E5.out.below hb6)
                  have HB6 := Lib.hid (HB5.out.trans (hb6.mono (by have := hb4.size; have := hb5.size; omega)))
                  have hT6 := And.intro (Own.below hT5.1 hb6) (Own.below hT5.2 hb6)
                  have cbx6 := E6.out.box.cell
                  have lbx6 := E6.out.box.lt
                  obtain ⟨f3, f4⟩ := Own.zcell hT6.2 hx
                  clear cbx5 lbx5
                  go_wp2_with fail
                  refine (since_any _ y e M _ E6.out.grid).mono ?_
                  rintro r w7 ⟨rfl, hb7⟩
                  rw [HN.out, HEL.out, hsin]
                  have HB7 := Lib.hid (HB6.out.trans (hb7.mono (by have := hb4.size; have := hb5.size; have := hb6.size; omega)))
                  have HT7 := Lib.hid (And.intro (Own.below hT6.1 hb7) (Own.below hT6.2 hb7))
                  clear hb4 hb5 hb6 hb7 hT4 hT5 hT6 cbx6 lbx6
                  go_wp2_with fail
                  go_roundw
                  case rel => exact ⟨y + 1, by omega, by go_num, HT7.out, HB7.out⟩
                  case measure => simp [intOf]; omega
                · have hne : (x == (y : Int)) = false := by rw [beq_eq_false_iff_ne]; omega
                  obtain ⟨c1, c2⟩ := Own.zcell HT3.out.1 hk
                  have cbx := E3.out.box.cell
                  have lbx := E3.out.box.lt
                  go_wp2_with fail
                  refine (is_any _ y e M _ E3.out.grid).mono ?_
                  rintro r w4 ⟨rfl, hb4⟩
                  rw [hm]
                  have E4 := Lib.hid (E3.out.below hb4)
                  have HB4 := Lib.hid (HB3.out.trans (hb4.mono hs3))
                  have hT4 := And.intro (Own.below HT3.out.1 hb4) (Own.below HT3.out.2 hb4)
                  have cbx4 := E4.out.box.cell
                  have lbx4 := E4.out.box.lt
                  clear cbx lbx c1 c2
                  go_wp2_with fail
                  refine (joins_any _ y e M _ E4.out.grid).mono ?_
                  rintro r w5 ⟨rfl, hb5⟩
                  rw [show (mem M (y : Int) e && !mem M ((y : Int) - 1) e) = false by rw [hm, hm1]; rfl]
                  have E5 := Lib.hid (E4.out.below hb5)
                  have HB5 := Lib.hid (HB4.out.trans (hb5.mono (by have := hb4.size; omega)))
                  have hT5 := And.intro (Own.below hT4.1 hb5) (Own.below hT4.2 hb5)
                  have cbx5 := E5.out.box.cell
                  have lbx5 := E5.out.box.lt
                  obtain ⟨f1, f2⟩ := Own.zcell hT5.2 hx
                  clear cbx4 lbx4
                  go_wp2_with fail
                  refine (leaves_any _ y e M _ E5.out.grid).mono ?_
                  rintro r w6 ⟨rfl, hb6⟩
                  rw [show (decide (0 ≤ (y : Int) ∧ (y : Int) < (M.length : Int)) && !mem M (y : Int) e && mem M ((y : Int) - 1) e) = false by rw [hm]; simp]
                  have E6 := Lib.hid (E5.out.below hb6)
                  have HB6 := Lib.hid (HB5.out.trans (hb6.mono (by have := hb4.size; have := hb5.size; omega)))
                  have hT6 := And.intro (Own.below hT5.1 hb6) (Own.below hT5.2 hb6)
                  have cbx6 := E6.out.box.cell
                  have lbx6 := E6.out.box.lt
                  obtain ⟨f3, f4⟩ := Own.zcell hT6.2 hx
                  clear cbx5 lbx5
                  go_wp2_with fail
                  refine (since_any _ y e M _ E6.out.grid).mono ?_
                  rintro r w7 ⟨rfl, hb7⟩
                  rw [HN.out, HEL.out, hsin]
                  have HB7 := Lib.hid (HB6.out.trans (hb7.mono (by have := hb4.size; have := hb5.size; have := hb6.size; omega)))
                  have HT7 := Lib.hid (And.intro (Own.below hT6.1 hb7) (Own.below hT6.2 hb7))
                  clear hb4 hb5 hb6 hb7 hT4 hT5 hT6 cbx6 lbx6
                  go_wp2_with fail
                  go_roundw
                  case rel => exact ⟨y + 1, by omega, by go_num, HT7.out, HB7.out⟩
                  case measure => simp [intOf]; omega
              · by_cases hyp : 0 < y
                · obtain ⟨j, hj⟩ : ∃ j, y = j + 1 := ⟨y - 1, by omega⟩
                  rcases HFY.out j (by omega) with ⟨k2, x2, hk2, _, hk20, hm2, _, _, _⟩ | ⟨hk2, hm2, _⟩
                  · have hm1 : mem M ((y : Int) - 1) e = true := by rw [hj, show ((j + 1 : Nat) : Int) - 1 = (j : Int) by omega]; exact hm2
                    have hwj : IntKind.i64.wrap ((y : Int) - 1) = (j : Int) := by rw [IntWalk.i64_in _ (by omega)]; omega
                    have hmax : max (y : Int) 1 = (y : Int) := by omega
                    have hjn0 : (0 : Int) ≤ (j : Int) := by omega
                    have hjn : (j : Int) < (n : Int) := by omega
                    clear hj
                    obtain ⟨c1, c2⟩ := Own.zcell HT3.out.1 hk
                    have cbx := E3.out.box.cell
                    have lbx := E3.out.box.lt
                    go_wp2_with fail
                    refine (is_any _ y e M _ E3.out.grid).mono ?_
                    rintro r w4 ⟨rfl, hb4⟩
                    rw [hm]
                    have E4 := Lib.hid (E3.out.below hb4)
                    have HB4 := Lib.hid (HB3.out.trans (hb4.mono hs3))
                    have hT4 := And.intro (Own.below HT3.out.1 hb4) (Own.below HT3.out.2 hb4)
                    have cbx4 := E4.out.box.cell
                    have lbx4 := E4.out.box.lt
                    clear cbx lbx c1 c2
                    go_wp2_with fail
                    refine (joins_any _ y e M _ E4.out.grid).mono ?_
                    rintro r w5 ⟨rfl, hb5⟩
                    rw [show (mem M (y : Int) e && !mem M ((y : Int) - 1) e) = false by rw [hm, hm1]; rfl]
                    have E5 := Lib.hid (E4.out.below hb5)
                    have HB5 := Lib.hid (HB4.out.trans (hb5.mono (by have := hb4.size; omega)))
                    have hT5 := And.intro (Own.below hT4.1 hb5) (Own.below hT4.2 hb5)
                    have cbx5 := E5.out.box.cell
                    have lbx5 := E5.out.box.lt
                    obtain ⟨f1, f2⟩ := Own.zcell hT5.1 hk2
                    clear cbx4 lbx4
                    go_wp2_with fail
                    refine (leaves_any _ y e M _ E5.out.grid).mono ?_
                    rintro r w6 ⟨rfl, hb6⟩
                    rw [show (decide (0 ≤ (y : Int) ∧ (y : Int) < (M.length : Int)) && !mem M (y : Int) e && mem M ((y : Int) - 1) e) = true by rw [decide_eq_true (And.intro hy0 (by rw [HN.out]; exact hy1))]; rw [hm, hm1]; rfl]
                    have E6 := Lib.hid (E5.out.below hb6)
                    have HB6 := Lib.hid (HB5.out.trans (hb6.mono (by have := hb4.size; have := hb5.size; omega)))
                    have hT6 := And.intro (Own.below hT5.1 hb6) (Own.below hT5.2 hb6)
                    have cbx6 := E6.out.box.cell
                    have lbx6 := E6.out.box.lt
                    obtain ⟨f3, f4⟩ := Own.zcell hT6.1 hk2
                    clear cbx5 lbx5
                    go_wp2_with fail
                    refine (since_any _ y e M _ E6.out.grid).mono ?_
                    rintro r w7 ⟨rfl, hb7⟩
                    rw [HN.out, HEL.out, hsin]
                    have HB7 := Lib.hid (HB6.out.trans (hb7.mono (by have := hb4.size; have := hb5.size; have := hb6.size; omega)))
                    have HT7 := Lib.hid (And.intro (Own.below hT6.1 hb7) (Own.below hT6.2 hb7))
                    clear hb4 hb5 hb6 hb7 hT4 hT5 hT6 cbx6 lbx6
                    go_wp2_with fail
                    go_roundw
                    case rel => exact ⟨y + 1, by omega, by go_num, HT7.out, HB7.out⟩
                    case measure => simp [intOf]; omega
                  · have hm1 : mem M ((y : Int) - 1) e = false := by rw [hj, show ((j + 1 : Nat) : Int) - 1 = (j : Int) by omega]; exact hm2
                    have hwj : IntKind.i64.wrap ((y : Int) - 1) = (j : Int) := by rw [IntWalk.i64_in _ (by omega)]; omega
                    have hmax : max (y : Int) 1 = (y : Int) := by omega
                    have hjn0 : (0 : Int) ≤ (j : Int) := by omega
                    have hjn : (j : Int) < (n : Int) := by omega
                    clear hj
                    obtain ⟨c1, c2⟩ := Own.zcell HT3.out.1 hk
                    have cbx := E3.out.box.cell
                    have lbx := E3.out.box.lt
                    go_wp2_with fail
                    refine (is_any _ y e M _ E3.out.grid).mono ?_
                    rintro r w4 ⟨rfl, hb4⟩
                    rw [hm]
                    have E4 := Lib.hid (E3.out.below hb4)
                    have HB4 := Lib.hid (HB3.out.trans (hb4.mono hs3))
                    have hT4 := And.intro (Own.below HT3.out.1 hb4) (Own.below HT3.out.2 hb4)
                    have cbx4 := E4.out.box.cell
                    have lbx4 := E4.out.box.lt
                    clear cbx lbx c1 c2
                    go_wp2_with fail
                    refine (joins_any _ y e M _ E4.out.grid).mono ?_
                    rintro r w5 ⟨rfl, hb5⟩
                    rw [show (mem M (y : Int) e && !mem M ((y : Int) - 1) e) = false by rw [hm, hm1]; rfl]
                    have E5 := Lib.hid (E4.out.below hb5)
                    have HB5 := Lib.hid (HB4.out.trans (hb5.mono (by have := hb4.size; omega)))
                    have hT5 := And.intro (Own.below hT4.1 hb5) (Own.below hT4.2 hb5)
                    have cbx5 := E5.out.box.cell
                    have lbx5 := E5.out.box.lt
                    obtain ⟨f1, f2⟩ := Own.zcell hT5.1 hk2
                    clear cbx4 lbx4
                    go_wp2_with fail
                    refine (leaves_any _ y e M _ E5.out.grid).mono ?_
                    rintro r w6 ⟨rfl, hb6⟩
                    rw [show (decide (0 ≤ (y : Int) ∧ (y : Int) < (M.length : Int)) && !mem M (y : Int) e && mem M ((y : Int) - 1) e) = false by rw [decide_eq_true (And.intro hy0 (by rw [HN.out]; exact hy1))]; rw [hm, hm1]; rfl]
                    have E6 := Lib.hid (E5.out.below hb6)
                    have HB6 := Lib.hid (HB5.out.trans (hb6.mono (by have := hb4.size; have := hb5.size; omega)))
                    have hT6 := And.intro (Own.below hT5.1 hb6) (Own.below hT5.2 hb6)
                    have cbx6 := E6.out.box.cell
                    have lbx6 := E6.out.box.lt
                    obtain ⟨f3, f4⟩ := Own.zcell hT6.1 hk2
                    clear cbx5 lbx5
                    go_wp2_with fail
                    refine (since_any _ y e M _ E6.out.grid).mono ?_
                    rintro r w7 ⟨rfl, hb7⟩
                    rw [HN.out, HEL.out, hsin]
                    have HB7 := Lib.hid (HB6.out.trans (hb7.mono (by have := hb4.size; have := hb5.size; have := hb6.size; omega)))
                    have HT7 := Lib.hid (And.intro (Own.below hT6.1 hb7) (Own.below hT6.2 hb7))
                    clear hb4 hb5 hb6 hb7 hT4 hT5 hT6 cbx6 lbx6
                    go_wp2_with fail
                    go_roundw
                    case rel => exact ⟨y + 1, by omega, by go_num, HT7.out, HB7.out⟩
                    case measure => simp [intOf]; omega
                · have hm1 : mem M ((y : Int) - 1) e = false := mem_off (by omega)
                  obtain ⟨c1, c2⟩ := Own.zcell HT3.out.1 hk
                  have cbx := E3.out.box.cell
                  have lbx := E3.out.box.lt
                  go_wp2_with fail
                  refine (is_any _ y e M _ E3.out.grid).mono ?_
                  rintro r w4 ⟨rfl, hb4⟩
                  rw [hm]
                  have E4 := Lib.hid (E3.out.below hb4)
                  have HB4 := Lib.hid (HB3.out.trans (hb4.mono hs3))
                  have hT4 := And.intro (Own.below HT3.out.1 hb4) (Own.below HT3.out.2 hb4)
                  have cbx4 := E4.out.box.cell
                  have lbx4 := E4.out.box.lt
                  clear cbx lbx c1 c2
                  go_wp2_with fail
                  refine (joins_any _ y e M _ E4.out.grid).mono ?_
                  rintro r w5 ⟨rfl, hb5⟩
                  rw [show (mem M (y : Int) e && !mem M ((y : Int) - 1) e) = false by rw [hm, hm1]; rfl]
                  have E5 := Lib.hid (E4.out.below hb5)
                  have HB5 := Lib.hid (HB4.out.trans (hb5.mono (by have := hb4.size; omega)))
                  have hT5 := And.intro (Own.below hT4.1 hb5) (Own.below hT4.2 hb5)
                  have cbx5 := E5.out.box.cell
                  have lbx5 := E5.out.box.lt
                  clear cbx4 lbx4
                  go_wp2_with fail
                  refine (leaves_any _ y e M _ E5.out.grid).mono ?_
                  rintro r w6 ⟨rfl, hb6⟩
                  rw [show (decide (0 ≤ (y : Int) ∧ (y : Int) < (M.length : Int)) && !mem M (y : Int) e && mem M ((y : Int) - 1) e) = false by rw [decide_eq_true (And.intro hy0 (by rw [HN.out]; exact hy1))]; rw [hm, hm1]; rfl]
                  have E6 := Lib.hid (E5.out.below hb6)
                  have HB6 := Lib.hid (HB5.out.trans (hb6.mono (by have := hb4.size; have := hb5.size; omega)))
                  have hT6 := And.intro (Own.below hT5.1 hb6) (Own.below hT5.2 hb6)
                  have cbx6 := E6.out.box.cell
                  have lbx6 := E6.out.box.lt
                  clear cbx5 lbx5
                  go_wp2_with fail
                  refine (since_any _ y e M _ E6.out.grid).mono ?_
                  rintro r w7 ⟨rfl, hb7⟩
                  rw [HN.out, HEL.out, hsin]
                  have HB7 := Lib.hid (HB6.out.trans (hb7.mono (by have := hb4.size; have := hb5.size; have := hb6.size; omega)))
                  have HT7 := Lib.hid (And.intro (Own.below hT6.1 hb7) (Own.below hT6.2 hb7))
                  clear hb4 hb5 hb6 hb7 hT4 hT5 hT6 cbx6 lbx6
                  go_wp2_with fail
                  go_roundw
                  case rel => exact ⟨y + 1, by omega, by go_num, HT7.out, HB7.out⟩
                  case measure => simp [intOf]; omega
            · obtain rfl : y = n := by omega
              go_wp2_with fail
              refine (works_any _).mono ?_
              rintro x w4 ⟨rfl, hb4⟩
              go_wp2_with fail
              exact hR'.out _ _ ⟨rfl, (HBW.out.trans (HB3.out.mono HBW.out.size)).trans (hb4.mono (by have := HBW.out.size; omega))⟩

end Go.Proofs.Ytfalckgdhhgfaaa
