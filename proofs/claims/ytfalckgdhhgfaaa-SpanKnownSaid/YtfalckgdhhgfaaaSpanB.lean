/- What the reference of the span layer computes: the longest runs, in order; since when; when not all are there. -/
import Derived.Test.YtfalckgdhhgfaaaSpanA
import Derived.Test.YtfalckgdhhgfaaaSpanMath
namespace Go.Proofs.Ytfalckgdhhgfaaa
open Go.RowKit

def spanCells (l : List (Int × Int)) : List Value := l.flatMap fun s => [.int .i64 s.1, .int .i64 s.2]
theorem spanCells_nil : spanCells [] = [] := rfl
theorem spanCells_snoc (l : List (Int × Int)) (s : Int × Int) : spanCells (l ++ [s]) = spanCells l ++ [.int .i64 s.1, .int .i64 s.2] := by simp [spanCells]
@[simp] theorem spanCells_length (l : List (Int × Int)) : (spanCells l).length = l.length * 2 := by
  induction l with
  | nil => rfl
  | cons a l ih => simp only [spanCells, List.flatMap_cons, List.length_append, List.length_cons, List.length_nil] at ih ⊢; omega
theorem spanCells_get {l : List (Int × Int)} {k : Nat} {s : Int × Int} (h : l[k]? = some s) : (spanCells l)[k * 2]? = some (.int .i64 s.1) ∧ (spanCells l)[k * 2 + 1]? = some (.int .i64 s.2) := by
  induction l generalizing k with
  | nil => simp at h
  | cons a l ih =>
    cases k with
    | zero => simp only [List.getElem?_cons_zero, Option.some.injEq] at h; subst h; exact ⟨rfl, rfl⟩
    | succ k =>
      rw [List.getElem?_cons_succ] at h
      have := ih h
      rw [show (k + 1) * 2 = k * 2 + 1 + 1 by omega]
      exact this
theorem Rd.litN {w : World} {cs : Array Value} {e n sz : Nat} (hn : cs.size = n * sz) (hm : n ≤ 9223372036854775807) : Rd (w.alloc (.cells cs e)) sz (.slice (some ⟨w.heap.size, 0, none⟩) n n) n cs.toList :=
  ⟨_, n, rfl, Nat.le_refl _, by unfold maxLen; omega, by simp [hn], fun _ => ⟨w.heap.size, 0, rfl, fun j u hj => by
    rw [Nat.zero_add, World.cell?_alloc_new]; simpa using hj⟩⟩

/-- append of one span that the statement has just laid -/
theorem wpList_append_two {P : Program} {w : World} {ops : Array Oper} {rest : List Oper} {o : Oper} {a : Act} {Q : Exit → Act → World → Prop} (hgd : o.guard = none) (s x : Operand) (t : TypeId)
    (ho : o.op = .call { callee := .builtin .append, args := #[s, x], argTypes := #[t, t] })
    (base : Nat) (e : TypeId) (i : TypeInfo) (z : Value) (ht : P.underlying t = some (.slice e)) (hi : P.info? e = some i) (hz : i.zero = some z)
    (hsize : i.size = 2) (hby : i.bytes = 16) (hzs : z.cells.size = 2)
    {v : Value} {l : List (Int × Int)} {y1 y2 : Int} {e' : TypeId} (hown : w.ownsRow base e 2 v l.length (spanCells l)) (hs : a.eval s = v) (hx : a.eval x = .slice (some ⟨w.heap.size, 0, none⟩) 1 1)
    (h63 : l.length ≤ 1000000) (hbase : base ≤ w.heap.size)
    (h : ∀ v' w', w'.ownsRow base e 2 v' (l.length + 1) (spanCells l ++ [.int .i64 y1, .int .i64 y2]) → (∀ w0, Below base w0 w → Below base w0 w') → wpList P ops Q rest (a.put o.dst v') w') : wpList P ops Q (o :: rest) a (w.alloc (.cells #[.int .i64 y1, .int .i64 y2] e')) := by
  refine wpList_append_rd _ hgd s x t ho base e i z 2 16 ht hi hz hsize hby hzs (by omega) v l.length _ hs (hown.alloc _) _ 1 [.int .i64 y1, .int .i64 y2] hx (Rd.litN (n := 1) (sz := 2) rfl (by omega)) (by simp [Value.oneCell']) (by unfold maxLen; omega) (by omega) (by simp; omega) ?_
  intro v' w' h1 h2
  exact h v' w' h1 fun w0 hb => (hb.alloc hbase _).grown h2 (by simp; omega) fun j hj => (hown.lt j hj).1

theorem whole_any (v : Value) (e a b : Int) (M : List (List Bool)) (w : World) (hg : RdGrid w v M) (h : 0 ≤ a ∧ a ≤ b ∧ b < (M.length : Int)) :
    Calls Try.prog 32 #[v, .int .i64 e, .agg #[.int .i64 a, .int .i64 b]] w fun x w' => (∃ bb, x = .returned (.bool bb) ∧ (bb = true ↔ IsRun (fun z => mem M z e) (a, b))) ∧ Below w.heap.size w w' := by
  obtain ⟨p, c, hv, hnc, hcm⟩ := hg.form
  clear hv
  have hwa := subw a (by omega)
  have hwb := addw b (by omega)
  have hB := (Below.refl w.heap.size w).alloc (Nat.le_refl _) (.cells #[.int .i64 a, .int .i64 b] 39)
  have hg2 := hg.below hB
  refine walk_q fun R' hR' => ?_
  go_enter Try.func32, Try.ntmps32
  go_wp2_with fail
  go_loopw [7] (fun iv wr => ∃ z : Int, a ≤ z ∧ z ≤ b + 1 ∧ iv = .int .i64 z ∧ Hid (∀ u, a ≤ u → u < z → mem M u e = true) ∧ wr = w.alloc (.cells #[.int .i64 a, .int .i64 b] 39)) (fun iv _ => (b + 1 - intOf iv).toNat)
  case atStart => exact ⟨a, by omega, by omega, rfl, fun u h1 h2 => by omega, rfl⟩
  case round =>
    obtain ⟨z, h1, h2, rfl, hall, rfl⟩ := hrel
    by_cases hz : z ≤ b
    · have hwz := addw z (by omega)
      go_wp2_with fail
      refine (refIs_any _ z e M _ hg2).mono ?_
      rintro x w1 ⟨rfl, rfl⟩
      cases hm : mem M z e with
      | true =>
        go_wp2_with fail
        go_roundw
        case rel => exact ⟨z + 1, by omega, by omega, rfl, fun u h3 h4 => by
          by_cases hu : u = z
          · rw [hu]; exact hm
          · exact hall.out u h3 (by omega), trivial⟩
        case measure => simp [intOf]; omega
      | false =>
        go_wp2_with fail
        refine hR'.out _ _ ⟨⟨false, rfl, ?_⟩, hB⟩
        refine ⟨(fun h => by cases h), fun hr => ?_⟩
        have := hr.2.2.1 z h1 hz
        simp only [hm] at this; cases this
    · obtain rfl : z = b + 1 := by omega
      have hall' : ∀ u, a ≤ u → u ≤ b → mem M u e = true := fun u h3 h4 => hall.out u h3 (by omega)
      have HA := Lib.hid hall'
      clear hall hall'
      go_wp2_with fail
      refine (refIs_any _ (a - 1) e M _ hg2).mono ?_
      rintro x w1 ⟨rfl, rfl⟩
      cases hm : mem M (a - 1) e with
      | true =>
        go_wp2_with fail
        refine hR'.out _ _ ⟨⟨false, rfl, ?_⟩, hB⟩
        refine ⟨(fun h => by cases h), fun hr => ?_⟩
        have := hr.1
        simp only [hm] at this; cases this
      | false =>
        go_wp2_with fail
        refine (refIs_any _ (b + 1) e M _ hg2).mono ?_
        rintro x w1 ⟨rfl, rfl⟩
        go_wp2_with fail
        refine hR'.out _ _ ⟨⟨_, rfl, ?_⟩, hB⟩
        rw [Bool.not_eq_true']
        exact ⟨fun h => ⟨hm, by simp only; omega, HA.out, h⟩, fun hr => hr.2.2.2⟩

theorem RdGrid.belowB {B : Nat} {w w' : World} {v : Value} {M : List (List Bool)} (h : RdGrid w v M) (hB : B = w.heap.size) (hb : Below B w w') : RdGrid w' v M := h.below (hB ▸ hb)
theorem isRun_iff {f : Int → Bool} {n i j : Nat} (hf : ∀ z, f z = true → z < (n : Int)) (_ : i ≤ j) : IsRun f ((i : Int), (j : Int)) ↔ startB f i = true ∧ endF f n i = (j : Int) := by
  constructor
  · rintro ⟨h1, h2, h3, h4⟩
    have hi : f (i : Int) = true := h3 _ (Int.le_refl _) h2
    obtain ⟨e1, e2, e3, e4⟩ := endF_spec hf n i hi (by omega)
    refine ⟨by unfold startB; rw [hi]; simp only at h1; rw [h1]; rfl, run_end e1 e3 e4 h2 h3 h4⟩
  · rintro ⟨h1, h2⟩
    unfold startB at h1
    simp only [Bool.and_eq_true, Bool.not_eq_true'] at h1
    obtain ⟨e1, e2, e3, e4⟩ := endF_spec hf n i h1.1 (by omega)
    rw [h2] at e1 e3 e4
    exact ⟨h1.2, e1, e3, e4⟩

theorem infoRSpan : (Try.prog.info? 39).map (fun i => (i.zero, i.size, i.bytes)) = some (some (.agg #[.int .i64 0, .int .i64 0]), 2, 16) := by kernel_rfl

def SpInv (f : Int → Bool) (n B : Nat) (w : World) (ov iv : Value) (wr : World) : Prop :=
  ∃ (i : Nat) (l : List (Int × Int)), i ≤ n ∧ iv = .int .i64 (i : Int) ∧ l.length ≤ i ∧ l ++ spansFrom f n i = spansFrom f n 0 ∧ wr.ownsRow B 39 2 ov l.length (spanCells l) ∧ Below B w wr
def SpIn (f : Int → Bool) (n B : Nat) (w : World) (i : Nat) (l0 : List (Int × Int)) (ov jv : Value) (wr : World) : Prop :=
  ∃ (j : Nat) (l : List (Int × Int)), i ≤ j ∧ j ≤ n ∧ jv = .int .i64 (j : Int) ∧ l = l0 ++ (if startB f i = true ∧ endF f n i < (j : Int) then [((i : Int), endF f n i)] else []) ∧ wr.ownsRow B 39 2 ov l.length (spanCells l) ∧ Below B w wr
theorem SpIn.begin {f : Int → Bool} {n B i : Nat} {w wr : World} {l0 : List (Int × Int)} {ov : Value} (hf : ∀ z, f z = true → z < (n : Int)) (hi : i ≤ n) (hown : wr.ownsRow B 39 2 ov l0.length (spanCells l0)) (hb : Below B w wr) : SpIn f n B w i l0 ov (.int .i64 (i : Int)) wr := by
  refine ⟨i, l0, Nat.le_refl _, hi, rfl, ?_, hown, hb⟩
  rw [if_neg, List.append_nil]
  rintro ⟨h1, h2⟩
  unfold startB at h1
  simp only [Bool.and_eq_true, Bool.not_eq_true'] at h1
  have := (endF_spec hf n i h1.1 (by omega)).1
  omega
theorem SpIn.miss {f : Int → Bool} {n B i j : Nat} {w wr : World} {l0 l : List (Int × Int)} {ov : Value} {bb : Bool} (hf : ∀ z, f z = true → z < (n : Int)) (hij : i ≤ j) (hj : j < n)
    (hl : l = l0 ++ (if startB f i = true ∧ endF f n i < (j : Int) then [((i : Int), endF f n i)] else [])) (hbb : bb = true ↔ IsRun f ((i : Int), (j : Int))) (hbf : bb = false)
    (hown : wr.ownsRow B 39 2 ov l.length (spanCells l)) (hb : Below B w wr) : SpIn f n B w i l0 ov (.int .i64 ((j : Int) + 1)) wr := by
  refine ⟨j + 1, l, by omega, by omega, by simp, ?_, hown, hb⟩
  rw [hl]
  congr 1
  rw [isRun_iff hf hij] at hbb
  have hn : ¬ (startB f i = true ∧ endF f n i = (j : Int)) := fun h => by have := hbb.2 h; simp_all
  have : (startB f i = true ∧ endF f n i < (j : Int)) ↔ (startB f i = true ∧ endF f n i < ((j + 1 : Nat) : Int)) := by
    constructor
    · rintro ⟨h1, h2⟩; exact ⟨h1, by omega⟩
    · rintro ⟨h1, h2⟩
      refine ⟨h1, ?_⟩
      have : endF f n i ≠ (j : Int) := fun h => hn ⟨h1, h⟩
      omega
  simp only [this]
theorem SpIn.hit {f : Int → Bool} {n B i j : Nat} {w wr : World} {l0 l : List (Int × Int)} {ov : Value} {bb : Bool} (hf : ∀ z, f z = true → z < (n : Int)) (hij : i ≤ j) (hj : j < n)
    (hl : l = l0 ++ (if startB f i = true ∧ endF f n i < (j : Int) then [((i : Int), endF f n i)] else [])) (hbb : bb = true ↔ IsRun f ((i : Int), (j : Int))) (hbf : bb = true)
    (hown : wr.ownsRow B 39 2 ov (l.length + 1) (spanCells l ++ [.int .i64 (i : Int), .int .i64 (j : Int)])) (hb : Below B w wr) : SpIn f n B w i l0 ov (.int .i64 ((j : Int) + 1)) wr := by
  rw [isRun_iff hf hij] at hbb
  obtain ⟨h1, h2⟩ := hbb.1 hbf
  rw [if_neg (fun h => by omega), List.append_nil] at hl
  subst hl
  refine ⟨j + 1, l ++ [((i : Int), (j : Int))], by omega, by omega, by simp, ?_, ?_, hb⟩
  · rw [if_pos ⟨h1, by omega⟩, h2]
  · rw [spanCells_snoc, List.length_append]; exact hown
theorem SpIn.done {f : Int → Bool} {n B i : Nat} {w wr : World} {l0 l : List (Int × Int)} {ov : Value} (hf : ∀ z, f z = true → z < (n : Int)) (hi : i < n) (hll : l0.length ≤ i) (h0 : l0 ++ spansFrom f n i = spansFrom f n 0)
    (hl : l = l0 ++ (if startB f i = true ∧ endF f n i < (n : Int) then [((i : Int), endF f n i)] else [])) (hown : wr.ownsRow B 39 2 ov l.length (spanCells l)) (hb : Below B w wr) : SpInv f n B w ov (.int .i64 ((i : Int) + 1)) wr := by
  have he : (startB f i = true ∧ endF f n i < (n : Int)) ↔ startB f i = true := by
    refine ⟨fun h => h.1, fun h => ⟨h, ?_⟩⟩
    unfold startB at h
    simp only [Bool.and_eq_true, Bool.not_eq_true'] at h
    exact (endF_spec hf n i h.1 (by omega)).2.1
  simp only [he] at hl
  refine ⟨i + 1, l, by omega, by simp, ?_, ?_, hown, hb⟩
  · rw [hl, List.length_append]; split <;> simp <;> omega
  · rw [hl, ← h0, spansFrom_step hi, List.append_assoc]

set_option maxHeartbeats 600000 in
theorem refSpans_any (v : Value) (e : Int) (M : List (List Bool)) (w : World) (hg : RdGrid w v M) (hM : M.length ≤ 1000) :
    Calls Try.prog 24 #[v, .int .i64 e] w fun x w' => (∃ v', x = .returned v' ∧ w'.ownsRow w.heap.size 39 2 v' (spansFrom (fun z => mem M z e) M.length 0).length (spanCells (spansFrom (fun z => mem M z e) M.length 0))) ∧ Below w.heap.size w w' := by
  obtain ⟨i0, hi, hz0, hz1, hz2⟩ := info_parts infoRSpan
  obtain ⟨p, c, rfl, hnc, hcm⟩ := hg.form
  have HG := Lib.hid hg
  have hf : ∀ z, (fun z => mem M z e) z = true → z < (M.length : Int) := fun z hz => (mem_year hz).2.1
  have HF := Lib.hid hf
  clear hg hf
  obtain ⟨B, hB⟩ : ∃ B, B = w.heap.size := ⟨_, rfl⟩
  have HB := Lib.hid hB
  rw [← hB]
  clear hB
  refine walk_q fun R' hR' => ?_
  go_enter Try.func24, Try.ntmps24
  go_wp2_with fail
  go_loopw [5, 6] (fun ov iv wr => SpInv (fun z => mem M z e) M.length B w ov iv wr) (fun _ iv _ => M.length - (intOf iv).toNat)
  case atStart => exact ⟨0, [], Nat.zero_le _, rfl, Nat.le_refl _, rfl, World.ownsRow_nil _ _ _ _, Below.refl _ _⟩
  case round =>
    obtain ⟨i, l, hin, rfl, hli, hl, hown, hb⟩ := hrel
    have HL := Lib.hid hl
    have HO := Lib.hid hown
    have HBW := Lib.hid hb
    clear hl hown hb
    by_cases hlt : i < M.length
    · go_wp2_with fail
      obtain ⟨wo, rfl⟩ : ∃ wo : World, wo = wr := ⟨_, rfl⟩
      go_loopw [5, 7] (fun ov jv wr => SpIn (fun z => mem M z e) M.length B w i l ov jv wr) (fun _ jv _ => M.length - (intOf jv).toNat)
      case atStart => exact SpIn.begin HF.out (by omega) HO.out HBW.out
      case round =>
        obtain ⟨j, l2, hij, hjn, rfl, hl2, hown, hb⟩ := hrel
        have HL2 := Lib.hid hl2
        have HO2 := Lib.hid hown
        have HBW2 := Lib.hid hb
        have hl2n : l2.length ≤ 1001 := by rw [hl2, List.length_append]; split <;> simp <;> omega
        clear hl2 hown hb
        by_cases hjlt : j < M.length
        · go_wp2_with fail
          refine (whole_any _ e i j M _ (HG.out.belowB HB.out HBW2.out) (by omega)).mono ?_
          rintro x w3 ⟨⟨bb, rfl, hbb⟩, hb3⟩
          have HBB := Lib.hid hbb
          have HO3 := Lib.hid (Own.below HO2.out hb3)
          have HB3 := Lib.hid (HBW2.out.trans (hb3.mono (by have := HBW2.out.size; have := HB.out; omega)))
          clear hbb hb3 HO2 HBW2
          cases hbf : bb with
          | false =>
            go_wp2_with fail
            go_roundw
            case rel => exact SpIn.miss HF.out hij hjlt HL2.out HBB.out hbf HO3.out HB3.out
            case measure => simp [intOf]; omega
          | true =>
            have hbs : B ≤ w3.heap.size := by have := HB3.out.size; have := HB.out; omega
            go_wp2_with (at_builtin; refine wpList_append_two rfl _ _ 40 rfl B 39 i0 _ Try.underlying40 hi hz0 hz1 hz2 rfl HO3.out rfl rfl (by omega) hbs ?_; intro v1 w4 hown1 hkeep1)
            have HO4 := Lib.hid hown1
            have HB4 := Lib.hid (hkeep1 w HB3.out)
            clear hown1 hkeep1
            go_wp2_with fail
            go_roundw
            case rel => exact SpIn.hit HF.out hij hjlt HL2.out HBB.out hbf HO4.out HB4.out
            case measure => simp [intOf]; omega
        · obtain rfl : j = M.length := by omega
          go_wp2_with fail
          go_roundw
          case rel => exact SpIn.done HF.out hlt hli HL.out HL2.out HO2.out HBW2.out
          case measure => simp [intOf]; omega
    · obtain rfl : i = M.length := by omega
      go_wp2_with fail
      have h := HL.out
      rw [spansFrom_end (Nat.le_refl _), List.append_nil] at h
      refine hR'.out _ _ ⟨⟨_, rfl, ?_⟩, HBW.out⟩
      rw [← h]; exact HO.out

def zints (xs : List Int) : List Value := xs.map (Value.int .i64)
@[simp] theorem zints_length (xs : List Int) : (zints xs).length = xs.length := by simp [zints]
theorem Rd.zintAt {w : World} {n c : Nat} {p : Option Addr} {r : List Int} (h : Rd w 1 (.slice p n c) n (zints r)) {k : Nat} (hk : k < n) : ∃ b off x, p = some ⟨b, off, none⟩ ∧ r[k]? = some x ∧ w.cell? ⟨b, off + k, none⟩ = some (.int .i64 x) := by
  obtain ⟨p', c', hv, _, _, h3, h4⟩ := h
  simp only [Value.slice.injEq, true_and] at hv
  obtain ⟨rfl, rfl⟩ := hv
  obtain ⟨b, off, hp, hc⟩ := h4 (by omega)
  have hl : k < r.length := by simp at h3; omega
  have hx := List.getElem?_eq_getElem hl
  exact ⟨b, off, _, hp, hx, hc k _ (by simp [zints, hx])⟩

/-- are all of some members in a year? -/
def allB (M : List (List Bool)) (y : Int) (l : List Int) : Bool := decide (0 ≤ y ∧ y < (M.length : Int)) && l.all fun e => mem M y e
theorem take_snoc_all {l : List Int} {k : Nat} {x : Int} {f : Int → Bool} (h : l[k]? = some x) (h1 : (l.take k).all f = true) (h2 : f x = true) : (l.take (k + 1)).all f = true := by
  rw [List.take_add_one, h]; simp only [List.all_append, h1, Option.toList_some, List.all_cons, h2, List.all_nil, Bool.and_true]
theorem all_off {l : List Int} {k : Nat} {x : Int} {f : Int → Bool} (h : l[k]? = some x) (h2 : f x = false) : l.all f = false := by
  rw [List.all_eq_false]; exact ⟨x, List.mem_of_getElem? h, by simp [h2]⟩

theorem refAll_any (v lv : Value) (y : Int) (l : List Int) (M : List (List Bool)) (w : World) (hg : RdGrid w v M) (hl : Rd w 1 lv l.length (zints l)) :
    Calls Try.prog 21 #[v, .int .i64 y, lv] w fun x w' => x = .returned (.bool (allB M y l)) ∧ w = w' := by
  obtain ⟨p, c, rfl, hnc, hcm⟩ := hg.form
  obtain ⟨q, d, rfl, hld, hdm, _⟩ := hl.form
  unfold maxLen at hdm
  have HG := Lib.hid hg
  have HL := Lib.hid hl
  clear hg hl
  refine walk_q fun R' hR' => ?_
  by_cases hy0 : 0 ≤ y
  · by_cases hy1 : y < (M.length : Int)
    · go_enter Try.func21, Try.ntmps21
      go_wp2_with fail
      go_loopw [7] (fun iv wr => ∃ k : Nat, k ≤ l.length ∧ iv = .int .i64 (k : Int) ∧ Hid ((l.take k).all (fun e => mem M y e) = true) ∧ w = wr) (fun iv _ => l.length - (intOf iv).toNat)
      case atStart => exact ⟨0, Nat.zero_le _, rfl, by show _ = _; simp, rfl⟩
      case round =>
        obtain ⟨k, hk, rfl, hall, rfl⟩ := hrel
        by_cases hkn : k < l.length
        · obtain ⟨b1, o1, x, rfl, hx, hcx⟩ := HL.out.zintAt hkn
          have hb1 := cell_lt hcx
          simp only at hb1
          have HX := Lib.hid hx
          clear hx
          go_wp2_with fail
          refine (refIs_any _ y x M _ HG.out).mono ?_
          rintro x w1 ⟨rfl, rfl⟩
          cases hm : mem M y x with
          | true =>
            go_wp2_with fail
            go_roundw
            case rel => exact ⟨k + 1, by omega, by go_num, take_snoc_all HX.out hall.out hm, trivial⟩
            case measure => simp [intOf]; omega
          | false =>
            go_wp2_with fail
            have hA : allB M y l = false := by unfold allB; rw [all_off HX.out hm, Bool.and_false]
            exact hR'.out _ _ ⟨by rw [hA]; rfl, rfl⟩
        · obtain rfl : k = l.length := by omega
          go_wp2_with fail
          have hA : allB M y l = true := by
            have h := hall.out
            rw [List.take_length] at h
            unfold allB
            rw [h, decide_eq_true (And.intro hy0 hy1)]; rfl
          exact hR'.out _ _ ⟨by rw [hA]; rfl, rfl⟩
    · go_enter Try.func21, Try.ntmps21
      go_wp2_with fail
      exact hR'.out _ _ ⟨by unfold allB; rw [decide_eq_false (by omega)]; rfl, rfl⟩
  · go_enter Try.func21, Try.ntmps21
    go_wp2_with fail
    exact hR'.out _ _ ⟨by unfold allB; rw [decide_eq_false (by omega)]; rfl, rfl⟩

theorem since_hit {l : List (Int × Int)} {k : Nat} {s : Int × Int} {y : Int} (h : l[k]? = some s) (h0 : ∀ t ∈ l.take k, ¬ (t.1 ≤ y ∧ y ≤ t.2)) (h1 : s.1 ≤ y ∧ y ≤ s.2) : sinceL l y = s.1 := by
  unfold sinceL
  obtain ⟨hl, he⟩ := List.getElem?_eq_some_iff.1 h
  have hsplit : l = l.take k ++ s :: l.drop (k + 1) := by
    rw [← he, ← List.drop_eq_getElem_cons hl, List.take_append_drop]
  have hn : (l.take k).find? (fun t => decide (t.1 ≤ y ∧ y ≤ t.2)) = none := by
    rw [List.find?_eq_none]; intro t ht; simpa using h0 t ht
  rw [hsplit, List.find?_append, hn, Option.none_or, List.find?_cons_of_pos (by simpa using h1)]; rfl
theorem since_none {l : List (Int × Int)} {y : Int} (h0 : ∀ t ∈ l, ¬ (t.1 ≤ y ∧ y ≤ t.2)) : sinceL l y = -1 := by
  unfold sinceL
  have hn : l.find? (fun t => decide (t.1 ≤ y ∧ y ≤ t.2)) = none := by
    rw [List.find?_eq_none]; intro t ht; simpa using h0 t ht
  rw [hn]; rfl
theorem take_snoc_no {l : List (Int × Int)} {k : Nat} {s : Int × Int} {P : Int × Int → Prop} (h : l[k]? = some s) (h0 : ∀ t ∈ l.take k, ¬ P t) (h1 : ¬ P s) : ∀ t ∈ l.take (k + 1), ¬ P t := by
  rw [List.take_add_one, h]
  intro t ht
  rcases List.mem_append.1 ht with ht | ht
  · exact h0 t ht
  · simp at ht; rw [ht]; exact h1
theorem spanCell {w : World} {p : Option Addr} {n c k : Nat} {l : List (Int × Int)} (h : Rd w 2 (.slice p n c) n (spanCells l)) (hl : l.length = n) (hk : k < n) :
    ∃ b off s, p = some ⟨b, off, none⟩ ∧ l[k]? = some s ∧ b < w.heap.size ∧ w.cell? ⟨b, off + k * 2, none⟩ = some (.int .i64 s.1) ∧ w.cell? ⟨b, off + k * 2 + 1, none⟩ = some (.int .i64 s.2) := by
  obtain ⟨p', c', hv, _, _, h3, h4⟩ := h
  simp only [Value.slice.injEq, true_and] at hv
  obtain ⟨rfl, rfl⟩ := hv
  obtain ⟨b, off, hp, hc⟩ := h4 (by omega)
  have hx := List.getElem?_eq_getElem (show k < l.length by omega)
  obtain ⟨e1, e2⟩ := spanCells_get hx
  have c1 := hc _ _ e1
  exact ⟨b, off, _, hp, hx, cell_lt c1, c1, by have := hc _ _ e2; rwa [← Nat.add_assoc] at this⟩

theorem refSince_any (v : Value) (y e : Int) (M : List (List Bool)) (w : World) (hg : RdGrid w v M) (hM : M.length ≤ 1000) :
    Calls Try.prog 25 #[v, .int .i64 y, .int .i64 e] w fun x w' => x = .returned (.int .i64 (sinceL (spansFrom (fun z => mem M z e) M.length 0) y)) ∧ Below w.heap.size w w' := by
  refine walk_q fun R' hR' => ?_
  have HG := Lib.hid hg
  clear hg
  go_enter Try.func25, Try.ntmps25
  go_wp2_with fail
  refine (refSpans_any _ e M _ HG.out hM).mono ?_
  rintro x w1 ⟨⟨v', rfl, hown⟩, hb1⟩
  have HB1 := Lib.hid hb1
  generalize hl : spansFrom (fun z => mem M z e) M.length 0 = l at *
  have hr := Rd.own hown
  obtain ⟨q, d, rfl, hld, hdm, _⟩ := hr.form
  unfold maxLen at hdm
  have HRD := Lib.hid hr
  clear hl hown hb1 hr
  go_wp2_with fail
  go_loop [8] (fun iv => ∃ k : Nat, k ≤ l.length ∧ iv = .int .i64 (k : Int) ∧ Hid (∀ t ∈ l.take k, ¬ (t.1 ≤ y ∧ y ≤ t.2))) (fun iv => l.length - (intOf iv).toNat)
  case atStart => exact ⟨0, Nat.zero_le _, rfl, by show ∀ _, _; simp⟩
  case round =>
    obtain ⟨k, hk, rfl, hno⟩ := hrel
    by_cases hkn : k < l.length
    · obtain ⟨b, off, ⟨s1, s2⟩, rfl, hx, hb, hc1, hc2⟩ := spanCell HRD.out rfl hkn
      simp only at hc1 hc2
      have HX := Lib.hid hx
      clear hx
      by_cases h1 : s1 ≤ y
      · by_cases h2 : y ≤ s2
        · go_wp2_with fail
          exact hR'.out _ _ ⟨by rw [since_hit HX.out hno.out ⟨h1, h2⟩], HB1.out⟩
        · go_wp2_with fail
          go_round
          case rel => exact ⟨k + 1, by omega, by go_num, take_snoc_no HX.out hno.out (fun h => h2 h.2)⟩
          case measure => simp [intOf]; omega
      · go_wp2_with fail
        go_round
        case rel => exact ⟨k + 1, by omega, by go_num, take_snoc_no HX.out hno.out (fun h => h1 h.1)⟩
        case measure => simp [intOf]; omega
    · obtain rfl : k = l.length := by omega
      go_wp2_with fail
      have h := hno.out
      rw [List.take_length] at h
      exact hR'.out _ _ ⟨by rw [since_none h], HB1.out⟩

/-- when not all of some are members any more -/
def IsParted (M : List (List Bool)) (y : Int) (l : List Int) (r : Int) : Prop :=
  (r = -1 ∧ ∀ k : Nat, k < M.length → ¬ (0 ≤ y ∧ y < (k : Int) ∧ allB M k l = false)) ∨
  (∃ k : Nat, r = (k : Int) ∧ k < M.length ∧ (0 ≤ y ∧ y < (k : Int) ∧ allB M k l = false) ∧ ∀ j : Nat, j < k → ¬ (0 ≤ y ∧ y < (j : Int) ∧ allB M j l = false))
theorem IsParted.one {M : List (List Bool)} {y r r' : Int} {l : List Int} (h : IsParted M y l r) (h' : IsParted M y l r') : r = r' := by
  rcases h with ⟨rfl, h⟩ | ⟨k, rfl, h1, h2, h3⟩
  · rcases h' with ⟨rfl, _⟩ | ⟨k, rfl, h1, h2, h3⟩
    · rfl
    · exact absurd h2 (h k h1)
  · rcases h' with ⟨rfl, h'⟩ | ⟨k', rfl, h1', h2', h3'⟩
    · exact absurd h2 (h' k h1)
    · rcases Nat.lt_trichotomy k k' with h | h | h
      · exact absurd h2 (h3' k h)
      · rw [h]
      · exact absurd h2' (h3 k' h)

theorem refParted_any (v lv : Value) (y : Int) (l : List Int) (M : List (List Bool)) (w : World) (hg : RdGrid w v M) (hl : Rd w 1 lv l.length (zints l)) :
    Calls Try.prog 26 #[v, .int .i64 y, lv] w fun x w' => (∃ r, x = .returned (.int .i64 r) ∧ IsParted M y l r) ∧ w = w' := by
  obtain ⟨p, c, rfl, hnc, hcm⟩ := hg.form
  have HG := Lib.hid hg
  have HL := Lib.hid hl
  clear hg hl
  refine walk_q fun R' hR' => ?_
  go_enter Try.func26, Try.ntmps26
  go_wp2_with fail
  go_loopw [7] (fun iv wr => ∃ k : Nat, k ≤ M.length ∧ iv = .int .i64 (k : Int) ∧ Hid (∀ j : Nat, j < k → ¬ (0 ≤ y ∧ y < (j : Int) ∧ allB M j l = false)) ∧ w = wr) (fun iv _ => M.length - (intOf iv).toNat)
  case atStart => exact ⟨0, Nat.zero_le _, rfl, by show ∀ _, _; simp, rfl⟩
  case round =>
    obtain ⟨k, hk, rfl, hno, rfl⟩ := hrel
    have hstep : ¬ (0 ≤ y ∧ y < (k : Int) ∧ allB M k l = false) → ∀ j : Nat, j < k + 1 → ¬ (0 ≤ y ∧ y < (j : Int) ∧ allB M j l = false) := fun h j hj => by
      by_cases hjk : j = k
      · rw [hjk]; exact h
      · exact hno.out j (by omega)
    have HS := Lib.hid hstep
    clear hstep
    by_cases hkn : k < M.length
    · by_cases hy : 0 ≤ y
      · by_cases hyk : y < (k : Int)
        · go_wp2_with fail
          refine (refAll_any _ _ k l M _ HG.out HL.out).mono ?_
          rintro x w1 ⟨rfl, rfl⟩
          cases hA : allB M k l with
          | true =>
            go_wp2_with fail
            go_roundw
            case rel => exact ⟨k + 1, by omega, by go_num, HS.out (fun h => by rw [hA] at h; cases h.2.2), trivial⟩
            case measure => simp [intOf]; omega
          | false =>
            go_wp2_with fail
            exact hR'.out _ _ ⟨⟨_, rfl, .inr ⟨k, rfl, hkn, ⟨hy, hyk, hA⟩, hno.out⟩⟩, rfl⟩
        · go_wp2_with fail
          go_roundw
          case rel => exact ⟨k + 1, by omega, by go_num, HS.out (fun h => hyk h.2.1), trivial⟩
          case measure => simp [intOf]; omega
      · go_wp2_with fail
        go_roundw
        case rel => exact ⟨k + 1, by omega, by go_num, HS.out (fun h => hy h.1), trivial⟩
        case measure => simp [intOf]; omega
    · obtain rfl : k = M.length := by omega
      go_wp2_with fail
      exact hR'.out _ _ ⟨⟨_, rfl, .inl ⟨rfl, hno.out⟩⟩, rfl⟩

end Go.Proofs.Ytfalckgdhhgfaaa
