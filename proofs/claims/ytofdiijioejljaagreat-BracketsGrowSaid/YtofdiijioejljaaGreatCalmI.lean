/- Calm walks over blocks that were handed in by an address: the call may change these, and no other old memory. Calls that change an own variable; reads of a map. No function of the program in sight. -/
import Derived.Test.YtofdiijioejljaaGreatCalmH
import Derived.MapKept
set_option linter.all false
namespace Go.Proofs.YtofdiijioejljaaGreat
open Go.RowKit Go.MapKept

/-- all that was there is as it was, but some blocks -/
structure But (ad : List Nat) (w w' : World) : Prop where
  os : w'.os = w.os
  tape : w'.tape = w.tape
  output : w'.output = w.output
  size : w.heap.size ≤ w'.heap.size
  blk : ∀ g, g < w.heap.size → g ∉ ad → w'.heap[g]? = w.heap[g]?
theorem But.of {ad : List Nat} {w w' : World} (h : Beh w w') : But ad w w' := ⟨h.os, h.tape, h.output, h.size, fun g hg _ => Below.block h g hg⟩
theorem But.thn {ad : List Nat} {a b c : World} (h : But ad a b) (k : But ad b c) : But ad a c :=
  ⟨k.os.trans h.os, k.tape.trans h.tape, k.output.trans h.output, Nat.le_trans h.size k.size, fun g hg hn => (k.blk g (Nat.lt_of_lt_of_le hg h.size) hn).trans (h.blk g hg hn)⟩
/-- blocks that may be adopted -/
def AdOk (K : KC) (ad : List Nat) (w : World) : Prop := ∀ g ∈ ad, ∃ t cs, Cls w g t (List.toArray cs) ∧ K.fz t = false ∧ cs.all okCell = true
theorem But.kp {K : KC} {ad : List Nat} {w w' : World} (h : But ad w w') (ha : AdOk K ad w) : KpS K w w' := by
  have no : ∀ g, g ∈ ad → ∀ o, w.heap[g]? = some o → ∃ t cs, o = Obj.cells (List.toArray cs) t ∧ K.fz t = false ∧ cs.all okCell = true := fun g hg o ho => by
    obtain ⟨t, cs, h1, h2, h3⟩ := ha g hg
    have := (show w.heap[g]? = _ from h1).symm.trans ho
    cases this
    exact ⟨t, cs, rfl, h2, h3⟩
  refine ⟨h.size, fun a x _ hx => ?_, fun t g cur hf _ hg => ?_, fun g es c hg => ?_⟩
  · have hlt := World.block_lt_of_cell? w a hx
    by_cases hm : a.block ∈ ad
    · obtain ⟨t, cs, h1, h2, h3⟩ := ha _ hm
      exfalso
      have hx' := hx
      simp only [World.cell?, show w.heap[a.block]? = _ from h1] at hx'
      simp at hx'
      have := List.all_eq_true.1 h3 _ (List.mem_of_getElem? hx'.2)
      cases this
    · rw [World.cell?_of_block (w := w) (h.blk _ hlt hm)]; exact hx
  · refine (h.blk g (Array.getElem?_eq_some_iff.1 hg).1 fun hm => ?_).trans hg
    obtain ⟨t', cs, e, h2, _⟩ := no g hm _ hg
    cases e
    rw [h2] at hf; cases hf
  · refine (h.blk g (Array.getElem?_eq_some_iff.1 hg).1 fun hm => ?_).trans hg
    obtain ⟨t', cs, e, _⟩ := no g hm _ hg
    cases e

/-! ## The circumstances with adopted blocks -/
def NewA (N : Nat) (ad : List Nat) (w0 : World) (i g : Nat) : Prop := if 2 * N ≤ i then ad[i - 2 * N]? = some g else (w0.heap.size ≤ g ∨ g ∈ ad)
def OldA (K : KC) (ad : List Nat) (w0 w : World) : Prop := But ad w0 w ∧ AdOk K ad w
theorem AdOk.lt {K : KC} {ad : List Nat} {w : World} (h : AdOk K ad w) {g : Nat} (hg : g ∈ ad) : g < w.heap.size := by
  obtain ⟨t, cs, h1, _⟩ := h g hg
  exact h1.lt
theorem newA_ad {N : Nat} {ad : List Nat} {w0 : World} {g : Nat} (h : g ∈ ad) : ∃ i, NewA N ad w0 i g := by
  obtain ⟨j, hj⟩ := List.mem_iff_getElem?.1 h
  exact ⟨2 * N + j, by unfold NewA; rw [if_pos (by omega), Nat.add_sub_cancel_left]; exact hj⟩
theorem newA_cases {N : Nat} {ad : List Nat} {w0 : World} {i g : Nat} (h : NewA N ad w0 i g) : w0.heap.size ≤ g ∨ g ∈ ad := by
  unfold NewA at h
  split at h
  · exact .inr (List.mem_of_getElem? h)
  · exact h
theorem oldA_step {K : KC} {N : Nat} {ad : List Nat} {w0 w w' : World} (h0 : AdOk K ad w0) (h : OldA K ad w0 w) (keep : ∀ b, b < w0.heap.size → K.S b) (s : Stp K (NewA N ad w0) w w') : OldA K ad w0 w' := by
  obtain ⟨h1, h2⟩ := h
  refine ⟨⟨s.os.trans h1.os, s.tape.trans h1.tape, s.output.trans h1.output, Nat.le_trans h1.size s.size, fun g hg hn => ?_⟩, fun g hg => ?_⟩
  · rcases s.blk g (Nat.lt_of_lt_of_le hg h1.size) with e | ⟨⟨i, hi⟩, _⟩ | e
    · exact e.trans (h1.blk g hg hn)
    · rcases newA_cases hi with e | e
      · omega
      · exact absurd e hn
    · exact absurd (keep g hg) e
  · rcases s.blk g (h2.lt hg) with e | ⟨_, t, cs, g1, g2, g3⟩ | e
    · obtain ⟨t, cs, g1, g2, g3⟩ := h2 g hg
      exact ⟨t, cs, e.trans g1, g2, g3⟩
    · exact ⟨t, cs, g1, g2, g3⟩
    · exact absurd (keep g (h0.lt hg)) e
theorem oldA_cell {K : KC} {N : Nat} {ad : List Nat} {w0 w : World} {a : Addr} {u : Value} (h : OldA K ad w0 w) (hn : ∀ i, ¬ NewA N ad w0 i a.block) (hc : w0.cell? a = some u) : w.cell? a = some u := by
  rw [World.cell?_of_block (w := w0) (h.1.blk _ (World.block_lt_of_cell? w0 a hc) fun hm => by
    obtain ⟨i, hi⟩ := newA_ad (N := N) (w0 := w0) hm
    exact hn i hi)]
  exact hc
theorem newA_of {N : Nat} {ad : List Nat} {w0 : World} {i g : Nat} (hi : i < 2 * N) (hg : w0.heap.size ≤ g) : NewA N ad w0 i g := by
  unfold NewA; rw [if_neg (by omega)]; exact .inl hg
theorem newA_mv {N : Nat} {ad : List Nat} {w0 : World} {i j g : Nat} (h : NewA N ad w0 i g) (hj : j < 2 * N) : NewA N ad w0 j g := by
  have := newA_cases h
  unfold NewA; rw [if_neg (by omega)]; exact this
/-- a block is laid anew -/
def setB (w : World) (g : Nat) (o : Obj) : World := { w with heap := w.heap.setIfInBounds g o }
theorem setB_at {w : World} {g : Nat} (o : Obj) (h : g < w.heap.size) : (setB w g o).heap[g]? = some o := by simp [setB, h]
theorem setB_ne {w : World} {g q : Nat} (o : Obj) (h : q ≠ g) : (setB w g o).heap[q]? = w.heap[q]? := by
  simp [setB, Ne.symm h]
theorem setB_size (w : World) (g : Nat) (o : Obj) : (setB w g o).heap.size = w.heap.size := by simp [setB]
theorem setB_but {ad : List Nat} {w : World} {g : Nat} (o : Obj) (h : g ∈ ad) : But ad w (setB w g o) :=
  ⟨rfl, rfl, rfl, Nat.le_of_eq (setB_size w g o).symm, fun q _ hq => setB_ne o fun e => hq (e ▸ h)⟩
def layA (H : Hp) (β : Nat → Nat) (N : Nat) : Nat → List Nat → World → World
  | _, [], w => w
  | k, g :: r, w => layA H β N (k + 1) r (match H (2 * N + k) with | some (t, cs) => setB w g (.cells (cs.map (AV.leaf β)).toArray t) | none => w)
theorem layA_all {K : KC} {ad : List Nat} {w0 : World} {H : Hp} {β : Nat → Nat} {N : Nat} (hH : ∀ i t cs, H i = some (t, cs) → K.fz t = false ∧ cs.all okLeaf = true) : ∀ (l : List Nat) (k : Nat) (w : World), OldA K ad w0 w → (∀ g ∈ l, g ∈ ad) → l.Nodup →
    KpS K w (layA H β N k l w) ∧ OldA K ad w0 (layA H β N k l w) ∧ (∀ g, g ∉ l → (layA H β N k l w).heap[g]? = w.heap[g]?) ∧ ∀ j g t cs, l[j]? = some g → H (2 * N + (k + j)) = some (t, cs) → Cls (layA H β N k l w) g t (cs.map (AV.leaf β)).toArray
  | [], k, w, h, _, _ => ⟨KpS.refl _ _, h, fun _ _ => rfl, fun j g t cs hj => by simp at hj⟩
  | g :: r, k, w, h, hs, hn => by
    have hg : g ∈ ad := hs g (List.mem_cons_self ..)
    obtain ⟨n1, n2⟩ := List.nodup_cons.1 hn
    have step : ∃ w1, (match H (2 * N + k) with | some (t, cs) => setB w g (.cells (cs.map (AV.leaf β)).toArray t) | none => w) = w1 ∧ KpS K w w1 ∧ OldA K ad w0 w1 ∧ (∀ q, q ≠ g → w1.heap[q]? = w.heap[q]?) ∧ ∀ t cs, H (2 * N + k) = some (t, cs) → Cls w1 g t (cs.map (AV.leaf β)).toArray := by
      cases hh : H (2 * N + k) with
      | none => exact ⟨w, rfl, KpS.refl _ _, h, fun _ _ => rfl, fun t cs e => by cases e⟩
      | some c =>
        obtain ⟨t, cs⟩ := c
        obtain ⟨q1, q2⟩ := hH _ t cs hh
        have hlt := h.2.lt hg
        have hcl : Cls (setB w g (.cells (cs.map (AV.leaf β)).toArray t)) g t (cs.map (AV.leaf β)).toArray := setB_at _ hlt
        have hb := setB_but (w := w) (.cells (cs.map (AV.leaf β)).toArray t) hg
        refine ⟨_, rfl, hb.kp h.2, ⟨h.1.thn hb, fun q hq => ?_⟩, fun q hq => setB_ne _ hq, fun t' cs' e => by cases e; exact hcl⟩
        by_cases e : q = g
        · subst e; exact ⟨t, _, hcl, q1, okLeafs q2⟩
        · obtain ⟨t', cs', g1, g2, g3⟩ := h.2 q hq
          exact ⟨t', cs', (setB_ne _ e).trans g1, g2, g3⟩
    obtain ⟨w1, e1, s1, s2, s3, s4⟩ := step
    unfold layA
    rw [e1]
    obtain ⟨k1, k2, k3, k4⟩ := layA_all hH r (k + 1) w1 s2 (fun q hq => hs q (List.mem_cons_of_mem _ hq)) n2
    refine ⟨s1.thn k1, k2, fun q hq => (k3 q fun e => hq (List.mem_cons_of_mem _ e)).trans (s3 q fun e => hq (by rw [e]; exact List.mem_cons_self ..)), fun j q t cs hj hh => ?_⟩
    cases j with
    | zero =>
      simp at hj
      subst hj
      exact (k3 g n1).trans (s4 t cs hh)
    | succ j =>
      refine k4 j q t cs (by simpa using hj) ?_
      rw [← hh]
      congr 1
      omega
theorem layA_there {K : KC} {ad : List Nat} {N : Nat} {w0 w1 : World} (hd : ad.Nodup) (h : OldA K ad w0 w1) (H : Hp) (hH : ∀ i t cs, H i = some (t, cs) → K.fz t = false ∧ cs.all okLeaf = true) (hf : ∀ i, 2 * N + ad.length ≤ i → H i = none) :
    ∃ β w2, KpS K w1 w2 ∧ OldA K ad w0 w2 ∧ (∀ i t cs, H i = some (t, cs) → NewA N ad w0 i (β i) ∧ Cls w2 (β i) t (cs.map (AV.leaf β)).toArray) ∧ ∀ i j, H i ≠ none → H j ≠ none → β i = β j → i = j := by
  let β : Nat → Nat := fun i => if 2 * N ≤ i then ad.getD (i - 2 * N) 0 else w1.heap.size + i
  have hβ1 : ∀ i, i < 2 * N → β i = w1.heap.size + i := fun i hi => if_neg (by omega)
  have hβ2 : ∀ i, 2 * N ≤ i → β i = ad.getD (i - 2 * N) 0 := fun i hi => if_pos hi
  have mb := mkW_beh H β w1 (2 * N)
  have ha' : OldA K ad w0 (mkW H β (2 * N) w1) := ⟨h.1.thn (But.of mb), fun g hg => by
    obtain ⟨t, cs, g1, g2, g3⟩ := h.2 g hg
    exact ⟨t, cs, g1.beh mb, g2, g3⟩⟩
  obtain ⟨k1, k2, k3, k4⟩ := layA_all (β := β) (N := N) hH ad 0 _ ha' (fun _ h => h) hd
  have hlt : ∀ i, 2 * N ≤ i → H i ≠ none → ∃ g, ad[i - 2 * N]? = some g ∧ β i = g := fun i hi hn => by
    have : i - 2 * N < ad.length := by
      apply Classical.byContradiction
      intro e
      exact hn (hf i (by omega))
    refine ⟨ad[i - 2 * N], List.getElem?_eq_getElem this, ?_⟩
    rw [hβ2 i hi]
    simp [List.getD_eq_getElem?_getD, this]
  refine ⟨β, layA H β N 0 ad (mkW H β (2 * N) w1), (KpS.of mb).thn k1, k2, fun i t cs hi => ?_, fun i j hi hj e => ?_⟩
  · by_cases c : 2 * N ≤ i
    · obtain ⟨g, g1, g2⟩ := hlt i c (by rw [hi]; simp)
      rw [g2]
      refine ⟨by unfold NewA; rw [if_pos c]; exact g1, k4 (i - 2 * N) g t cs g1 ?_⟩
      rw [← hi]
      congr 1
      omega
    · rw [hβ1 i (by omega)]
      have hs := Nat.le_trans h.1.size (Nat.le_add_right w1.heap.size i)
      refine ⟨newA_of (by omega) hs, ?_⟩
      refine (k3 _ fun hm => ?_).trans (mkW_at H β w1 hi _ (by omega))
      have := h.2.lt hm
      omega
  · by_cases c : 2 * N ≤ i <;> by_cases d : 2 * N ≤ j
    · obtain ⟨g, g1, g2⟩ := hlt i c hi
      obtain ⟨g', g3, g4⟩ := hlt j d hj
      rw [g2, g4] at e
      subst e
      have := (List.getElem?_inj (List.getElem?_eq_some_iff.1 g1).1 hd).1 (g1.trans g3.symm)
      omega
    · obtain ⟨g, g1, g2⟩ := hlt i c hi
      rw [g2, hβ1 j (by omega)] at e
      have := h.2.lt (List.mem_of_getElem? g1)
      omega
    · obtain ⟨g, g1, g2⟩ := hlt j d hj
      rw [g2, hβ1 i (by omega)] at e
      have := h.2.lt (List.mem_of_getElem? g1)
      omega
    · rw [hβ1 i (by omega), hβ1 j (by omega)] at e
      omega

/-- the circumstances of a call that may change the blocks ad; these are the own variables 2 * N, 2 * N + 1, .. -/
abbrev adCx (P : Program) (w : World) (N : Nat) (K : KC) (SU : TypeId → Bool) (ti : TypeId → Option TI) (keep : ∀ b, b < w.heap.size → K.S b) (ad : List Nat) (hd : ad.Nodup) (ha : AdOk K ad w) : Cx where
  P := P
  w0 := w
  N := N
  K := K
  SU := SU
  ti := ti
  keep := keep
  New := NewA N ad w
  Old := OldA K ad w
  top := 2 * N + ad.length
  topN := Nat.le_add_right _ _
  newOf := fun _ _ h1 h2 => newA_of h1 h2
  newMv := fun _ _ _ h1 h2 => newA_mv h1 h2
  oldSize := fun _ h => h.1.size
  oldRefl := ⟨But.of (Beh.refl _), ha⟩
  oldStep := fun _ _ h k _ s => oldA_step ha h k s
  oldCell := fun _ _ _ h hn hc => oldA_cell h hn hc
  lay := fun _ H h hH hf => layA_there hd h H hH hf

/-! ## The beginning -/
def Fr.argA : Nat → List AV → Fr
  | _, [] => fun _ => none
  | k, v :: r => fun n => bif Nat.beq n k then some v else Fr.argA (k + 1) r n
theorem Fr.argA_at : ∀ (l : List AV) (k n : Nat) (v : AV), Fr.argA k l n = some v → k ≤ n ∧ l[n - k]? = some v
  | [], k, n, v, h => by cases h
  | x :: r, k, n, v, h => by
    unfold Fr.argA at h
    cases hb : Nat.beq n k with
    | true =>
      rw [hb] at h
      cases h
      have e := Nat.eq_of_beq_eq_true hb
      exact ⟨by omega, by rw [e]; simp⟩
    | false =>
      rw [hb] at h
      obtain ⟨h2, h3⟩ := Fr.argA_at r (k + 1) n v h
      refine ⟨by omega, ?_⟩
      rw [show n - k = (n - (k + 1)) + 1 by omega]
      simpa using h3
section
variable {C : Cx} {F : Fr} {H : Hp} {w : World} {m : Option (List FuncId)} {full : Array Oper} {K : Fr → Hp → World → Prop} {o : Oper} {r : List Oper}
theorem calm_enterA {f : FuncId} {fn : Func} {c : Code} {args : List AV} {R : Ending → World → Prop} {β : Nat → Nat} (hf : C.P.funcs[f]? = some fn) (hb : fn.body = some c) (hN : fn.ntmps = C.N) (ha : args.length ≤ C.N)
    (hown : ∀ i t cs, H i = some (t, cs) → OwnV C β C.w0 i t cs) (hap : ∀ i j, H i ≠ none → H j ≠ none → β i = β j → i = j) (hp : HpOk C H) (hcl : ∀ v ∈ args, ∀ i ∈ v.ids, H i ≠ none)
    (h : VS C (bodyPost C.P fn R) [.code c] (Fr.argA 0 args) H C.w0) : Calls C.P f (args.map (AV.conc β)).toArray C.w0 R := by
  refine calls_of_wp hf hb ?_
  refine h β _ C.w0 ⟨rfl, ?_, fun d v hd => ?_, hown, hap, fun d v hd i hi => ?_, fun d v hd => ?_, hp, C.oldRefl⟩ (KpS.refl _ _)
  · simp [hN]; omega
  · obtain ⟨_, h2⟩ := Fr.argA_at args 0 d v hd
    rw [Nat.sub_zero] at h2
    show ((args.map (AV.conc β)).toArray ++ _).getD d undef = v.conc β
    have hlt := (List.getElem?_eq_some_iff.1 h2).1
    rw [Array.getD_eq_getD_getElem?, Array.getElem?_append_left (by simpa using hlt)]
    simp [h2]
  · obtain ⟨_, h2⟩ := Fr.argA_at args 0 d v hd
    exact hcl v (List.mem_of_getElem? h2) i hi
  · obtain ⟨_, h2⟩ := Fr.argA_at args 0 d _ hd
    rw [Nat.sub_zero] at h2
    have := (List.getElem?_eq_some_iff.1 h2).1
    omega

/-- a call that changes one own variable, whose cells are then values -/
theorem VO.callM {g : FuncId} {args : List AV} {i : Nat} {t : TypeId} {cs : List AV} (e : stepOf C full F H o = .call (.fn g args)) (hH : H i = some (t, cs)) (hi : i ∈ idsOf args) (hf : FnOk C.P g) (hl : 1 ≤ lvl C.SU m o)
    (h : ∀ w1 β, KpS C.K w w1 → C.Old w1 → OwnAt C β H (idsOf args) w1 → Calls C.P g (args.map (AV.conc β)).toArray w1 fun e w2 => ∃ v ds, e = .returned v ∧ But [β i] w1 w2 ∧ Cls w2 (β i) t (List.toArray ds) ∧ ds.all okCell = true ∧
      (KpS C.K w w2 → KpS C.K w1 w2 → C.Old w2 → vcOps C m full r K (F.puto o.dst (.val v)) (H.put i (t, ds.map .val)) w2)) : vcOps C m full (o :: r) K F H w := by
  show one C m full o (vcOps C m full r K) F H w
  unfold one
  rw [e]
  refine fun w1 β h1 h2 h3 => ⟨hf, (h w1 β h1 h2 h3).mono ?_⟩
  rintro e w2 ⟨v, ds, rfl, hb, hc, hk, hv⟩
  have ho := h3.own i (.base hi) t cs hH
  refine ⟨β, .val v, none, [(i, (t, ds.map .val))], rfl, fun i hi => (by cases hi), .inl hl, .inr rfl, ?_, fun a b c _ _ => hv a b c⟩
  refine ⟨hb.os, hb.tape, hb.output, hb.size, fun k hk hx _ _ => hb.blk k hk (by simpa using hx), fun _ _ => rfl, fun i hi => (by cases hi), fun i hi => (by cases hi), fun x hx => ?_, fun x hx => ?_, by simp, fun x hx y hy _ => ?_, fun x hx j hj => ?_⟩
  · cases List.mem_singleton.1 hx
    exact ⟨ho.new, ho.ty, by rw [leaf_vals]; exact hc, vals_ok hk⟩
  · cases List.mem_singleton.1 hx
    exact .inl ⟨by rw [hH]; simp, by simp, .base hi, rfl⟩
  · cases List.mem_singleton.1 hx; cases List.mem_singleton.1 hy; rfl
  · cases List.mem_singleton.1 hx
    rw [lidsOf_vals] at hj; cases hj

/-- what a map tells of a key -/
def lookV (z : Value) (ok : Bool) : Option (Nat × Value) → Value
  | some (_, v) => if ok = true then .tuple #[v, .bool true] else v
  | none => if ok = true then .tuple #[z, .bool false] else z
theorem run_lookup_now {P : Program} {w : World} {t kt et : TypeId} {d : TypeDesc} {rr : Nat} {es : Array MapEntry} {c : Nat} {k z : Value} {res : Option (Nat × Value)} (ok : Bool) (ht : P.underlying t = some (.map kt et)) (hd : P.underlying kt = some d) (hk : IsKey d k)
    (hz : (zeroValue et).run P w = .ok z w) (hm : w.heap[rr]? = some (.map es c)) (hr : Instr.findNow d k es.toList 0 = some res) : (Instr.lookup t (.map (some rr)) k ok).run P w = .ok (lookV z ok res) w := by
  have hc := run_checkKey (w := w) hd hk es.isEmpty 9999
  cases res with
  | none => cases ok <;> simp [Instr.lookup, run_underlying ht, MapKept.run_getObj_map hm, hc, run_findKey hd hr, hz, Result.andThen, lookV]
  | some p => cases ok <;> simp [Instr.lookup, run_underlying ht, MapKept.run_getObj_map hm, hc, run_findKey hd hr, Result.andThen, lookV]
theorem VO.look {t kt et : TypeId} {d : TypeDesc} {x y : Operand} {ok : Bool} {rr : Nat} {es : Array MapEntry} {c : Nat} {k z : Value} {res : Option (Nat × Value)}
    (e : stepOf C full F H o = .call (.op o [.val (.map (some rr)), .val k])) (ho : o.op = .lookup t x y ok) (ht : C.P.underlying t = some (.map kt et)) (hd : C.P.underlying kt = some d) (hk : IsKey d k) (hz : ∀ w, (zeroValue et).run C.P w = .ok z w)
    (hm : ∀ w1, KpS C.K w w1 → C.Old w1 → w1.heap[rr]? = some (.map es c)) (hr : Instr.findNow d k es.toList 0 = some res)
    (h : ∀ w2, KpS C.K w w2 → C.Old w2 → vcOps C m full r K (F.puto o.dst (.val (lookV z ok res))) H w2) : vcOps C m full (o :: r) K F H w :=
  VO.callR e fun w1 β h1 h2 _ => ⟨_, w1, fun ρ hρ => .inl (by
    rw [ho] at hρ
    simp [Op.operands] at hρ
    obtain ⟨q1, q2⟩ := hρ
    unfold execOp
    simp only [ho, q1, q2, AV.conc]
    simp [run_lookup_now ok ht hd hk (hz w1) (hm w1 h1 h2) hr, Result.andThen]), _, rfl, Beh.refl _, fun a1 _ a3 => h w1 a1 a3⟩
end

/-! ## One adopted block -/
def Hp.one (i : Nat) (t : TypeId) (cs : List Value) : Hp := fun n => bif Nat.beq n i then some (t, cs.map .val) else none
theorem Hp.one_at (i n : Nat) (t : TypeId) (cs : List Value) : Hp.one i t cs n = if n = i then some (t, cs.map .val) else none := by
  unfold Hp.one
  by_cases h : n = i
  · subst h; simp
  · have : Nat.beq n i = false := by rw [← Bool.not_eq_true, Nat.beq_eq]; exact h
    simp [this, h]
theorem ad1 {K : KC} {w : World} {g : Nat} {t : TypeId} {cs : List Value} (hc : Cls w g t cs.toArray) (ht : K.fz t = false) (hk : cs.all okCell = true) : AdOk K [g] w := fun q hq => by
  cases List.mem_singleton.1 hq
  exact ⟨t, cs, hc, ht, hk⟩
theorem one_nodup (g : Nat) : [g].Nodup := by simp
theorem calm_enter1 (P : Program) (w : World) (N : Nat) (K : KC) (SU : TypeId → Bool) (ti : TypeId → Option TI) (keep : ∀ b, b < w.heap.size → K.S b) {g : Nat} {t : TypeId} {cs us : List Value} {f : FuncId} {fn : Func} {c : Code} {R : Ending → World → Prop} (hf : P.funcs[f]? = some fn) (hb : fn.body = some c) (hN : fn.ntmps = N) (ha : us.length + 1 ≤ N)
    (hc : Cls w g t cs.toArray) (ht : K.fz t = false) (hk : cs.all okCell = true)
    (h : VS (adCx P w N K SU ti keep [g] (one_nodup g) (ad1 hc ht hk)) (bodyPost P fn R) [.code c] (Fr.argA 0 (.box (2 * N) 0 :: us.map .val)) (Hp.one (2 * N) t cs) w) : Calls P f (Value.pointer (some ⟨g, 0, none⟩) :: us).toArray w R := by
  have := calm_enterA (C := adCx P w N K SU ti keep [g] (one_nodup g) (ad1 hc ht hk)) (R := R) (args := .box (2 * N) 0 :: us.map .val) (β := fun _ => g) (H := Hp.one (2 * N) t cs) hf hb hN (by simpa using ha) (fun i t' cs' hi => ?_) (fun i j hi hj _ => ?_) ⟨fun i t' cs' hi => ?_, fun i t' cs' hi => ?_, fun i hi => ?_⟩ (fun v hv i hi => ?_) h
  · have e : (AV.box (2 * N) 0 :: us.map AV.val).map (AV.conc fun _ => g) = Value.pointer (some ⟨g, 0, none⟩) :: us := by
      rw [List.map_cons, conc_vals]; rfl
    rw [e] at this
    exact this
  · rw [Hp.one_at] at hi
    split at hi
    · rename_i e
      cases hi
      refine ⟨?_, ht, by rw [leaf_vals]; exact hc, vals_ok hk⟩
      show NewA N [g] w i g
      unfold NewA
      rw [if_pos (by omega), e, Nat.sub_self]
      rfl
    · cases hi
  · rw [Hp.one_at] at hi hj
    split at hi
    · split at hj
      · omega
      · exact absurd rfl hj
    · exact absurd rfl hi
  · rw [Hp.one_at] at hi
    split at hi
    · cases hi; exact ⟨ht, vals_ok hk⟩
    · cases hi
  · rw [Hp.one_at] at hi
    split at hi
    · cases hi
      intro j hj
      rw [lidsOf_vals] at hj; cases hj
    · cases hi
  · rw [Hp.one_at, if_neg]
    intro e
    have : (2 * N + [g].length) ≤ i := hi
    simp at this
    omega
  · rcases List.mem_cons.1 hv with rfl | hv
    · have : i = 2 * N := by simpa [AV.ids] using hi
      rw [Hp.one_at, if_pos this]; simp
    · obtain ⟨u, _, rfl⟩ := List.mem_map.1 hv
      cases hi
theorem own1 {P : Program} {w w' : World} {N : Nat} {K : KC} {SU : TypeId → Bool} {ti : TypeId → Option TI} {keep : ∀ b, b < w.heap.size → K.S b} {g : Nat} {ha : AdOk K [g] w} {β : Nat → Nat} {i : Nat} {t : TypeId} {cs : List AV} (h : OwnV (adCx P w N K SU ti keep [g] (one_nodup g) ha) β w' i t cs) (hi : i = 2 * N) : Cls w' g t (cs.map (AV.leaf β)).toArray := by
  have h1 : NewA N [g] w i (β i) := h.new
  unfold NewA at h1
  rw [if_pos (by omega), hi, Nat.sub_self] at h1
  have h2 : g = β (2 * N) := by simpa using h1
  have h3 := h.cls
  rw [hi, ← h2] at h3
  exact h3

/-! ## A map, laid out entry by entry -/
def entsOf : Nat → List (Value × FuncId) → List MapEntry
  | _, [] => []
  | n, (k, g) :: r => ⟨k, .func (.func g) #[] #[], n⟩ :: entsOf (n + 1) r
def Fresh (d : TypeDesc) : List MapEntry → List (Value × FuncId) → Prop
  | _, [] => True
  | es, (k, g) :: r => IsKey d k ∧ Instr.findNow d k es 0 = some none ∧ Fresh d (es ++ [⟨k, .func (.func g) #[] #[], es.length⟩]) r
def mapOps (t : TypeId) (d : Nat) : List (Value × FuncId) → List Oper → Prop
  | [], [] => True
  | (k, g) :: q, o :: r => o.guard = none ∧ o.op = .insert t (.tmp d) (.const k) (.func g) ∧ o.dst = none ∧ mapOps t d q r
  | _, _ => False
theorem run_mapUpdate_new {P : Program} {w : World} {t kt et : TypeId} {d : TypeDesc} {rr : Nat} {es : Array MapEntry} {c : Nat} {k v : Value} (ht : P.underlying t = some (.map kt et)) (hd : P.underlying kt = some d) (hk : IsKey d k)
    (hm : w.heap[rr]? = some (.map es c)) (hr : Instr.findNow d k es.toList 0 = some none) : (Instr.mapUpdate t (.map (some rr)) k v).run P w = .ok () (setB w rr (.map (es.push ⟨k, v, c⟩) (c + 1))) := by
  have hc := run_checkKey (w := w) hd hk false 9999
  simp [Instr.mapUpdate, run_underlying ht, MapKept.run_getObj_map hm, hc, run_findKey hd hr, Result.andThen, MapKept.run_setObj_map _ hm, setB]
theorem wp_inserts {P : Program} {full : Array Oper} {Q : Exit → Act → World → Prop} {t kt et : TypeId} {d : TypeDesc} {dd b : Nat} (ht : P.underlying t = some (.map kt et)) (hd : P.underlying kt = some d) {tl : List Oper} {a : Act} (ha : a.eval (.tmp dd) = .map (some b)) :
    ∀ (ins : List Oper) (kvs : List (Value × FuncId)) (es : List MapEntry) (w : World), mapOps t dd kvs ins → Fresh d es kvs → w.heap[b]? = some (.map es.toArray es.length) →
      (∀ w2, But [b] w w2 → w2.heap[b]? = some (.map (es ++ entsOf es.length kvs).toArray (es.length + kvs.length)) → wpList P full Q tl a w2) → wpList P full Q (ins ++ tl) a w
  | [], [], es, w, hm, hf, hw, h => h w (But.of (Beh.refl _)) (by simpa [entsOf] using hw)
  | [], _ :: _, es, w, hm, hf, hw, h => (show False from hm).elim
  | o :: r, [], es, w, hm, hf, hw, h => (show False from hm).elim
  | o :: r, (k, g) :: q, es, w, hm, hf, hw, h => by
    obtain ⟨h1, h2, h3, h4⟩ := hm
    obtain ⟨f1, f2, f3⟩ := hf
    refine wpList_plain h1 fun K hK => ?_
    have hrun := run_mapUpdate_new (P := P) (w := w) (v := .func (.func g) #[] #[]) ht hd f1 hw f2
    have hlt : b < w.heap.size := (Array.getElem?_eq_some_iff.1 hw).1
    refine Oper.wp_skip (w' := setB w b (.map (es.toArray.push ⟨k, .func (.func g) #[] #[], es.length⟩) (es.length + 1))) ?_ (hK _ _ ?_)
    · simp only [execOp, h2, ha]
      show (do Instr.mapUpdate t (.map (some b)) (a.eval (.const k)) (a.eval (.func g)); pure Next.skip : Sem Next).run P w = _
      have e1 : a.eval (.const k) = k := rfl
      have e2 : a.eval (.func g) = .func (.func g) #[] #[] := rfl
      rw [e1, e2]
      simp [hrun, Result.andThen]
    · rw [h3]
      show wpList P full Q (r ++ tl) a _
      refine wp_inserts ht hd ha r q (es ++ [⟨k, .func (.func g) #[] #[], es.length⟩]) _ h4 f3 ?_ fun w2 b2 g2 => h w2 ((setB_but _ (List.mem_singleton.2 rfl)).thn b2) ?_
      · rw [setB_at _ hlt]; simp
      · rw [g2]; simp [entsOf]; omega
theorem VS.mapLit {C : Cx} {Q : Exit → Act → World → Prop} {F : Fr} {H : Hp} {w : World} {st : List It} (hC : C.Ok) {id : Nat} {ops : Array Oper} {mk : Oper} {ins tl : List Oper} {t kt et : TypeId} {d : TypeDesc} {dd : Nat} (kvs : List (Value × FuncId)) (hops : ops.toList = mk :: (ins ++ tl))
    (hg : mk.guard = none) (hmk : mk.op = .makeMap t none) (hdst : mk.dst = some dd) (hdN : dd < C.N) (ht : C.P.underlying t = some (.map kt et)) (hd : C.P.underlying kt = some d) (hins : mapOps t dd kvs ins) (hf : Fresh d [] kvs)
    (h : ∀ w2 b, KpS C.K w w2 → C.Old w2 → w2.heap[b]? = some (.map (entsOf 0 kvs).toArray kvs.length) → vcOps C none ops tl (VS C Q st) (F.put dd (.val (.map (some b)))) H w2) : VS C Q (.code (.region id ops false) :: st) F H w := fun β a w' hr hk => by
  refine wp_region_list ?_
  rw [hops]
  refine wpList_plain hg fun K hK => ?_
  refine Oper.wp_value (v := .map (some w'.heap.size)) (w' := w'.alloc (.map #[] 0)) ?_ (hK _ _ ?_)
  · simp [execOp, hmk, Instr.makeMap, Result.andThen]
  rw [hdst]
  have hsz : dd < a.tmps.size := by rw [hr.size]; exact hdN
  have hev : (a.put (some dd) (.map (some w'.heap.size))).eval (.tmp dd) = .map (some w'.heap.size) := by
    show (a.tmps.setIfInBounds dd _).getD dd undef = _
    simp [Array.getD_eq_getD_getElem?, hsz]
  refine wp_inserts ht hd hev ins kvs [] _ hins hf (MapKept.heap_alloc w' _).1 fun w2 b2 g2 => ?_
  have hb : Beh w' w2 := ⟨b2.os, b2.tape, b2.output, Nat.le_trans (by simp) b2.size, fun g hg => (b2.blk g (by simp; omega) (by simp; omega)).trans ((MapKept.heap_alloc w' _).2 g hg)⟩
  have hr2 : Rel C β F H a w2 := hr.changed (ids := []) (del := none) (ups := []) (Chg.none hb)
  have hr3 := hr2.put (dst := some dd) (by simpa [dstOk, Nat.blt_eq] using hdN) (v := .val (.map (some w'.heap.size))) (fun _ hi => by cases hi)
  exact vcOps_list hC (fun β F H w a w' h hr hk => h β a w' hr hk) tl β _ H w2 _ w2 (h w2 w'.heap.size (hk.thn (KpS.of hb)) hr2.old (by simpa using g2)) hr3 (KpS.refl _ _)
theorem head_parts {α : Type} {l : List α} {x : α} (h : l.head? = some x) (n : Nat) : l = x :: ((l.drop 1).take n ++ l.drop (n + 1)) := by
  cases l with
  | nil => simp at h
  | cons y r => simp at h; subst h; simp
theorem VS.mapLitN {C : Cx} {Q : Exit → Act → World → Prop} {F : Fr} {H : Hp} {w : World} {st : List It} (hC : C.Ok) {id : Nat} {ops : Array Oper} {mk : Oper} {t kt et : TypeId} {d : TypeDesc} {dd : Nat} (n : Nat) (kvs : List (Value × FuncId)) (hops : ops.toList.head? = some mk)
    (hg : mk.guard = none) (hmk : mk.op = .makeMap t none) (hdst : mk.dst = some dd) (hdN : dd < C.N) (ht : C.P.underlying t = some (.map kt et)) (hd : C.P.underlying kt = some d) (hins : mapOps t dd kvs ((ops.toList.drop 1).take n)) (hf : Fresh d [] kvs)
    (h : ∀ w2 b, KpS C.K w w2 → C.Old w2 → w2.heap[b]? = some (.map (entsOf 0 kvs).toArray kvs.length) → vcOps C none ops (ops.toList.drop (n + 1)) (VS C Q st) (F.put dd (.val (.map (some b)))) H w2) : VS C Q (.code (.region id ops false) :: st) F H w :=
  VS.mapLit hC kvs (head_parts hops n) hg hmk hdst hdN ht hd hins hf h
/-- a call ends where its text ends -/
theorem VS.fin {C : Cx} {F : Fr} {H : Hp} {w : World} (hC : C.Ok) {fn : Func} {R : Ending → World → Prop} {vs : List AV} (h : resOf C F H fn.results.toList = some vs) (hR : ∀ w' β, KpS C.K w w' → C.Old w' → Ends C β H w' → R (.returned (tup (vs.map (AV.conc β)))) w') : VS C (bodyPost C.P fn R) [] F H w :=
  fun β a w' hr hk => fin_retA hC h hR β a w' hr hk
end Go.Proofs.YtofdiijioejljaaGreat
