/- Calm walks over blocks that were handed in by an address: the call may change these, and no other old memory. Calls that change an own variable; reads of a map. No function of the program in sight. -/
import Derived.Test.YtofdiijioejljaaGreatCalmH
import Derived.MapKept
set_option linter.all false
namespace Go.Proofs.YtofdiijioejljaaGreat
open Go.RowKit Go.MapKept

structure But (ad : List Nat) (w w' : World) : Prop where
 os : w'.os = w.os
 tape : w'.tape = w.tape
 output : w'.output = w.output
 size : w.heap.size ≤ w'.heap.size
 blk : ∀ g, g < w.heap.size → g ∉ ad → w'.heap[g]? = w.heap[g]?
theorem But.of {ad : List Nat} {w w' : World} (h : Beh w w') : But ad w w' := ⟨h.os, h.tape, h.output, h.size, fun g hg _ => Below.block h g hg⟩
theorem But.thn {ad : List Nat} {a b c : World} (h : But ad a b) (k : But ad b c) : But ad a c :=
 ⟨k.os.trans h.os, k.tape.trans h.tape, k.output.trans h.output, Nat.le_trans h.size k.size, fun g hg hn => (k.blk g (Nat.lt_of_lt_of_le hg h.size) hn).trans (h.blk g hg hn)⟩
def AdOk (K : KC) (ad : List Nat) (w : World) : Prop := ∀ g ∈ ad, ∃ t cs, Cls w g t (List.toArray cs) ∧ K.fz t = false ∧ cs.all okCell = true
theorem But.kp {K : KC} {ad : List Nat} {w w' : World} (h : But ad w w') (ha : AdOk K ad w) : KpS K w w' := by
 have no : ∀ g, g ∈ ad → ∀ o, w.heap[g]? = some o → ∃ t cs, o = Obj.cells (List.toArray cs) t ∧ K.fz t = false ∧ cs.all okCell = true := fun g hg o ho => by
  obtain ⟨t, cs, h1, h2, h3⟩ := ha g hg
  have := (show w.heap[g]? = _ from h1).symm.trans ho
  cases this
  exact ⟨t, cs, rfl, h2, h3⟩
 refine ⟨h.size, fun a x _ hx => ?_, fun t g cur hf _ hg => ?_, fun g es c hg => ?_⟩
 ·have hlt := World.block_lt_of_cell? w a hx
  by_cases hm : a.block ∈ ad
  ·obtain ⟨t, cs, h1, h2, h3⟩ := ha _ hm
   exfalso
   have hx' := hx
   simp only [World.cell?, show w.heap[a.block]? = _ from h1] at hx'
   simp at hx'
   have := List.all_eq_true.1 h3 _ (List.mem_of_getElem? hx'.2)
   cases this
  ·rw [World.cell?_of_block (w := w) (h.blk _ hlt hm)]; exact hx
 ·refine (h.blk g (Array.getElem?_eq_some_iff.1 hg).1 fun hm => ?_).trans hg
  obtain ⟨t', cs, e, h2, _⟩ := no g hm _ hg
  cases e
  rw [h2] at hf; cases hf
 ·refine (h.blk g (Array.getElem?_eq_some_iff.1 hg).1 fun hm => ?_).trans hg
  obtain ⟨t', cs, e, _⟩ := no g hm _ hg
  cases e

def NewA (N : Nat) (ad : List Nat) (w0 : World) (i g : Nat) : Prop := if 2 * N ≤ i then ad[i - 2 * N]? = some g else (w0.heap.size ≤ g ∨ g ∈ ad)
def OldA (K : KC) (ad : List Nat) (w0 w : World) : Prop := But ad w0 w ∧ AdOk K ad w
theorem AdOk.lt {K : KC} {ad : List Nat} {w : World} (h : AdOk K ad w) {g : Nat} (hg : g ∈ ad) : g < w.heap.size := by
 obtain ⟨t, cs, h1, _⟩ := h g hg
 exact h1.lt
theorem newA_ad {N : Nat} {ad : List Nat} {w0 : World} {g : Nat} (h : g ∈ ad) : ∃ i, NewA N ad w0 i g := by
 obtain ⟨j, hj⟩ := List.mem_iff_getElem?.1 h
 exact ⟨2 * N + j, by unfold NewA; rw [if_pos (by omega), Nat.add_sub_cancel_left]; exact hj⟩
theorem newA_cases {N : Nat} {ad : List Nat} {w0 : World} {i g : Nat} (h : NewA N ad w0 i g) : w0.heap.size ≤ g ∨ g ∈ ad := by
 unfold NewA at h
 split at h
 ·exact .inr (List.mem_of_getElem? h)
 ·exact h
theorem oldA_step {K : KC} {N : Nat} {ad : List Nat} {w0 w w' : World} (h0 : AdOk K ad w0) (h : OldA K ad w0 w) (keep : ∀ b, b < w0.heap.size → K.S b) (s : Stp K (NewA N ad w0) w w') : OldA K ad w0 w' := by
 obtain ⟨h1, h2⟩ := h
 refine ⟨⟨s.os.trans h1.os, s.tape.trans h1.tape, s.output.trans h1.output, Nat.le_trans h1.size s.size, fun g hg hn => ?_⟩, fun g hg => ?_⟩
 ·rcases s.blk g (Nat.lt_of_lt_of_le hg h1.size) with e | ⟨⟨i, hi⟩, _⟩ | e
  ·exact e.trans (h1.blk g hg hn)
  ·rcases newA_cases hi with e | e
   ·omega
   ·exact absurd e hn
  ·exact absurd (keep g hg) e
 ·rcases s.blk g (h2.lt hg) with e | ⟨_, t, cs, g1, g2, g3⟩ | e
  ·obtain ⟨t, cs, g1, g2, g3⟩ := h2 g hg
   exact ⟨t, cs, e.trans g1, g2, g3⟩
  ·exact ⟨t, cs, g1, g2, g3⟩
  ·exact absurd (keep g (h0.lt hg)) e
theorem oldA_cell {K : KC} {N : Nat} {ad : List Nat} {w0 w : World} {a : Addr} {u : Value} (h : OldA K ad w0 w) (hn : ∀ i, ¬ NewA N ad w0 i a.block) (hc : w0.cell? a = some u) : w.cell? a = some u := by
 rw [World.cell?_of_block (w := w0) (h.1.blk _ (World.block_lt_of_cell? w0 a hc) fun hm => by
  obtain ⟨i, hi⟩ := newA_ad (N := N) (w0 := w0) hm
  exact hn i hi)]
 exact hc
theorem newA_of {N : Nat} {ad : List Nat} {w0 : World} {i g : Nat} (hi : i < 2 * N) (hg : w0.heap.size ≤ g) : NewA N ad w0 i g := by
 unfold NewA; rw [if_neg (by omega)]; exact .inl hg
theorem newA_mv {N : Nat} {ad : List Nat} {w0 : World} {i j g : Nat} (h : NewA N ad w0 i g) (hj : j < 2 * N) : NewA N ad w0 j g := by
 have := newA_cases h
 unfold NewA; rw [if_neg (by omega)]; exact this
def setB (w : World) (g : Nat) (o : Obj) : World := { w with heap := w.heap.setIfInBounds g o }
theorem setB_at {w : World} {g : Nat} (o : Obj) (h : g < w.heap.size) : (setB w g o).heap[g]? = some o := by simp [setB, h]
theorem setB_ne {w : World} {g q : Nat} (o : Obj) (h : q ≠ g) : (setB w g o).heap[q]? = w.heap[q]? := by
 simp [setB, Ne.symm h]
theorem setB_size (w : World) (g : Nat) (o : Obj) : (setB w g o).heap.size = w.heap.size := by simp [setB]
theorem setB_but {ad : List Nat} {w : World} {g : Nat} (o : Obj) (h : g ∈ ad) : But ad w (setB w g o) :=
 ⟨rfl, rfl, rfl, Nat.le_of_eq (setB_size w g o).symm, fun q _ hq => setB_ne o fun e => hq (e ▸ h)⟩
def layA (H : Hp) (β : Nat → Nat) (N : Nat) : Nat → List Nat → World → World
 | _, [], w => w
 | k, g :: r, w => layA H β N (k + 1) r (match H (2 * N + k) with | some (t, cs) => setB w g (.cells (cs.map (AV.leaf β)).toArray t) | none => w)
theorem layA_all {K : KC} {ad : List Nat} {w0 : World} {H : Hp} {β : Nat → Nat} {N : Nat} (hH : ∀ i t cs, H i = some (t, cs) → K.fz t = false ∧ cs.all okLeaf = true) : ∀ (l : List Nat) (k : Nat) (w : World), OldA K ad w0 w → (∀ g ∈ l, g ∈ ad) → l.Nodup →
  KpS K w (layA H β N k l w) ∧ OldA K ad w0 (layA H β N k l w) ∧ (∀ g, g ∉ l → (layA H β N k l w).heap[g]? = w.heap[g]?) ∧ ∀ j g t cs, l[j]? = some g → H (2 * N + (k + j)) = some (t, cs) → Cls (layA H β N k l w) g t (cs.map (AV.leaf β)).toArray
 | [], k, w, h, _, _ => ⟨KpS.refl _ _, h, fun _ _ => rfl, fun j g t cs hj => by simp at hj⟩
 | g :: r, k, w, h, hs, hn => by
  have hg : g ∈ ad := hs g (List.mem_cons_self ..)
  obtain ⟨n1, n2⟩ := List.nodup_cons.1 hn
  have step : ∃ w1, (match H (2 * N + k) with | some (t, cs) => setB w g (.cells (cs.map (AV.leaf β)).toArray t) | none => w) = w1 ∧ KpS K w w1 ∧ OldA K ad w0 w1 ∧ (∀ q, q ≠ g → w1.heap[q]? = w.heap[q]?) ∧ ∀ t cs, H (2 * N + k) = some (t, cs) → Cls w1 g t (cs.map (AV.leaf β)).toArray := by
   cases hh : H (2 * N + k) with
   | none => exact ⟨w, rfl, KpS.refl _ _, h, fun _ _ => rfl, fun t cs e => by cases e⟩
   | some c =>
    obtain ⟨t, cs⟩ := c
    obtain ⟨q1, q2⟩ := hH _ t cs hh
    have hlt := h.2.lt hg
    have hcl : Cls (setB w g (.cells (cs.map (AV.leaf β)).toArray t)) g t (cs.map (AV.leaf β)).toArray := setB_at _ hlt
    have hb := setB_but (w := w) (.cells (cs.map (AV.leaf β)).toArray t) hg
    refine ⟨_, rfl, hb.kp h.2, ⟨h.1.thn hb, fun q hq => ?_⟩, fun q hq => setB_ne _ hq, fun t' cs' e => by cases e; exact hcl⟩
    by_cases e : q = g
    ·subst e; exact ⟨t, _, hcl, q1, okLeafs q2⟩
    ·obtain ⟨t', cs', g1, g2, g3⟩ := h.2 q hq
     exact ⟨t', cs', (setB_ne _ e).trans g1, g2, g3⟩
  obtain ⟨w1, e1, s1, s2, s3, s4⟩ := step
  unfold layA
  rw [e1]
  obtain ⟨k1, k2, k3, k4⟩ := layA_all hH r (k + 1) w1 s2 (fun q hq => hs q (List.mem_cons_of_mem _ hq)) n2
  refine ⟨s1.thn k1, k2, fun q hq => (k3 q fun e => hq (List.mem_cons_of_mem _ e)).trans (s3 q fun e => hq (by rw [e]; exact List.mem_cons_self ..)), fun j q t cs hj hh => ?_⟩
  cases j with
  | zero =>
   simp at hj
   subst hj
   exact (k3 g n1).trans (s4 t cs hh)
  | succ j =>
   refine k4 j q t cs (by simpa using hj) ?_
   rw [← hh]
   congr 1
   omega
theorem layA_there {K : KC} {ad : List Nat} {N : Nat} {w0 w1 : World} (hd : ad.Nodup) (h : OldA K ad w0 w1) (H : Hp) (hH : ∀ i t cs, H i = some (t, cs) → K.fz t = false ∧ cs.all okLeaf = true) (hf : ∀ i, 2 * N + ad.length ≤ i → H i = none) :
  ∃ β w2, KpS K w1 w2 ∧ OldA K ad w0 w2 ∧ (∀ i t cs, H i = some (t, cs) → NewA N ad w0 i (β i) ∧ Cls w2 (β i) t (cs.map (AV.leaf β)).toArray) ∧ ∀ i j, H i ≠ none → H j ≠ none → β i = β j → i = j := by
 let β : Nat → Nat := fun i => if 2 * N ≤ i then ad.getD (i - 2 * N) 0 else w1.heap.size + i
 have hβ1 : ∀ i, i < 2 * N → β i = w1.heap.size + i := fun i hi => if_neg (by omega)
 have hβ2 : ∀ i, 2 * N ≤ i → β i = ad.getD (i - 2 * N) 0 := fun i hi => if_pos hi
 have mb := mkW_beh H β w1 (2 * N)
 have ha' : OldA K ad w0 (mkW H β (2 * N) w1) := ⟨h.1.thn (But.of mb), fun g hg => by
  obtain ⟨t, cs, g1, g2, g3⟩ := h.2 g hg
  exact ⟨t, cs, g1.beh mb, g2, g3⟩⟩
 obtain ⟨k1, k2, k3, k4⟩ := layA_all (β := β) (N := N) hH ad 0 _ ha' (fun _ h => h) hd
 have hlt : ∀ i, 2 * N ≤ i → H i ≠ none → ∃ g, ad[i - 2 * N]? = some g ∧ β i = g := fun i hi hn => by
  have : i - 2 * N < ad.length := by
   apply Classical.byContradiction
   intro e
   exact hn (hf i (by omega))
  refine ⟨ad[i - 2 * N], List.getElem?_eq_getElem this, ?_⟩
  rw [hβ2 i hi]
  simp [List.getD_eq_getElem?_getD, this]
 refine ⟨β, layA H β N 0 ad (mkW H β (2 * N) w1), (KpS.of mb).thn k1, k2, fun i t cs hi => ?_, fun i j hi hj e => ?_⟩
 ·by_cases c : 2 * N ≤ i
  ·obtain ⟨g, g1, g2⟩ := hlt i c (by rw [hi]; simp)
   rw [g2]
   refine ⟨by unfold NewA; rw [if_pos c]; exact g1, k4 (i - 2 * N) g t cs g1 ?_⟩
   rw [← hi]
   congr 1
   omega
  ·rw [hβ1 i (by omega)]
   have hs := Nat.le_trans h.1.size (Nat.le_add_right w1.heap.size i)
   refine ⟨newA_of (by omega) hs, ?_⟩
   refine (k3 _ fun hm => ?_).trans (mkW_at H β w1 hi _ (by omega))
   have := h.2.lt hm
   omega
 ·by_cases c : 2 * N ≤ i <;> by_cases d : 2 * N ≤ j
  ·obtain ⟨g, g1, g2⟩ := hlt i c hi
   obtain ⟨g', g3, g4⟩ := hlt j d hj
   rw [g2, g4] at e
   subst e
   have := (List.getElem?_inj (List.getElem?_eq_some_iff.1 g1).1 hd).1 (g1.trans g3.symm)
   omega
  ·obtain ⟨g, g1, g2⟩ := hlt i c hi
   rw [g2, hβ1 j (by omega)] at e
   have := h.2.lt (List.mem_of_getElem? g1)
   omega
  ·obtain ⟨g, g1, g2⟩ := hlt j d hj
   rw [g2, hβ1 i (by omega)] at e
   have := h.2.lt (List.mem_of_getElem? g1)
   omega
  ·rw [hβ1 i (by omega), hβ1 j (by omega)] at e
   omega

abbrev adCx (P : Program) (w : World) (N : Nat) (K : KC) (SU : TypeId → Bool) (ti : TypeId → Option TI) (keep : ∀ b, b < w.heap.size → K.S b) (ad : List Nat) (hd : ad.Nodup) (ha : AdOk K ad w) : Cx where
 P := P
 w0 := w
 N := N
 K := K
 SU := SU
 ti := ti
 keep := keep
 New := NewA N ad w
 Old := OldA K ad w
 top := 2 * N + ad.length
 topN := Nat.le_add_right _ _
 newOf := fun _ _ h1 h2 => newA_of h1 h2
 newMv := fun _ _ _ h1 h2 => newA_mv h1 h2
 oldSize := fun _ h => h.1.size
 oldRefl := ⟨But.of (Beh.refl _), ha⟩
 oldStep := fun _ _ h k _ s => oldA_step ha h k s
 oldCell := fun _ _ _ h hn hc => oldA_cell h hn hc
 lay := fun _ H h hH hf => layA_there hd h H hH hf

section
variable {C : Cx} {F : Fr} {H : Hp} {w : World} {m : Option (List FuncId)} {full : Array Oper} {K : Fr → Hp → World → Prop} {o : Oper} {r : List Oper}
end

def Hp.one (i : Nat) (t : TypeId) (cs : List Value) : Hp := fun n => bif Nat.beq n i then some (t, cs.map .val) else none
theorem Hp.one_at (i n : Nat) (t : TypeId) (cs : List Value) : Hp.one i t cs n = if n = i then some (t, cs.map .val) else none := by
 unfold Hp.one
 by_cases h : n = i
 ·subst h; simp
 ·have : Nat.beq n i = false := by rw [← Bool.not_eq_true, Nat.beq_eq]; exact h
  simp [this, h]
theorem ad1 {K : KC} {w : World} {g : Nat} {t : TypeId} {cs : List Value} (hc : Cls w g t cs.toArray) (ht : K.fz t = false) (hk : cs.all okCell = true) : AdOk K [g] w := fun q hq => by
 cases List.mem_singleton.1 hq
 exact ⟨t, cs, hc, ht, hk⟩
theorem one_nodup (g : Nat) : [g].Nodup := by simp
theorem own1 {P : Program} {w w' : World} {N : Nat} {K : KC} {SU : TypeId → Bool} {ti : TypeId → Option TI} {keep : ∀ b, b < w.heap.size → K.S b} {g : Nat} {ha : AdOk K [g] w} {β : Nat → Nat} {i : Nat} {t : TypeId} {cs : List AV} (h : OwnV (adCx P w N K SU ti keep [g] (one_nodup g) ha) β w' i t cs) (hi : i = 2 * N) : Cls w' g t (cs.map (AV.leaf β)).toArray := by
 have h1 : NewA N [g] w i (β i) := h.new
 unfold NewA at h1
 rw [if_pos (by omega), hi, Nat.sub_self] at h1
 have h2 : g = β (2 * N) := by simpa using h1
 have h3 := h.cls
 rw [hi, ← h2] at h3
 exact h3

theorem VS.fin {C : Cx} {F : Fr} {H : Hp} {w : World} (hC : C.Ok) {fn : Func} {R : Ending → World → Prop} {vs : List AV} (h : resOf C F H fn.results.toList = some vs) (hR : ∀ w' β, KpS C.K w w' → C.Old w' → Ends C β H w' → R (.returned (tup (vs.map (AV.conc β)))) w') : VS C (bodyPost C.P fn R) [] F H w :=
 fun β a w' hr hk => fin_retA hC h hR β a w' hr hk
end Go.Proofs.YtofdiijioejljaaGreat
