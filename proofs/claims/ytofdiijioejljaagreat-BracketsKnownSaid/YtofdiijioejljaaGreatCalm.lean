/- A calculus of calm walks: functions whose memory is some variables and rows of their own, beside calls that leave all old memory alone. A frame and the own variables are kept as finite functions; an operation is carried out by evaluation; a region that draws its order may be walked in the order of its text, if a check of its edges holds. No function of the program in sight. -/
import Derived.Test.YtofdiijioejljaaGreatBigW
import Derived.Orders
import Derived.Deep.MidRow
set_option linter.all false
namespace Go.Proofs.YtofdiijioejljaaGreat
open Go.RowKit

inductive AV where
 | val (v : Value)
 | box (i off : Nat)
 | elt (i off : Nat)
 | row (i o n c : Nat)
 | fn (g : FuncId) (first : List Value) (cap : List (Nat × Nat))
 | agg (l : List AV)
 | tup (l : List AV)

def AV.leaf (β : Nat → Nat) : AV → Value
 | .val v => v
 | .box i off => .pointer (some ⟨β i, off, none⟩)
 | .elt i off => .pointer (some ⟨β i, off, none⟩)
 | .row i o n c => .slice (some ⟨β i, o, none⟩) n c
 | .fn g first cap => .func (.func g) first.toArray (cap.map fun p => Value.pointer (some ⟨β p.1, p.2, none⟩)).toArray
 | .agg _ => undef
 | .tup _ => undef
def AV.conc1 (β : Nat → Nat) : AV → Value
 | .val v => v
 | .box i off => .pointer (some ⟨β i, off, none⟩)
 | .elt i off => .pointer (some ⟨β i, off, none⟩)
 | .row i o n c => .slice (some ⟨β i, o, none⟩) n c
 | .fn g first cap => .func (.func g) first.toArray (cap.map fun p => Value.pointer (some ⟨β p.1, p.2, none⟩)).toArray
 | .agg l => .agg (l.map (AV.leaf β)).toArray
 | .tup _ => undef
def AV.conc (β : Nat → Nat) : AV → Value
 | .val v => v
 | .box i off => .pointer (some ⟨β i, off, none⟩)
 | .elt i off => .pointer (some ⟨β i, off, none⟩)
 | .row i o n c => .slice (some ⟨β i, o, none⟩) n c
 | .fn g first cap => .func (.func g) first.toArray (cap.map fun p => Value.pointer (some ⟨β p.1, p.2, none⟩)).toArray
 | .agg l => .agg (l.map (AV.leaf β)).toArray
 | .tup l => .tuple (l.map (AV.conc1 β)).toArray
def AV.lids : AV → List Nat
 | .box i _ => [i]
 | .elt i _ => [i]
 | .row i _ _ _ => [i]
 | .fn _ _ cap => cap.map (·.1)
 | _ => []
def lidsOf : List AV → List Nat
 | [] => []
 | v :: r => v.lids ++ lidsOf r
def AV.ids1 : AV → List Nat
 | .box i _ => [i]
 | .elt i _ => [i]
 | .row i _ _ _ => [i]
 | .fn _ _ cap => cap.map (·.1)
 | .agg l => lidsOf l
 | _ => []
def ids1Of : List AV → List Nat
 | [] => []
 | v :: r => v.ids1 ++ ids1Of r
def AV.ids : AV → List Nat
 | .box i _ => [i]
 | .elt i _ => [i]
 | .row i _ _ _ => [i]
 | .fn _ _ cap => cap.map (·.1)
 | .agg l => lidsOf l
 | .tup l => ids1Of l
 | .val _ => []
def idsOf : List AV → List Nat
 | [] => []
 | v :: r => v.ids ++ idsOf r
theorem mem_lidsOf {l : List AV} {i : Nat} : i ∈ lidsOf l ↔ ∃ v ∈ l, i ∈ v.lids := by
 induction l with
 | nil => exact ⟨fun h => (by cases h), fun ⟨_, h, _⟩ => (by cases h)⟩
 | cons x r ih => rw [lidsOf, List.mem_append, ih]; simp
theorem mem_ids1Of {l : List AV} {i : Nat} : i ∈ ids1Of l ↔ ∃ v ∈ l, i ∈ v.ids1 := by
 induction l with
 | nil => exact ⟨fun h => (by cases h), fun ⟨_, h, _⟩ => (by cases h)⟩
 | cons x r ih => rw [ids1Of, List.mem_append, ih]; simp
theorem mem_idsOf_iff {l : List AV} {i : Nat} : i ∈ idsOf l ↔ ∃ v ∈ l, i ∈ v.ids := by
 induction l with
 | nil => exact ⟨fun h => (by cases h), fun ⟨_, h, _⟩ => (by cases h)⟩
 | cons x r ih => rw [idsOf, List.mem_append, ih]; simp
theorem cap_agree {β β' : Nat → Nat} {cap : List (Nat × Nat)} (h : ∀ i ∈ cap.map (·.1), β' i = β i) : (cap.map fun p => Value.pointer (some ⟨β' p.1, p.2, none⟩)) = cap.map fun p => Value.pointer (some ⟨β p.1, p.2, none⟩) :=
 List.map_congr_left fun p hp => by rw [h p.1 (List.mem_map.2 ⟨p, hp, rfl⟩)]
theorem AV.leaf_agree {β β' : Nat → Nat} : ∀ {v : AV}, (∀ i ∈ v.lids, β' i = β i) → v.leaf β' = v.leaf β
 | .val _, _ => rfl
 | .box i off, h => by simp only [AV.leaf, h i (by simp [AV.lids])]
 | .elt i off, h => by simp only [AV.leaf, h i (by simp [AV.lids])]
 | .row i o n c, h => by simp only [AV.leaf, h i (by simp [AV.lids])]
 | .fn g first cap, h => by simp only [AV.leaf, cap_agree h]
 | .agg _, _ => rfl
 | .tup _, _ => rfl
theorem leafs_agree {β β' : Nat → Nat} {l : List AV} (h : ∀ i ∈ lidsOf l, β' i = β i) : l.map (AV.leaf β') = l.map (AV.leaf β) :=
 List.map_congr_left fun v hv => AV.leaf_agree fun i hi => h i (mem_lidsOf.2 ⟨v, hv, hi⟩)
theorem AV.conc1_agree {β β' : Nat → Nat} : ∀ {v : AV}, (∀ i ∈ v.ids1, β' i = β i) → v.conc1 β' = v.conc1 β
 | .val _, _ => rfl
 | .box i off, h => by simp only [AV.conc1, h i (by simp [AV.ids1])]
 | .elt i off, h => by simp only [AV.conc1, h i (by simp [AV.ids1])]
 | .row i o n c, h => by simp only [AV.conc1, h i (by simp [AV.ids1])]
 | .fn g first cap, h => by simp only [AV.conc1, cap_agree h]
 | .agg l, h => by simp only [AV.conc1, leafs_agree (l := l) h]
 | .tup _, _ => rfl
theorem AV.conc_agree {β β' : Nat → Nat} : ∀ {v : AV}, (∀ i ∈ v.ids, β' i = β i) → v.conc β' = v.conc β
 | .val _, _ => rfl
 | .box i off, h => by simp only [AV.conc, h i (by simp [AV.ids])]
 | .elt i off, h => by simp only [AV.conc, h i (by simp [AV.ids])]
 | .row i o n c, h => by simp only [AV.conc, h i (by simp [AV.ids])]
 | .fn g first cap, h => by simp only [AV.conc, cap_agree h]
 | .agg l, h => by simp only [AV.conc, leafs_agree (l := l) h]
 | .tup l, h => by
  have : l.map (AV.conc1 β') = l.map (AV.conc1 β) := List.map_congr_left fun v hv => AV.conc1_agree fun i hi => h i (mem_ids1Of.2 ⟨v, hv, hi⟩)
  simp only [AV.conc, this]

def Fr := Nat → Option AV
def Hp := Nat → Option (TypeId × List AV)
def Fr.put (F : Fr) (d : Nat) (v : AV) : Fr := fun n => bif Nat.beq n d then some v else F n
def Fr.puto (F : Fr) : Option Nat → AV → Fr
 | none, _ => F
 | some d, v => F.put d v
def Hp.put (H : Hp) (d : Nat) (c : TypeId × List AV) : Hp := fun n => bif Nat.beq n d then some c else H n
def Hp.upd (H : Hp) : Option (Nat × (TypeId × List AV)) → Hp
 | none => H
 | some x => H.put x.1 x.2
def Hp.updAll (H : Hp) : List (Nat × (TypeId × List AV)) → Hp
 | [] => H
 | x :: r => (H.put x.1 x.2).updAll r
def AV.fgl (i : Nat) (ρ : AV → Value) (x : AV) : AV := bif x.lids.any (Nat.beq i) then .val (ρ x) else x
def AV.fg1 (i : Nat) (ρ : AV → Value) : AV → AV
 | .agg l => .agg (l.map (AV.fgl i ρ))
 | x => x.fgl i ρ
def AV.fg (i : Nat) (ρ : AV → Value) : AV → AV
 | .agg l => .agg (l.map (AV.fgl i ρ))
 | .tup l => .tup (l.map (AV.fg1 i ρ))
 | x => x.fgl i ρ
def Fr.forget (F : Fr) : Option Nat → (AV → Value) → Fr
 | none, _ => F
 | some i, ρ => fun n => match F n with
  | some v => some (v.fg i ρ)
  | none => none
def Hp.forget (H : Hp) : Option Nat → (AV → Value) → Hp
 | none, _ => H
 | some i, ρ => fun n => bif Nat.beq n i then none else match H n with
  | some (t, cs) => some (t, cs.map (AV.fgl i ρ))
  | none => none

structure TI where
 size : Nat
 agg : Bool
 zero : Value
 places : Array (Nat × Nat)
 aggs : Array Bool
 bool : Bool
 elem : Option (TypeId × Nat)
 kind : Option IntKind
 ptr : Bool := false

structure TI.Ok (P : Program) (t : TypeId) (i : TI) : Prop where
 row : ∃ d, P.underlying t = some d ∧ d.isRow = i.agg
 size : (P.info? t).map (·.size) = some i.size
 isBool : i.bool = true → P.underlying t = some .bool
 isSlice : ∀ e n, i.elem = some (e, n) → P.underlying t = some (.slice e) ∧ ∀ w, (sizeOf e).run P w = .ok n w
 isInt : ∀ k, i.kind = some k → P.underlying t = some (.int k)
 isPtr : i.ptr = true → P.underlying t = some (.pointer (P.pointee t)) := by exact fun h => by cases h
 lone : i.agg = false → i.size = 1
 zsize : i.zero.cells.size = i.size
 izero : (P.info? t).map (·.zero) = some (some i.zero)
 bytes : (P.info? t).map (fun q => Nat.ble q.bytes (24 * i.size)) = some true
 pos : 0 < i.size
 zero : ∀ w, (zeroValue t).run P w = .ok i.zero w
 fldA : ∀ k p, i.places[k]? = some p → ∀ b o w, (Instr.fieldAt t (.pointer (some ⟨b, o, none⟩)) k).run P w = .ok (.pointer (some ⟨b, o + p.1, none⟩)) w
 fld : ∀ k p, i.places[k]? = some p → ∀ cs w v, (match i.aggs[k]? with | some true => some (Value.agg (cs.extract p.1 (p.1 + p.2))) | some false => cs[p.1]? | none => none) = some v → (Instr.field t (.agg cs) k).run P w = .ok v w
 bld : i.agg = true → ∀ ps w cs, Instr.fill (i.places[·]?) i.zero.cells ps.toList = some cs → (Instr.build t ps).run P w = .ok (.agg cs) w

structure KC where
 U : TypeId
 S : Nat → Prop
 T : TypeId → Bool
def KC.fz (K : KC) (t : TypeId) : Bool := Nat.beq t K.U || K.T t
abbrev KU (U : TypeId) : KC := ⟨U, fun _ => True, fun _ => false⟩
def okCell : Value → Bool
 | .agg _ => false
 | .tuple _ => false
 | .int .u32 _ => false
 | _ => true
def okLeaf : AV → Bool
 | .val v => okCell v
 | .agg _ => false
 | .tup _ => false
 | _ => true

theorem okCell_one {v : Value} (h : okCell v = true) : v.oneCell' = true := by
 unfold okCell at h
 split at h <;> first | cases h | skip
 unfold Value.oneCell'
 split <;> simp_all
theorem okLeaf_cell {β : Nat → Nat} : ∀ {x : AV}, okLeaf x = true → okCell (x.leaf β) = true
 | .val _, h => h
 | .box _ _, _ => rfl
 | .elt _ _, _ => rfl
 | .row _ _ _ _, _ => rfl
 | .fn _ _ _, _ => rfl
 | .agg _, h => by cases h
 | .tup _, h => by cases h
theorem okLeafs {β : Nat → Nat} {l : List AV} (h : l.all okLeaf = true) : (l.map (AV.leaf β)).all okCell = true :=
 List.all_eq_true.2 fun x hx => by
  obtain ⟨y, hy, rfl⟩ := List.mem_map.1 hx
  exact okLeaf_cell (List.all_eq_true.1 h y hy)

structure KpS (K : KC) (w w' : World) : Prop where
 size : w.heap.size ≤ w'.heap.size
 cell : ∀ a x, K.S a.block → w.cell? a = some (.int .u32 x) → w'.cell? a = some (.int .u32 x)
 block : ∀ (t : TypeId) (g : Nat) (cur : Array Value), K.fz t = true → K.S g → w.heap[g]? = some (Obj.cells cur t (0, 0)) → w'.heap[g]? = some (Obj.cells cur t (0, 0))
 map : ∀ (g : Nat) es c, w.heap[g]? = some (Obj.map es c) → w'.heap[g]? = some (Obj.map es c)
abbrev Kp (U : TypeId) (w w' : World) : Prop := KpS (KU U) w w'

theorem KpS.refl (K : KC) (w : World) : KpS K w w := ⟨Nat.le_refl _, fun _ _ _ h => h, fun _ _ _ _ _ h => h, fun _ _ _ h => h⟩
theorem KpS.thn {K : KC} {a b c : World} (h : KpS K a b) (k : KpS K b c) : KpS K a c :=
 ⟨Nat.le_trans h.size k.size, fun _ _ s h1 => k.cell _ _ s (h.cell _ _ s h1), fun _ _ _ f s h1 => k.block _ _ _ f s (h.block _ _ _ f s h1), fun _ _ _ h1 => k.map _ _ _ (h.map _ _ _ h1)⟩
theorem KpS.of {K : KC} {w w' : World} (h : Beh w w') : KpS K w w' :=
 ⟨h.size, fun _ _ _ hc => h.cell hc, fun _ g _ _ _ hg => (Below.block h g (Array.getElem?_eq_some_iff.1 hg).1).trans hg, fun g _ _ hg => (Below.block h g (Array.getElem?_eq_some_iff.1 hg).1).trans hg⟩
theorem Kp.refl (U : TypeId) (w : World) : Kp U w w := KpS.refl _ _
theorem Kp.thn {U : TypeId} {a b c : World} (h : Kp U a b) (k : Kp U b c) : Kp U a c := KpS.thn h k
theorem Kp.of {U : TypeId} {w w' : World} (h : Beh w w') : Kp U w w' := KpS.of h
theorem KpS.all {K : KC} {w w' : World} (h : KpS K w w') (hs : ∀ b, b < w.heap.size → K.S b) : KpS ⟨K.U, fun _ => True, K.T⟩ w w' :=
 ⟨h.size, fun a x _ hc => h.cell a x (hs _ (World.block_lt_of_cell? w a hc)) hc, fun t g cur f _ hg => h.block t g cur f (hs g (Array.getElem?_eq_some_iff.1 hg).1) hg, h.map⟩
theorem KpS.weak {K : KC} {w w' : World} (h : KpS K w w') : KpS ⟨K.U, K.S, fun _ => false⟩ w w' :=
 ⟨h.size, h.cell, fun t g cur f s hg => h.block t g cur (by
  unfold KC.fz at f ⊢
  rw [Bool.or_eq_true] at f ⊢
  exact f.imp id (fun e => by cases e)) s hg, h.map⟩

def blk (H : Hp) (β : Nat → Nat) (i : Nat) : Obj := match H i with
 | some (t, cs) => .cells (cs.map (AV.leaf β)).toArray t
 | none => .cells #[] 0
def mkW (H : Hp) (β : Nat → Nat) : Nat → World → World
 | 0, w => w
 | n + 1, w => (mkW H β n w).alloc (blk H β n)
theorem mkW_size (H : Hp) (β : Nat → Nat) (w : World) : ∀ n, (mkW H β n w).heap.size = w.heap.size + n
 | 0 => rfl
 | n + 1 => by show ((mkW H β n w).alloc _).heap.size = _; simp [mkW_size H β w n]; omega
theorem mkW_beh (H : Hp) (β : Nat → Nat) (w : World) : ∀ n, Beh w (mkW H β n w)
 | 0 => Beh.refl w
 | n + 1 => (mkW_beh H β w n).alloc _
theorem mkW_at (H : Hp) (β : Nat → Nat) (w : World) {i : Nat} {t : TypeId} {cs : List AV} (h : H i = some (t, cs)) : ∀ n, i < n → Cls (mkW H β n w) (w.heap.size + i) t (cs.map (AV.leaf β)).toArray
 | 0, hi => by omega
 | n + 1, hi => by
  by_cases e : i = n
  ·subst e
   show Cls ((mkW H β i w).alloc (blk H β i)) _ _ _
   have hb : blk H β i = .cells (cs.map (AV.leaf β)).toArray t := by unfold blk; rw [h]
   rw [hb, ← mkW_size H β w i]
   exact Cls.new _ _ _
  ·exact (mkW_at H β w h n (by omega)).alloc _

structure Stp (K : KC) (New : Nat → Nat → Prop) (w w' : World) : Prop where
 os : w'.os = w.os
 tape : w'.tape = w.tape
 output : w'.output = w.output
 size : w.heap.size ≤ w'.heap.size
 blk : ∀ g, g < w.heap.size → w'.heap[g]? = w.heap[g]? ∨ ((∃ i, New i g) ∧ ∃ t cs, Cls w' g t (List.toArray cs) ∧ K.fz t = false ∧ cs.all okCell = true) ∨ ¬ K.S g
theorem Stp.beh {K : KC} {New : Nat → Nat → Prop} {w w' : World} (h : Beh w w') : Stp K New w w' := ⟨h.os, h.tape, h.output, h.size, fun g hg => .inl (Below.block h g hg)⟩
theorem plain_step {K : KC} {w0 w w' : World} (h : Beh w0 w) (keep : ∀ b, b < w0.heap.size → K.S b) (s : Stp K (fun _ g => w0.heap.size ≤ g) w w') : Beh w0 w' :=
 Below.trans h ⟨s.os, s.tape, s.output, s.size, fun g hg => by
  rcases s.blk g (Nat.lt_of_lt_of_le hg h.size) with e | ⟨⟨_, hi⟩, _⟩ | e
  ·exact e
  ·exact absurd hi (Nat.not_le.2 hg)
  ·exact absurd (keep g hg) e⟩
theorem plain_lay {K : KC} {w0 w1 : World} {top : Nat} (h : Beh w0 w1) (H : Hp) (hf : ∀ i, top ≤ i → H i = none) :
  ∃ β w2, KpS K w1 w2 ∧ Beh w0 w2 ∧ (∀ i t cs, H i = some (t, cs) → w0.heap.size ≤ β i ∧ Cls w2 (β i) t (cs.map (AV.leaf β)).toArray) ∧ ∀ i j, H i ≠ none → H j ≠ none → β i = β j → i = j := by
 let β : Nat → Nat := fun i => w1.heap.size + i
 refine ⟨β, mkW H β top w1, KpS.of (mkW_beh H β w1 _), h.thn (mkW_beh H β w1 _), fun i t cs hi => ⟨?_, mkW_at H β w1 hi _ ?_⟩, fun i j _ _ e => ?_⟩
 ·have := h.size; show w0.heap.size ≤ w1.heap.size + i; omega
 ·apply Classical.byContradiction
  intro e
  rw [hf i (by omega)] at hi
  cases hi
 ·change w1.heap.size + i = w1.heap.size + j at e; omega

structure Cx where
 P : Program
 w0 : World
 N : Nat
 K : KC
 SU : TypeId → Bool
 ti : TypeId → Option TI
 keep : ∀ b, b < w0.heap.size → K.S b
 New : Nat → Nat → Prop := fun _ g => w0.heap.size ≤ g
 Old : World → Prop := fun w => Beh w0 w
 top : Nat := 2 * N
 topN : 2 * N ≤ top := by exact Nat.le_refl _
 newOf : ∀ i g, i < 2 * N → w0.heap.size ≤ g → New i g := by exact fun _ _ _ h => h
 newMv : ∀ i j g, New i g → j < 2 * N → New j g := by exact fun _ _ _ h _ => h
 oldSize : ∀ w, Old w → w0.heap.size ≤ w.heap.size := by exact fun _ h => Beh.size h
 oldRefl : Old w0 := by exact Beh.refl _
 oldStep : ∀ w w', Old w → (∀ b, b < w0.heap.size → K.S b) → KpS K w w' → Stp K New w w' → Old w' := by exact fun _ _ h k _ s => plain_step h k s
 oldCell : ∀ w a u, Old w → (∀ i, ¬ New i a.block) → w0.cell? a = some u → w.cell? a = some u := by exact fun _ _ _ h _ hc => Beh.cell h hc
 lay : ∀ w1 (H : Hp), Old w1 → (∀ i t cs, H i = some (t, cs) → K.fz t = false ∧ cs.all okLeaf = true) → (∀ i, top ≤ i → H i = none) →
  ∃ β w2, KpS K w1 w2 ∧ Old w2 ∧ (∀ i t cs, H i = some (t, cs) → New i (β i) ∧ Cls w2 (β i) t (cs.map (AV.leaf β)).toArray) ∧ ∀ i j, H i ≠ none → H j ≠ none → β i = β j → i = j := by exact fun _ H h _ hf => plain_lay h H hf
abbrev Cx.U (C : Cx) : TypeId := C.K.U
theorem Cx.thn (C : Cx) {w w' : World} (h : C.Old w) (k : Beh w w') : C.Old w' := C.oldStep _ _ h C.keep (KpS.of k) (Stp.beh k)
def Cx.At (C : Cx) (a : Addr) (u : Value) : Prop := ∀ w, C.Old w → w.cell? a = some u

def Cx.Ok (C : Cx) : Prop := ∀ t i, C.ti t = some i → TI.Ok C.P t i

def ev (F : Fr) : Operand → Option AV
 | .tmp t => F t
 | .const v => some (.val v)
 | .func f => some (.val (.func (.func f) #[] #[]))
 | .global _ => none
def evv (F : Fr) (x : Operand) : Option Value := match ev F x with | some (.val v) => some v | _ => none
def evs (F : Fr) : List Operand → Option (List Value)
 | [] => some []
 | x :: r => match evv F x, evs F r with | some v, some l => some (v :: l) | _, _ => none
def eva (F : Fr) : List Operand → Option (List AV)
 | [] => some []
 | x :: r => match ev F x, eva F r with | some v, some l => some (v :: l) | _, _ => none
def boxesOf : List AV → Option (List (Nat × Nat))
 | [] => some []
 | .box i off :: r => (match boxesOf r with | some l => some ((i, off) :: l) | none => none)
 | _ :: _ => none
def evf (F : Fr) (x : Operand) : Option (FuncId × List AV × List AV) := match ev F x with
 | some (.val (.func (.func g) first cap)) => some (g, first.toList.map .val, cap.toList.map .val)
 | some (.fn g first cap) => some (g, first.map .val, cap.map fun p => .box p.1 p.2)
 | _ => none
def evp (F : Fr) : List (Nat × Operand) → Option (List (Nat × AV))
 | [] => some []
 | (k, x) :: r => match ev F x, evp F r with | some v, some l => some ((k, v) :: l) | _, _ => none
def evo (F : Fr) : Option Operand → Option (Option Int)
 | none => some none
 | some x => match evv F x with | some (.int _ k) => some (some k) | _ => none

def binI (op : BinOp) (k : IntKind) (a b : Int) : Option Value :=
 match op with
 | .eql => some (.bool (a == b))
 | .neq => some (.bool (a != b))
 | .lss => some (.bool (decide (a < b)))
 | .leq => some (.bool (decide (a ≤ b)))
 | .gtr => some (.bool (decide (a > b)))
 | .geq => some (.bool (decide (a ≥ b)))
 | .add => some (.int k (k.wrap (a + b)))
 | .sub => some (.int k (k.wrap (a - b)))
 | .mul => some (.int k (k.wrap (a * b)))
 | .quo => bif decide (b = 0) then none else some (.int k (k.wrap (a.tdiv b)))
 | .rem => bif decide (b = 0) then none else some (.int k (a.tmod b))
 | .and => some (.int k (bits .and k a b))
 | .or => some (.int k (bits .or k a b))
 | .xor => some (.int k (bits .xor k a b))
 | .andNot => some (.int k (bits .andNot k a b))
 | _ => none
def shI (op : BinOp) (k : IntKind) (a b : Int) : Option Value :=
 match op with
 | .shl => some (.int k (k.wrap (a * 2 ^ min b.toNat k.bits)))
 | .shr => some (.int k (a.fdiv (2 ^ min b.toNat k.bits)))
 | _ => none
def isSh : BinOp → Bool
 | .shl => true
 | .shr => true
 | _ => false
def binS (op : BinOp) (a b : ByteArray) : Option Value :=
 match op with
 | .eql => some (.bool (a.toList == b.toList))
 | .neq => some (.bool !(a.toList == b.toList))
 | _ => none
def binB (op : BinOp) (a b : Bool) : Option Value :=
 match op with
 | .eql => some (.bool (a == b))
 | .neq => some (.bool (!(a == b)))
 | _ => none
def binN (op : BinOp) (a : Bool) : Option Value :=
 match op with
 | .eql => some (.bool a)
 | .neq => some (.bool (!a))
 | _ => none
def sameKind : IntKind → IntKind → Bool := fun k l => decide (k = l)
def binA (op : BinOp) : Value → Value → Option Value
 | .int k a, .int l b => bif isSh op then (bif decide (b < 0) then none else shI op k a b) else bif sameKind k l then binI op k a b else none
 | .string a, .string b => binS op a b
 | _, _ => none

inductive Doer where
 | fn (g : FuncId) (args : List AV)
 | op (o : Oper) (vs : List AV)
def Doer.ids : Doer → List Nat
 | .fn _ l => idsOf l
 | .op _ l => idsOf l
inductive Step where
 | det (v : AV) (u : Option (Nat × (TypeId × List AV)))
 | read (i : TI) (a : Addr)
 | peek (i : TI) (cs : List AV) (off : Nat)
 | cond (φ : Prop) (v : AV) (u : Option (Nat × (TypeId × List AV)))
 | call (d : Doer)
 | bad

def det1 : Option AV → Step
 | some v => .det v none
 | none => .bad
def det2 : Option Value → Step
 | some v => .det (.val v) none
 | none => .bad

def mkRead (i : TI) (cs : List Value) : Value := bif i.agg then .agg cs.toArray else cs.headD undef
def valsOf : List AV → Option (List Value)
 | [] => some []
 | .val v :: r => (match valsOf r with | some l => some (v :: l) | none => none)
 | _ :: _ => none
def valsK {α : Type} : List AV → (List Value → α) → α → α
 | [], k, _ => k []
 | .val v :: r, k, e => valsK r (fun l => k (v :: l)) e
 | _ :: _, _, e => e
theorem valsK_eq {α : Type} : ∀ (l : List AV) (k : List Value → α) (e : α), valsK l k e = match valsOf l with | some vs => k vs | none => e
 | [], _, _ => rfl
 | .val v :: r, k, e => by
  show valsK r (fun l => k (v :: l)) e = match (match valsOf r with | some l => some (v :: l) | none => none) with | some vs => k vs | none => e
  rw [valsK_eq r]
  cases valsOf r <;> rfl
 | .box _ _ :: _, _, _ => rfl
 | .elt _ _ :: _, _, _ => rfl
 | .row _ _ _ _ :: _, _, _ => rfl
 | .fn _ _ _ :: _, _, _ => rfl
 | .agg _ :: _, _, _ => rfl
 | .tup _ :: _, _, _ => rfl
def mkAgg (l : List AV) : AV := match valsOf l with | some vs => .val (.agg vs.toArray) | none => .agg l
def aggK {α : Type} (l : List AV) (k : AV → α) : α := valsK l (fun vs => k (.val (.agg vs.toArray))) (k (.agg l))
theorem aggK_eq {α : Type} (l : List AV) (k : AV → α) : aggK l k = k (mkAgg l) := by
 unfold aggK mkAgg
 rw [valsK_eq]
 cases valsOf l <;> rfl
def readA (i : TI) (cs : List AV) : AV := bif i.agg then mkAgg cs else cs.headD (.val undef)
def forceL {α : Type} {γ : Type} : List γ → (List γ → α) → α
 | [], k => k []
 | x :: r, k => forceL r fun l => k (x :: l)
theorem forceL_eq {α γ : Type} : ∀ (l : List γ) (k : List γ → α), forceL l k = k l
 | [], _ => rfl
 | x :: r, k => forceL_eq r fun l => k (x :: l)
def nthL {γ : Type} : List γ → Nat → Option γ
 | [], _ => none
 | x :: _, 0 => some x
 | _ :: r, k + 1 => nthL r k
theorem nthL_eq {γ : Type} : ∀ (l : List γ) (k : Nat), nthL l k = l[k]?
 | [], _ => rfl
 | _ :: _, 0 => rfl
 | _ :: r, k + 1 => by rw [nthL, nthL_eq r k]; rfl
def notTup : AV → Bool
 | .tup _ => false
 | _ => true
def notAgg : AV → Bool
 | .agg _ => false
 | .tup _ => false
 | _ => true
def cellsOf : AV → List AV
 | .val v => v.cells.toList.map .val
 | .agg l => l
 | x => [x]
def loadA (i : TI) (cs : List AV) (off : Nat) : Step :=
 bif Nat.ble (off + i.size) cs.length then forceL ((cs.drop off).take i.size) (fun l => bif i.agg then aggK l (fun v => .det v none) else (match l with | x :: _ => .det x none | [] => .bad)) else .bad
def storeA (i : TI) (b : Nat) (t : TypeId) (cs : List AV) (off : Nat) (v : AV) : Step :=
 bif Nat.ble (off + i.size) cs.length && Nat.beq (cellsOf v).length i.size && (cellsOf v).all okLeaf
 then forceL (cs.take off ++ (cellsOf v ++ cs.drop (off + i.size))) (fun l => .det (.val undef) (some (b, (t, l)))) else .bad
def pokeA (i : TI) (b : Nat) (t : TypeId) (cs : List AV) (off : Nat) (v : AV) : Step :=
 bif Nat.beq (cellsOf v).length i.size && (cellsOf v).all okLeaf
 then .cond (off + i.size ≤ cs.length) (.val undef) (some (b, (t, cs.take off ++ (cellsOf v ++ cs.drop (off + i.size))))) else .bad
def makeA (K : KC) (d : Nat) (t : TypeId) (cs : List AV) : Option (TypeId × List AV) → Step
 | none => bif !K.fz t && cs.all okLeaf then forceL cs (fun l => .det (.box d 0) (some (d, (t, l)))) else .bad
 | some _ => .bad
def rowL (sz : Nat) : Nat → List (Nat × AV) → Option (List AV)
 | _, [] => some []
 | k, (j, v) :: r => bif Nat.beq j k && Nat.beq (cellsOf v).length sz && notTup v then (match rowL sz (k + 1) r with | some l => some (cellsOf v ++ l) | none => none) else none
def makeR (K : KC) (d : Nat) (e : TypeId) (n : Nat) (cs : List AV) : Option (TypeId × List AV) → Step
 | none => bif !K.fz e && cs.all okLeaf then forceL cs (fun l => .det (.row d 0 n n) (some (d, (e, l)))) else .bad
 | some _ => .bad
def fillL (places : Array (Nat × Nat)) (cells : List AV) : List (Nat × AV) → Option (List AV)
 | [] => some cells
 | (i, v) :: rest => match places[i]? with
  | none => none
  | some p => bif Nat.beq (cellsOf v).length p.2 && Nat.ble (p.1 + p.2) cells.length && notTup v then fillL places (cells.take p.1 ++ (cellsOf v ++ cells.drop (p.1 + p.2))) rest else none
def zerosL : Nat → List AV → List AV
 | 0, _ => []
 | n + 1, z => z ++ zerosL n z
def rawA (F : Fr) (o : Oper) : Step := match eva F o.op.operands.toList with | some vs => .call (.op o vs) | none => .bad
def intsOf : List Value → Option (IntKind × List Int)
 | [] => none
 | [.int k a] => some (k, [a])
 | .int k a :: r => (match intsOf r with | some (l, xs) => bif sameKind k l then some (k, a :: xs) else none | none => none)
 | _ => none
def maxI : Int → List Int → Int
 | x, [] => x
 | x, y :: r => maxI (if y > x then y else x) r
def minI : Int → List Int → Int
 | x, [] => x
 | x, y :: r => minI (if y < x then y else x) r
def fieldA (i : TI) (cs : List AV) (k : Nat) : Step := match i.places[k]?, i.aggs[k]? with
 | some p, some true => forceL ((cs.drop p.1).take p.2) (fun l => aggK l (fun v => .det v none))
 | some p, some false => (match nthL cs p.1 with | some x => bif notAgg x then .det x none else .bad | none => .bad)
 | _, _ => .bad

def act (C : Cx) (F : Fr) (H : Hp) (o : Oper) : Step :=
 match o.op with
 | .move x => det1 (ev F x)
 | .assign x => det1 (ev F x)
 | .pick c x y => match evv F c with | some (.bool t) => det1 (bif t then ev F x else ev F y) | _ => .bad
 | .unOp .not _ x => match evv F x with | some (.bool t) => .det (.val (.bool !t)) none | _ => .bad
 | .unOp .neg _ x => match evv F x with | some (.int k n) => .det (.val (.int k (k.wrap (0 - n)))) none | _ => .bad
 | .binOp op t x y _ => match evv F x, evv F y with
  | some (.bool a), some (.bool b) => (match C.ti t with | some i => det2 (bif i.bool then binB op a b else none) | none => .bad)
  | some (.pointer p), some (.pointer none) => (match C.ti t with | some i => det2 (bif i.ptr then binN op p.isNone else none) | none => .bad)
  | some (.slice p _ _), some (.slice none n c) => (match C.ti t with | some i => det2 (bif i.elem.isSome && (Nat.beq n 0 && Nat.beq c 0) then binN op p.isNone else none) | none => .bad)
  | some a, some b => det2 (binA op a b)
  | none, some (.pointer none) => (match ev F x, C.ti t with
   | some (.box _ _), some i => det2 (bif i.ptr then binN op false else none)
   | _, _ => .bad)
  | none, some (.slice none n c) => (match ev F x, C.ti t with
   | some (.row _ _ _ _), some i => det2 (bif i.elem.isSome && (Nat.beq n 0 && Nat.beq c 0) then binN op false else none)
   | _, _ => .bad)
  | _, _ => .bad
 | .convert s t x => match C.ti s, C.ti t, evv F x with
  | some _, some i, some (.int _ n) => (match i.kind with | some k => .det (.val (.int k (k.wrap n))) none | none => .bad)
  | _, _, _ => .bad
 | .extract x k => match ev F x with
  | some (.val (.tuple vs)) => det2 (nthL vs.toList k)
  | some (.tup l) => (match nthL l k with | some x => bif notTup x then .det x none else .bad | none => .bad)
  | _ => .bad
 | .field t x k => match ev F x, C.ti t with
  | some (.val (.agg cs)), some i => fieldA i (cs.toList.map .val) k
  | some (.agg l), some i => fieldA i l k
  | _, _ => .bad
 | .fieldAddr t x k => match ev F x, C.ti t with
  | some (.box b off), some i => match i.places[k]? with | some p => .det (.box b (off + p.1)) none | none => .bad
  | some (.elt b off), some i => match i.places[k]? with | some p => .det (.elt b (off + p.1)) none | none => .bad
  | some (.val (.pointer (some ⟨b, off, none⟩))), some i => match i.places[k]? with | some p => .det (.val (.pointer (some ⟨b, off + p.1, none⟩))) none | none => .bad
  | _, _ => .bad
 | .nilCheck x => match ev F x with
  | some (.box b off) => .det (.box b off) none
  | some (.elt b off) => .det (.elt b off) none
  | some (.val (.pointer (some a))) => .det (.val (.pointer (some a))) none
  | _ => .bad
 | .build t ps => match C.ti t, evp F ps.toList with
  | some i, some l => match (bif i.agg then fillL i.places (i.zero.cells.toList.map .val) l else none) with | some cs => forceL cs (fun l => aggK l (fun v => .det v none)) | none => .bad
  | _, _ => .bad
 | .alloc t => match o.dst, C.ti t with
  | some d, some i => makeA C.K d t (i.zero.cells.toList.map .val) (H d)
  | _, _ => .bad
 | .box t x => match o.dst, ev F x with
  | some d, some v => makeA C.K d t (cellsOf v) (H d)
  | _, _ => .bad
 | .load t x => match ev F x, C.ti t with
  | some (.box b off), some i => match H b with | some (_, cs) => loadA i cs off | none => .bad
  | some (.elt b off), some i => match H b with | some (_, cs) => .peek i cs off | none => .bad
  | some (.val (.pointer (some a))), some i => .read i a
  | _, _ => .bad
 | .store t x y => match ev F x, ev F y, C.ti t with
  | some (.box b off), some v, some i => match H b with | some (tb, cs) => storeA i b tb cs off v | none => .bad
  | some (.elt b off), some v, some i => match H b with | some (tb, cs) => pokeA i b tb cs off v | none => .bad
  | _, _, _ => .bad
 | .makeFunc (.func g) first cap => match evs F first.toList, eva F cap.toList with
  | some l, some [] => .det (.val (.func (.func g) l.toArray #[])) none
  | some l, some m => (match boxesOf m with | some bs => .det (.fn g l bs) none | none => .bad)
  | _, _ => .bad
 | .buildSlice t n ps => bif C.SU t then rawA F o else match o.dst, C.ti t, evp F ps.toList with
  | some d, some i, some l => (match i.elem with
   | some (e, sz) => (match C.ti e, rowL sz 0 l with
    | some _, some cs => bif Nat.beq ps.size n && Nat.ble (n * sz) 16777216 then makeR C.K d e n cs (H d) else .bad
    | _, _ => .bad)
   | none => .bad)
  | _, _, _ => .bad
 | .indexAddr t x ix => match ev F x, evv F ix, C.ti t with
  | some (.val (.slice (some ⟨b, off, none⟩) n _)), some (.int _ k), some i => (match i.elem with
   | some (_, sz) => .cond ((0 : Int) ≤ k ∧ k < (n : Int)) (.val (.pointer (some ⟨b, off + k.toNat * sz, none⟩))) none
   | none => .bad)
  | some (.row b off n _), some (.int _ k), some i => (match i.elem with
   | some (_, sz) => .cond ((0 : Int) ≤ k ∧ k < (n : Int)) (.elt b (off + k.toNat * sz)) none
   | none => .bad)
  | _, _, _ => .bad
 | .makeSlice t l c => match o.dst, C.ti t, evv F l, evv F c with
  | some d, some i, some (.int _ n), some (.int _ m) => (match i.elem with
   | some (e, sz) => (match C.ti e, H d with
    | some ie, none => bif !C.K.fz e && ie.zero.cells.toList.all okCell then
      .cond (n = m ∧ 0 ≤ n ∧ n * (24 * (ie.size : Int)) ≤ 140737488355328) (.row d 0 n.toNat n.toNat) (some (d, (e, zerosL n.toNat (ie.zero.cells.toList.map .val)))) else .bad
    | _, _ => .bad)
   | none => .bad)
  | _, _, _, _ => .bad
 | .slice t x lo hi none => match ev F x, C.ti t, evo F lo, evo F hi with
  | some (.row b off n c), some i, some l, some h => (match i.elem with
   | some (_, sz) => .cond (0 ≤ l.getD 0 ∧ l.getD 0 ≤ h.getD (n : Int) ∧ h.getD (n : Int) ≤ (c : Int) ∧ (c : Int) ≤ 9223372036854775807) (.row b (if c = (l.getD 0).toNat then off else off + (l.getD 0).toNat * sz) ((h.getD (n : Int)).toNat - (l.getD 0).toNat) (c - (l.getD 0).toNat)) none
   | none => .bad)
  | some (.val (.slice p n c)), some i, some l, some h => (match i.elem with
   | some (_, sz) => .cond (0 ≤ l.getD 0 ∧ l.getD 0 ≤ h.getD (n : Int) ∧ h.getD (n : Int) ≤ (c : Int) ∧ (c : Int) ≤ 9223372036854775807) (.val (.slice (if c = (l.getD 0).toNat then p else p.map (·.add ((l.getD 0).toNat * sz))) ((h.getD (n : Int)).toNat - (l.getD 0).toNat) (c - (l.getD 0).toNat))) none
   | none => .bad)
  | _, _, _, _ => .bad
 | .call c => match c.callee with
  | .builtin .len => match c.args.toList, c.argTypes.toList with
   | [x], [t] => (match ev F x, C.ti t with
    | some (.val (.slice _ n _)), some i => (match i.elem with | some _ => .det (.val (.int .i64 (n : Int))) none | none => .bad)
    | some (.row _ _ n _), some i => (match i.elem with | some _ => .det (.val (.int .i64 (n : Int))) none | none => .bad)
    | _, _ => .bad)
   | _, _ => .bad
  | .builtin .max => match (evs F c.args.toList).bind intsOf with
   | some (k, x :: r) => .det (.val (.int k (maxI x r))) none
   | _ => .bad
  | .builtin .min => match (evs F c.args.toList).bind intsOf with
   | some (k, x :: r) => .det (.val (.int k (minI x r))) none
   | _ => .bad
  | .value f => match evf F f, eva F c.args.toList with
   | some (g, first, cap), some l => forceL (first ++ (l ++ cap)) (fun l => .call (.fn g l))
   | _, _ => .bad
  | _ => rawA F o
 | _ => rawA F o

def wants (full : Array Oper) (F : Fr) (o : Oper) : Option Bool :=
 match o.guard with
 | none => some true
 | some (g, b) => match (full[g]?).bind (·.dst) with
  | none => none
  | some d => match F d with
   | some (.val (.bool c)) => some (c == b)
   | some (.val (.tuple _)) => some false
   | _ => none
def dstOk (N : Nat) : Option Nat → Bool
 | none => true
 | some d => Nat.blt d N
def stepOf (C : Cx) (full : Array Oper) (F : Fr) (H : Hp) (o : Oper) : Step :=
 bif dstOk C.N o.dst then (match wants full F o with
  | none => .bad
  | some false => .det (.val undef) none
  | some true => act C F H o) else .bad

def modOp (l : List FuncId) (c : Call) : Bool := match c.callee with | .value (.func g) => l.any (Nat.beq g) | _ => false
def memClass (su : TypeId → Bool) (l : List FuncId) (o : Oper) : Nat := match o.op with
 | .move _ => 0
 | .assign _ => 0
 | .pick _ _ _ => 0
 | .unOp .not _ _ => 0
 | .unOp .neg _ _ => 0
 | .binOp _ _ _ _ _ => 0
 | .convert _ _ _ => 0
 | .extract _ _ => 0
 | .field _ _ _ => 0
 | .fieldAddr _ _ _ => 0
 | .nilCheck _ => 0
 | .build _ _ => 0
 | .makeFunc (.func _) _ _ => 0
 | .indexAddr _ _ _ => 0
 | .slice _ _ _ _ none => 0
 | .load _ _ => 1
 | .alloc _ => 2
 | .box _ _ => 2
 | .makeSlice _ _ _ => 2
 | .buildSlice t _ _ => bif su t then 4 else 2
 | .store _ _ _ => 3
 | .call c => (match c.callee with
  | .builtin .len => 0
  | .builtin .max => 0
  | .builtin .min => 0
  | .builtin .copy => 3
  | .value _ => bif modOp l c then 3 else 4
  | _ => 5)
 | .lookup _ _ _ _ => 4
 | _ => 5
def lvlOf : Nat → Nat
 | 3 => 1
 | 5 => 2
 | _ => 0
def lvl (su : TypeId → Bool) (m : Option (List FuncId)) (o : Oper) : Nat := match m with
 | none => 2
 | some l => lvlOf (memClass su l o)

def FnOk (P : Program) (g : FuncId) : Prop := ∃ fn, P.funcs[g]? = some fn ∧ (fn.name == "runtime.NumGoroutine") = false ∧ fn.body.isNone = false

structure OwnV (C : Cx) (β : Nat → Nat) (w : World) (i : Nat) (t : TypeId) (cs : List AV) : Prop where
 new : C.New i (β i)
 ty : C.K.fz t = false
 cls : Cls w (β i) t (cs.map (AV.leaf β)).toArray
 ok : cs.all okLeaf = true
inductive Reach (H : Hp) (ids : List Nat) : Nat → Prop
 | base {i : Nat} : i ∈ ids → Reach H ids i
 | step {i j : Nat} {t : TypeId} {cs : List AV} : Reach H ids i → H i = some (t, cs) → j ∈ lidsOf cs → Reach H ids j
structure OwnAt (C : Cx) (β : Nat → Nat) (H : Hp) (ids : List Nat) (w : World) : Prop where
 own : ∀ i, Reach H ids i → ∀ t cs, H i = some (t, cs) → OwnV C β w i t cs
 apart : ∀ i j, Reach H ids i → Reach H ids j → H i ≠ none → H j ≠ none → β i = β j → i = j
structure Chg (C : Cx) (β β' : Nat → Nat) (H : Hp) (ids : List Nat) (del : Option Nat) (ups : List (Nat × (TypeId × List AV))) (w w' : World) : Prop where
 os : w'.os = w.os
 tape : w'.tape = w.tape
 output : w'.output = w.output
 size : w.heap.size ≤ w'.heap.size
 block : ∀ b, b < w.heap.size → (∀ x ∈ ups, b ≠ β' x.1) → (∀ i, del = some i → b ≠ β i) → (C.K.S b ∨ ∀ t cur, C.K.fz t = true → w.heap[b]? ≠ some (Obj.cells cur t (0, 0))) → w'.heap[b]? = w.heap[b]?
 agree : ∀ i, i ∉ ups.map (·.1) → β' i = β i
 gone : ∀ i, del = some i → Reach H ids i ∧ H i ≠ none
 left : ∀ i, del = some i → (w'.heap[β i]? = w.heap[β i]? ∨ ∃ t cs, Cls w' (β i) t (List.toArray cs) ∧ C.K.fz t = false ∧ cs.all okCell = true) ∨ ∃ x ∈ ups, β' x.1 = β i
 own : ∀ x ∈ ups, OwnV C β' w' x.1 x.2.1 x.2.2
 orig : ∀ x ∈ ups, (H x.1 ≠ none ∧ del ≠ some x.1 ∧ Reach H ids x.1 ∧ β' x.1 = β x.1) ∨ ((H x.1 = none ∨ del = some x.1) ∧ x.1 < 2 * C.N ∧ (w.heap.size ≤ β' x.1 ∨ ∃ i, del = some i ∧ β' x.1 = β i))
 once : (ups.map (·.1)).Nodup
 apart : ∀ x ∈ ups, ∀ y ∈ ups, β' x.1 = β' y.1 → x.1 = y.1
 closed : ∀ x ∈ ups, ∀ j ∈ lidsOf x.2.2, j ∈ ups.map (·.1) ∨ (H j ≠ none ∧ del ≠ some j)

def Does (P : Program) (d : Doer) (β : Nat → Nat) (w : World) (R : Ending → World → Prop) : Prop := match d with
 | .fn g args => FnOk P g ∧ Calls P g (args.map (AV.conc β)).toArray w R
 | .op o vs => ∃ v w2, (∀ ρ : Operand → Value, o.op.operands.toList.map ρ = vs.map (AV.conc β) → (execOp ρ o).run P w = .ok (.value v) w2 ∨ ((execOp ρ o).run P w = .ok .skip w2 ∧ v = undef)) ∧ R (.returned v) w2
def CallVC (C : Cx) (lv : Nat) (F : Fr) (H : Hp) (d : Doer) (w : World) (k : AV → Fr → Hp → World → Prop) : Prop :=
 ∀ w1 β, KpS C.K w w1 → C.Old w1 → OwnAt C β H d.ids w1 → Does C.P d β w1 fun e w2 => ∃ β' r del ups, e = .returned (r.conc β') ∧ (∀ i ∈ r.ids, i ∈ ups.map (·.1) ∨ (Reach H d.ids i ∧ H i ≠ none ∧ del ≠ some i)) ∧ (1 ≤ lv ∨ ups = []) ∧ (2 ≤ lv ∨ del = none) ∧
  Chg C β β' H d.ids del ups w1 w2 ∧ (KpS C.K w w2 → KpS C.K w1 w2 → C.Old w2 → ∀ ρ, (∀ x, okCell (ρ x) = true) → k r (F.forget del ρ) ((H.forget del ρ).updAll ups) w2)
def ReadVC (C : Cx) (seq : Bool) (i : TI) (a : Addr) (w : World) (k : Value → Prop) : Prop :=
 ∃ cs : List Value, cs.length = i.size ∧ ((∀ j u, cs[j]? = some u → C.At (a.add j) u) ∨ (seq = true ∧ ∀ w1, KpS C.K w w1 → C.Old w1 → ∀ j u, cs[j]? = some u → w1.cell? (a.add j) = some u)) ∧ k (mkRead i cs)

def seqOf : Option (List FuncId) → Bool
 | none => true
 | some _ => false
def one (C : Cx) (m : Option (List FuncId)) (full : Array Oper) (o : Oper) (k : Fr → Hp → World → Prop) (F : Fr) (H : Hp) (w : World) : Prop :=
 match stepOf C full F H o with
 | .det v u => k (F.puto o.dst v) (H.upd u) w
 | .read i a => ReadVC C (seqOf m) i a w fun v => k (F.puto o.dst (.val v)) H w
 | .peek i cs off => ∃ vs : List AV, vs.length = i.size ∧ (∀ j u, vs[j]? = some u → cs[off + j]? = some u) ∧ k (F.puto o.dst (readA i vs)) H w
 | .cond φ v u => φ ∧ k (F.puto o.dst v) (H.upd u) w
 | .call d => CallVC C (lvl C.SU m o) F H d w fun r F' H' w2 => k (F'.puto o.dst r) H' w2
 | .bad => False

def vcOps (C : Cx) (m : Option (List FuncId)) (full : Array Oper) : List Oper → (Fr → Hp → World → Prop) → Fr → Hp → World → Prop
 | [], K, F, H, w => K F H w
 | o :: r, K, F, H, w => one C m full o (vcOps C m full r K) F H w

def Closed (F : Fr) (H : Hp) : Prop := ∀ d v, F d = some v → ∀ i ∈ v.ids, H i ≠ none
structure HpOk (C : Cx) (H : Hp) : Prop where
 ok : ∀ i t cs, H i = some (t, cs) → C.K.fz t = false ∧ cs.all okLeaf = true
 closed : ∀ i t cs, H i = some (t, cs) → ∀ j ∈ lidsOf cs, H j ≠ none
 few : ∀ i, C.top ≤ i → H i = none
structure Rel (C : Cx) (β : Nat → Nat) (F : Fr) (H : Hp) (a : Act) (w : World) : Prop where
 defers : a.defers = []
 size : a.tmps.size = C.N
 tmp : ∀ d v, F d = some v → a.tmps.getD d undef = v.conc β
 own : ∀ i t cs, H i = some (t, cs) → OwnV C β w i t cs
 apart : ∀ i j, H i ≠ none → H j ≠ none → β i = β j → i = j
 closed : Closed F H
 fits : ∀ d v, F d = some v → d < C.N
 hp : HpOk C H
 old : C.Old w

theorem Fr.put_at (F : Fr) (d n : Nat) (v : AV) : (F.put d v) n = if n = d then some v else F n := by
 unfold Fr.put
 by_cases h : n = d
 ·subst h; simp
 ·have : Nat.beq n d = false := by rw [← Bool.not_eq_true, Nat.beq_eq]; exact h
  simp [this, h]
theorem Hp.put_at (H : Hp) (d n : Nat) (c : TypeId × List AV) : (H.put d c) n = if n = d then some c else H n := by
 unfold Hp.put
 by_cases h : n = d
 ·subst h; simp
 ·have : Nat.beq n d = false := by rw [← Bool.not_eq_true, Nat.beq_eq]; exact h
  simp [this, h]
theorem valsOf_some : ∀ {l : List AV} {vs : List Value}, valsOf l = some vs → l = vs.map .val
 | [], vs, h => by cases h; rfl
 | .val v :: r, vs, h => by
  unfold valsOf at h
  split at h
  ·rename_i l hl
   cases h
   rw [valsOf_some hl]; rfl
  ·cases h
 | .box _ _ :: _, _, h => by cases h
 | .elt _ _ :: _, _, h => by cases h
 | .row _ _ _ _ :: _, _, h => by cases h
 | .fn _ _ _ :: _, _, h => by cases h
 | .agg _ :: _, _, h => by cases h
 | .tup _ :: _, _, h => by cases h
theorem leaf_vals (β : Nat → Nat) (vs : List Value) : (vs.map AV.val).map (AV.leaf β) = vs := by rw [List.map_map]; exact List.map_id vs
theorem conc_vals (β : Nat → Nat) (vs : List Value) : (vs.map AV.val).map (AV.conc β) = vs := by rw [List.map_map]; exact List.map_id vs
theorem lidsOf_vals (vs : List Value) : lidsOf (vs.map AV.val) = [] := by
 induction vs with
 | nil => rfl
 | cons v r ih => rw [List.map_cons, lidsOf, ih]; rfl
theorem mkAgg_conc (β : Nat → Nat) (l : List AV) : (mkAgg l).conc β = .agg (l.map (AV.leaf β)).toArray := by
 unfold mkAgg
 cases h : valsOf l with
 | none => rfl
 | some vs =>
  have := valsOf_some h
  subst this
  rw [leaf_vals]; rfl
theorem mkAgg_ids {l : List AV} {i : Nat} (h : i ∈ (mkAgg l).ids) : i ∈ lidsOf l := by
 unfold mkAgg at h
 cases hv : valsOf l with
 | none => rw [hv] at h; exact h
 | some vs => rw [hv] at h; cases h
theorem cellsOf_leaf (β : Nat → Nat) : ∀ (v : AV), (∀ l, v ≠ .tup l) → (cellsOf v).map (AV.leaf β) = (v.conc β).cells.toList
 | .val v, _ => by unfold cellsOf; rw [leaf_vals]; rfl
 | .box _ _, _ => rfl
 | .elt _ _, _ => rfl
 | .row _ _ _ _, _ => rfl
 | .fn _ _ _, _ => rfl
 | .agg l, _ => by simp [cellsOf, AV.conc, Value.cells]
 | .tup l, h => absurd rfl (h l)
theorem notTup_ne {v : AV} (h : notTup v = true) : ∀ l, v ≠ .tup l := fun l e => by subst e; cases h
theorem okTup {v : AV} (h : (cellsOf v).all okLeaf = true) : ∀ l, v ≠ .tup l := fun l e => by subst e; simp [cellsOf, okLeaf] at h
theorem cellsOf_ids {v : AV} (h : ∀ l, v ≠ .tup l) {i : Nat} (hi : i ∈ lidsOf (cellsOf v)) : i ∈ v.ids := by
 cases v with
 | val v => rw [cellsOf, lidsOf_vals] at hi; cases hi
 | tup l => exact absurd rfl (h l)
 | agg l => exact hi
 | box i off => simpa [cellsOf, lidsOf, AV.lids, AV.ids] using hi
 | elt i off => simpa [cellsOf, lidsOf, AV.lids, AV.ids] using hi
 | row i o n c => simpa [cellsOf, lidsOf, AV.lids, AV.ids] using hi
 | fn g f c => simpa [cellsOf, lidsOf, AV.lids, AV.ids] using hi
theorem lidsOf_append (l r : List AV) : lidsOf (l ++ r) = lidsOf l ++ lidsOf r := by
 induction l with
 | nil => rfl
 | cons v l ih => rw [List.cons_append, lidsOf, lidsOf, ih, List.append_assoc]
theorem leaf_conc {β : Nat → Nat} : ∀ {v : AV}, okLeaf v = true → v.leaf β = v.conc β
 | .val _, _ => rfl
 | .box _ _, _ => rfl
 | .elt _ _, _ => rfl
 | .row _ _ _ _, _ => rfl
 | .fn _ _ _, _ => rfl
 | .agg _, h => by cases h
 | .tup _, h => by cases h
theorem notAgg_conc {β : Nat → Nat} : ∀ {v : AV}, notAgg v = true → v.leaf β = v.conc β
 | .val _, _ => rfl
 | .box _ _, _ => rfl
 | .elt _ _, _ => rfl
 | .row _ _ _ _, _ => rfl
 | .fn _ _ _, _ => rfl
 | .agg _, h => by cases h
 | .tup _, h => by cases h
theorem notAgg_ids {v : AV} (h : notAgg v = true) : v.lids = v.ids := by cases v <;> first | rfl | cases h
theorem notTup_conc {β : Nat → Nat} {v : AV} (h : notTup v = true) : v.conc1 β = v.conc β := by cases v <;> first | rfl | cases h
theorem notTup_ids {v : AV} (h : notTup v = true) : v.ids1 = v.ids := by cases v <;> first | rfl | cases h
theorem lids_ids {v : AV} (h : okLeaf v = true) : v.lids = v.ids := by
 cases v <;> first | rfl | cases h

section
variable {C : Cx} {β : Nat → Nat} {F : Fr} {H : Hp} {a : Act} {w : World}

theorem Rel.ev (hr : Rel C β F H a w) {x : Operand} {v : AV} (h : Proofs.YtofdiijioejljaaGreat.ev F x = some v) : a.eval x = v.conc β := by
 cases x with
 | tmp t => exact hr.tmp t v h
 | const c => cases h; rfl
 | func f => cases h; rfl
 | global g => cases h
theorem evv_ev {x : Operand} {v : Value} (h : Proofs.YtofdiijioejljaaGreat.evv F x = some v) : Proofs.YtofdiijioejljaaGreat.ev F x = some (.val v) := by
 unfold Proofs.YtofdiijioejljaaGreat.evv at h
 split at h
 ·rename_i u hu
  cases h
  exact hu
 ·cases h
theorem Rel.evv (hr : Rel C β F H a w) {x : Operand} {v : Value} (h : Proofs.YtofdiijioejljaaGreat.evv F x = some v) : a.eval x = v := hr.ev (evv_ev h)
theorem Rel.evs (hr : Rel C β F H a w) : ∀ {l : List Operand} {vs : List Value}, Proofs.YtofdiijioejljaaGreat.evs F l = some vs → l.map a.eval = vs
 | [], vs, h => by cases h; rfl
 | x :: r, vs, h => by
  unfold Proofs.YtofdiijioejljaaGreat.evs at h
  split at h
  ·rename_i v l hv hl
   cases h
   rw [List.map_cons, hr.evv hv, hr.evs hl]
  ·cases h
theorem Rel.eva (hr : Rel C β F H a w) : ∀ {l : List Operand} {vs : List AV}, Proofs.YtofdiijioejljaaGreat.eva F l = some vs → l.map a.eval = vs.map (AV.conc β)
 | [], vs, h => by cases h; rfl
 | x :: r, vs, h => by
  unfold Proofs.YtofdiijioejljaaGreat.eva at h
  split at h
  ·rename_i v l hv hl
   cases h
   rw [List.map_cons, hr.ev hv, hr.eva hl]; rfl
  ·cases h
theorem Rel.evp (hr : Rel C β F H a w) : ∀ {l : List (Nat × Operand)} {vs : List (Nat × AV)}, Proofs.YtofdiijioejljaaGreat.evp F l = some vs → l.map (fun p => (p.1, a.eval p.2)) = vs.map (fun p => (p.1, p.2.conc β))
 | [], vs, h => by cases h; rfl
 | (k, x) :: r, vs, h => by
  unfold Proofs.YtofdiijioejljaaGreat.evp at h
  split at h
  ·rename_i v l hv hl
   cases h
   rw [List.map_cons, hr.evp hl]
   simp [hr.ev hv]
  ·cases h
theorem Closed.ev (hc : Closed F H) {x : Operand} {v : AV} (h : Proofs.YtofdiijioejljaaGreat.ev F x = some v) : ∀ i ∈ v.ids, H i ≠ none := by
 cases x with
 | tmp t => exact hc t v h
 | const c => cases h; intro i hi; cases hi
 | func f => cases h; intro i hi; cases hi
 | global g => cases h
theorem Closed.eva (hc : Closed F H) : ∀ {l : List Operand} {vs : List AV}, Proofs.YtofdiijioejljaaGreat.eva F l = some vs → ∀ v ∈ vs, ∀ i ∈ v.ids, H i ≠ none
 | [], vs, h => by cases h; intro v hv; cases hv
 | x :: r, vs, h => by
  unfold Proofs.YtofdiijioejljaaGreat.eva at h
  split at h
  ·rename_i v l hv hl
   cases h
   intro u hu
   rcases List.mem_cons.1 hu with rfl | hu
   ·exact hc.ev hv
   ·exact hc.eva hl u hu
  ·cases h
theorem Closed.evp (hc : Closed F H) : ∀ {l : List (Nat × Operand)} {vs : List (Nat × AV)}, Proofs.YtofdiijioejljaaGreat.evp F l = some vs → ∀ v ∈ vs, ∀ i ∈ v.2.ids, H i ≠ none
 | [], vs, h => by cases h; intro v hv; cases hv
 | (k, x) :: r, vs, h => by
  unfold Proofs.YtofdiijioejljaaGreat.evp at h
  split at h
  ·rename_i v l hv hl
   cases h
   intro u hu
   rcases List.mem_cons.1 hu with rfl | hu
   ·exact hc.ev hv
   ·exact hc.evp hl u hu
  ·cases h
theorem Rel.evClosed (hr : Rel C β F H a w) {x : Operand} {v : AV} (h : Proofs.YtofdiijioejljaaGreat.ev F x = some v) : ∀ i ∈ v.ids, H i ≠ none := hr.closed.ev h

theorem Rel.put (hr : Rel C β F H a w) {dst : Option Nat} (hd : dstOk C.N dst = true) {v : AV} (hc : ∀ i ∈ v.ids, H i ≠ none) : Rel C β (F.puto dst v) H (a.put dst (v.conc β)) w := by
 cases dst with
 | none => exact hr
 | some d =>
  have hlt : d < C.N := by simpa [dstOk, Nat.blt_eq] using hd
  refine ⟨hr.defers, by simp [Act.put, hr.size], fun n u hn => ?_, hr.own, hr.apart, fun n u hn => ?_, fun n u hn => ?_, hr.hp, hr.old⟩
  ·change (F.put d v) n = some u at hn
   rw [Fr.put_at] at hn
   show (a.tmps.setIfInBounds d (v.conc β)).getD n undef = _
   by_cases h : n = d
   ·subst h
    rw [if_pos rfl] at hn
    cases hn
    simp [Array.getD_eq_getD_getElem?, Array.getElem?_setIfInBounds, hr.size, hlt]
   ·rw [if_neg h] at hn
    have := hr.tmp n u hn
    rw [Array.getD_eq_getD_getElem?] at this ⊢
    rw [Array.getElem?_setIfInBounds, if_neg (fun e => h e.symm)]
    exact this
  ·change (F.put d v) n = some u at hn
   rw [Fr.put_at] at hn
   by_cases h : n = d
   ·rw [if_pos h] at hn; cases hn; exact hc
   ·rw [if_neg h] at hn; exact hr.closed n u hn
  ·change (F.put d v) n = some u at hn
   rw [Fr.put_at] at hn
   by_cases h : n = d
   ·rw [h]; exact hlt
   ·rw [if_neg h] at hn; exact hr.fits n u hn

theorem run_loadVar_any {P : Program} {t : TypeId} {i : TI} (hi : TI.Ok P t i) (a : Addr) (cs : List Value) (hl : cs.length = i.size) (w : World) (hc : ∀ j u, cs[j]? = some u → w.cell? (a.add j) = some u) :
  (loadVar t a).run P w = .ok (mkRead i cs) w := by
 obtain ⟨d, hu, hd⟩ := hi.row
 have hz := hi.size
 cases hq : P.info? t with
 | none => rw [hq] at hz; simp at hz
 | some ti =>
  rw [hq] at hz
  simp at hz
  unfold loadVar mkRead
  cases hg : i.agg
  ·have h1 := hi.lone hg
   rw [hg] at hd
   obtain ⟨u, rfl⟩ : ∃ u, cs = [u] := List.length_eq_one_iff.1 (by omega)
   have := hc 0 u rfl
   have ha : a.add 0 = a := by unfold Addr.add; split <;> simp_all
   rw [ha] at this
   cases d <;> simp_all [isAgg, run_underlying hu, TypeDesc.isRow]
  ·rw [hg] at hd
   have hld := run_loadCells_list (P := P) w a cs hc
   rw [hl, ← hz] at hld
   cases d <;> simp_all [isAgg, run_underlying hu, TypeDesc.isRow, sizeOf, typeInfo]
theorem readA_conc {P : Program} {t : TypeId} {i : TI} (hi : TI.Ok P t i) {cs : List AV} (hl : cs.length = i.size) (hk : cs.all okLeaf = true) : (readA i cs).conc β = mkRead i (cs.map (AV.leaf β)) := by
 unfold readA mkRead
 cases hg : i.agg with
 | true => exact mkAgg_conc β cs
 | false =>
  have h1 := hi.lone hg
  obtain ⟨u, rfl⟩ : ∃ u, cs = [u] := List.length_eq_one_iff.1 (by omega)
  simp at hk
  simp [leaf_conc hk]
theorem readA_ids {i : TI} {cs : List AV} {j : Nat} (hk : cs.all okLeaf = true) (h : j ∈ (readA i cs).ids) : j ∈ lidsOf cs := by
 unfold readA at h
 cases hg : i.agg with
 | true => rw [hg] at h; exact mkAgg_ids h
 | false =>
  rw [hg] at h
  cases cs with
  | nil => cases h
  | cons x r =>
   simp only [cond_false, List.headD_cons] at h
   simp at hk
   rw [lidsOf, lids_ids hk.1]
   exact List.mem_append_left _ h
end
end Go.Proofs.YtofdiijioejljaaGreat
