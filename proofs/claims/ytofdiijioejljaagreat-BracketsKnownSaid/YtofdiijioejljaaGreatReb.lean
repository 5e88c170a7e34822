/- Calm walks: going on in new circumstances, in which all that is there is old; rows of elements that are told. No function of the program in sight. -/
import Derived.Test.YtofdiijioejljaaGreatCalmI
set_option linter.all false
namespace Go.Proofs.YtofdiijioejljaaGreat
open Go.RowKit

section
variable {C : Cx} {F : Fr} {H : Hp} {w : World} {m : Option (List FuncId)} {full : Array Oper} {K : Fr → Hp → World → Prop} {o : Oper} {r : List Oper} {Q : Exit → Act → World → Prop} {k : List It}
def AllVal (F : Fr) (β : Nat → Nat) : List (Nat × AV) → Prop
 | [] => True
 | p :: r => (∃ u x, F p.1 = some u ∧ u.conc β = x ∧ p.2 = .val x) ∧ AllVal F β r
theorem AllVal.mem {β : Nat → Nat} : ∀ {L : List (Nat × AV)} {d : Nat} {v : AV}, AllVal F β L → (d, v) ∈ L → ∃ u x, F d = some u ∧ u.conc β = x ∧ v = .val x
 | p :: r, d, v, h, hm => by
  rcases List.mem_cons.1 hm with rfl | hm
  ·exact h.1
  ·exact AllVal.mem h.2 hm
theorem VO.litE (hC : C.Ok) {t e : TypeId} {n sz : Nat} {ps : Array (Nat × Operand)} {it ie : TI} {args : List AV} (us vs : List Value)
  (e0 : stepOf C full F H o = .call (.op o args)) (ha : args = us.map .val) (ho : o.op = .buildSlice t n ps) (hit : C.ti t = some it) (hel : it.elem = some (e, sz)) (hie : C.ti e = some ie)
  (hrow : rowL sz 0 ((ps.toList.map (·.1)).zip (us.map .val)) = some (vs.map .val)) (hps : ps.size = n) (hus : us.length = n) (hvs : vs.length = n * sz) (hn : n * sz ≤ 16777216)
  (hK : ∀ w2 b, KpS C.K w w2 → C.Old w2 → C.w0.heap.size ≤ b → Cls w2 b e vs.toArray → vcOps C m full r K (F.puto o.dst (.val (.slice (some ⟨b, 0, none⟩) n n))) H w2) : vcOps C m full (o :: r) K F H w := by
 refine VO.callR e0 fun w1 β h1 h2 _ => ?_
 obtain ⟨hu, hsz⟩ := (hC t it hit).isSlice e sz hel
 have hz0 := (hC e ie hie).zero
 have hb : Beh w1 (w1.alloc (.cells vs.toArray e)) := (Beh.refl w1).alloc _
 refine ⟨.slice (some ⟨w1.heap.size, 0, none⟩) n n, w1.alloc (.cells vs.toArray e), fun ρ hρ => .inl ?_, _, rfl, hb, fun a1 a2 a3 => hK _ w1.heap.size a1 a3 (C.oldSize _ h2) (Cls.new w1 _ _)⟩
 rw [ho, ha, conc_vals] at hρ
 have hl : (ps.map fun x => (x.1, ρ x.2)).toList = ((ps.toList.map (·.1)).zip (us.map AV.val)).map fun p => (p.1, p.2.conc (fun _ => 0)) := by
  have h3 : ps.toList.map (fun x => ρ x.2) = us := by
   rw [← hρ]; simp [Op.operands]
  rw [Array.toList_map, ← h3]
  generalize ps.toList = l
  induction l with
  | nil => rfl
  | cons q r ih => simp only [List.map_cons, List.zip_cons_cons]; rw [ih]; rfl
 have hfill : ∀ A : Array Value, A.size = n * sz → Instr.fill (fun i => some (i * sz, sz)) A (((ps.toList.map (·.1)).zip (us.map AV.val)).map fun p => (p.1, p.2.conc (fun _ => 0))) = some vs.toArray := fun A hA => by
  have := rowL_fill (β := fun _ => 0) (sz := sz) _ 0 [] A.toList hrow (by simp) (by rw [Array.length_toList, hA]; simp [hps, hus])
  rw [leaf_vals] at this
  simpa using this
 simp only [execOp, ho, Instr.buildSlice, Sem.run_bind, run_underlying hu, Result.andThen_ok, hsz]
 rw [if_neg (by omega)]
 by_cases h0 : n * sz = 0
 ·simp only [if_pos h0, Sem.run_bind, Sem.run_pure, Result.andThen_ok]
  rw [hl, hfill _ (by simpa using h0.symm)]
  simp [newRow]
 ·simp only [if_neg h0, Sem.run_bind, Sem.run_pure, Result.andThen_ok, hz0]
  have hzs : ie.zero.cells.size = sz := by
   have h6 := (hC e ie hie).zsize
   have h7 := hsz w1
   have h8 := (hC e ie hie).size
   cases hti : C.P.info? e with
   | none => rw [hti] at h8; simp at h8
   | some ti =>
    rw [hti] at h8
    simp [sizeOf, typeInfo, hti] at h7 h8
    omega
  rw [hl, hfill _ (by simp [Builtin.zeroCells, hzs])]
  simp [newRow]
end
end Go.Proofs.YtofdiijioejljaaGreat
