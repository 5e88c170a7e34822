/- Calm walks: what an operation looks at. -/
import Derived.Test.YtofdiijioejljaaGreatCalmC
set_option linter.all false
namespace Go.Proofs.YtofdiijioejljaaGreat
open Go.RowKit

def memOk (p o : Nat) : Bool := bif Nat.beq p 5 || Nat.beq o 5 then false else Nat.beq p 0 || Nat.beq o 0 || (Nat.ble p 2 && Nat.ble o 2) || (Nat.beq p 4 && Nat.ble o 2) || (Nat.ble p 2 && Nat.beq o 4)
def isMove (o : Oper) : Bool := match o.op, o.guard with
 | .move (.tmp _), none => true
 | _, _ => false
def indep (su : TypeId → Bool) (l : List FuncId) (full : Array Oper) (p o : Oper) : Bool := p.apart full o && (memOk (memClass su l p) (memClass su l o) || isMove p)
def directOf (full : Array Oper) (j : Nat) : List Nat := match full[j]? with
 | none => []
 | some o => (o.after.toList.filter (Region.binds .any)).map (·.on)
def reach (full : Array Oper) : Nat → Nat → Nat → Bool
 | 0, j, i => (directOf full j).contains i
 | f + 1, j, i => (directOf full j).contains i || (directOf full j).any fun d => Nat.blt i d && reach full f d i
def drawPair (su : TypeId → Bool) (l : List FuncId) (full : Array Oper) (i j : Nat) : Bool :=
 (match full[i]?, full[j]? with | some p, some o => indep su l full p o | _, _ => true) || reach full full.size j i
def drawOk (su : TypeId → Bool) (l : List FuncId) (full : Array Oper) : Bool := (List.range full.size).all fun j => (directOf full j).all (fun d => Nat.blt d j) && (List.range j).all fun i => drawPair su l full i j

section
variable {C : Cx} {F : Fr} {H : Hp} {w : World} {full : Array Oper} {p o : Oper} {ml : List FuncId}

theorem looks_operand {t : Tmp} {y : Operand} (hy : y ∈ o.op.operands.toList) (h : y = .tmp t) : t ∈ o.looksAt full := by
 unfold Oper.looksAt
 refine List.mem_append.2 (.inl ?_)
 exact List.mem_filterMap.2 ⟨y, hy, by rw [h]⟩
theorem ev_agree {F F' : Fr} {y : Operand} (h : ∀ t, y = .tmp t → F' t = F t) : ev F' y = ev F y := by
 cases y with
 | tmp t => exact h t rfl
 | const v => rfl
 | func f => rfl
 | global g => rfl
theorem evv_agree {F F' : Fr} {y : Operand} (h : ev F' y = ev F y) : evv F' y = evv F y := by unfold evv; rw [h]
theorem evs_agree {F F' : Fr} : ∀ {l : List Operand}, (∀ y ∈ l, ev F' y = ev F y) → evs F' l = evs F l
 | [], _ => rfl
 | x :: r, h => by unfold evs; rw [evv_agree (h x (by simp)), evs_agree (l := r) (fun y hy => h y (by simp [hy]))]
theorem eva_agree {F F' : Fr} : ∀ {l : List Operand}, (∀ y ∈ l, ev F' y = ev F y) → eva F' l = eva F l
 | [], _ => rfl
 | x :: r, h => by unfold eva; rw [h x (by simp), eva_agree (l := r) (fun y hy => h y (by simp [hy]))]
theorem evf_agree {F F' : Fr} {y : Operand} (h : ev F' y = ev F y) : evf F' y = evf F y := by unfold evf; rw [h]
theorem evp_agree {F F' : Fr} : ∀ {l : List (Nat × Operand)}, (∀ y ∈ l, ev F' y.2 = ev F y.2) → evp F' l = evp F l
 | [], _ => rfl
 | (k, x) :: r, h => by unfold evp; rw [h (k, x) (by simp), evp_agree (l := r) (fun y hy => h y (by simp [hy]))]
theorem evo_agree {F F' : Fr} : ∀ {x : Option Operand}, (∀ y ∈ x.toArray.toList, ev F' y = ev F y) → evo F' x = evo F x
 | none, _ => rfl
 | some x, h => by
  show (match evv F' x with | some (.int _ k) => some (some k) | _ => none) = match evv F x with | some (.int _ k) => some (some k) | _ => none
  rw [evv_agree (h x (by simp))]
theorem rawA_agree {F F' : Fr} (h : ∀ y ∈ o.op.operands.toList, ev F' y = ev F y) : rawA F' o = rawA F o := by
 unfold rawA; rw [eva_agree h]

theorem act_agree {F F' : Fr} (h : ∀ y ∈ o.op.operands.toList, ev F' y = ev F y) : act C F' H o = act C F H o := by
 have hraw := rawA_agree h
 unfold act
 cases hop : o.op <;> rw [hop] at h <;> simp only [Op.operands] at h ⊢ <;> try (exact hraw)
 case move x => rw [h x (by simp)]
 case assign x => rw [h x (by simp)]
 case pick c a b => rw [evv_agree (h c (by simp)), h a (by simp), h b (by simp)]
 case box t x => rw [h x (by simp)]
 case build t ps => rw [evp_agree (fun y hy => h y.2 (by simp; exact ⟨y.1, by simpa using hy⟩))]
 case load t x => rw [h x (by simp)]
 case store t x y => rw [h x (by simp), h y (by simp)]
 case binOp op t x y t' => rw [evv_agree (h x (by simp)), evv_agree (h y (by simp)), h x (by simp)]
 case unOp op t x => cases op <;> simp only <;> first | exact hraw | rw [evv_agree (h x (by simp))]
 case convert s t x => rw [evv_agree (h x (by simp))]
 case nilCheck x => rw [h x (by simp)]
 case fieldAddr t x k => rw [h x (by simp)]
 case field t x k => rw [h x (by simp)]
 case indexAddr t x ix => rw [h x (by simp), evv_agree (h ix (by simp))]
 case extract x k => rw [h x (by simp)]
 case makeSlice t l c => rw [evv_agree (h l (by simp)), evv_agree (h c (by simp))]
 case slice t x lo hi mx =>
  cases mx with
  | some m => exact hraw
  | none =>
   simp only
   rw [h x (by simp), evo_agree (x := lo) (fun y hy => h y (by simp at hy ⊢; exact .inr (.inl hy))), evo_agree (x := hi) (fun y hy => h y (by simp at hy ⊢; exact .inr (.inr hy)))]
 case makeFunc fn first cap =>
  cases fn <;> simp only <;> try (exact hraw)
  rw [evs_agree (l := first.toList) (fun y hy => h y (by simp; exact .inl (by simpa using hy))), eva_agree (l := cap.toList) (fun y hy => h y (by simp; exact .inr (by simpa using hy)))]
 case buildSlice t n ps =>
  rw [hraw, evp_agree (fun y hy => h y.2 (by simp; exact ⟨y.1, by simpa using hy⟩))]
 case call c =>
  simp only [Call.operands] at h
  cases hc : c.callee with
  | value f =>
   rw [hc] at h
   simp only at h ⊢
   rw [evf_agree (h f (by simp)), eva_agree (fun y hy => h y (by simp; exact .inr (by simpa using hy)))]
  | invoke r n => exact hraw
  | builtin b =>
   rw [hc] at h
   have he : evs F' c.args.toList = evs F c.args.toList := evs_agree fun y hy => h y (by simpa using hy)
   cases b <;> simp only <;> first | exact hraw | (rw [he]; done) | skip
   split
   ·rename_i x t hx ht
    rw [(h x (by
     have e1 : c.args = #[x] := Array.toList_inj.1 hx
     simp [e1]))]
   ·rfl

theorem puto_other {F : Fr} {d : Option Nat} {x : AV} {t : Nat} (h : ∀ n, d = some n → t ≠ n) : (F.puto d x) t = F t := by
 cases d with
 | none => rfl
 | some n => show (F.put n x) t = _; rw [Fr.put_at, if_neg (h n rfl)]

theorem wants_agree {F F' : Fr} (h : ∀ g b d, o.guard = some (g, b) → (full[g]?).bind (·.dst) = some d → F' d = F d) : wants full F' o = wants full F o := by
 unfold wants
 cases hg : o.guard with
 | none => rfl
 | some gb =>
  obtain ⟨g, b⟩ := gb
  simp only
  cases hd : (full[g]?).bind (·.dst) with
  | none => rfl
  | some d => simp only; rw [h g b d hg hd]

theorem stepOf_agree {d : Option Nat} {x : AV} (h : ∀ n, d = some n → n ∉ o.looksAt full) : stepOf C full (F.puto d x) H o = stepOf C full F H o := by
 have h1 : act C (F.puto d x) H o = act C F H o := act_agree fun y hy => ev_agree fun t ht => puto_other fun n hn e => h n hn (e ▸ looks_operand hy ht)
 have h2 : wants full (F.puto d x) o = wants full F o := wants_agree fun g b t hg ht => puto_other fun n hn e => h n hn (by
  subst e
  unfold Oper.looksAt
  rw [hg]
  simp only
  exact List.mem_append.2 (.inr (by rw [ht]; simp)))
 unfold stepOf
 rw [h1, h2]

theorem act_class0 {H H' : Hp} (h : memClass C.SU ml o = 0 ∨ memClass C.SU ml o = 4) : act C F H' o = act C F H o := by
 unfold memClass at h
 unfold act
 cases hop : o.op <;> rw [hop] at h <;> simp only at h ⊢ <;> try (exfalso; revert h; simp; done)
 case unOp op _ _ => cases op <;> rfl
 case makeFunc fn _ _ => cases fn <;> rfl
 case slice t x lo hi mx => cases mx <;> rfl
 case buildSlice t n ps =>
  cases hb : C.SU t with
  | true => rfl
  | false => rw [hb] at h; simp at h
theorem act_class1 {d : Nat} {c : TypeId × List AV} (h : memClass C.SU ml o = 1) (hc : Closed F H) (hd : H d = none) : act C F (H.put d c) o = act C F H o := by
 unfold memClass at h
 unfold act
 cases hop : o.op <;> rw [hop] at h <;> simp only at h ⊢ <;> try (exfalso; revert h; simp; done)
 case load t x =>
  split
  ·rename_i b off i hx hi
   have : b ≠ d := fun e => by
    subst e
    exact hc.ev hx _ (by simp [AV.ids]) hd
   rw [Hp.put_at, if_neg this]
  ·rename_i b off i hx hi
   have : b ≠ d := fun e => by
    subst e
    exact hc.ev hx _ (by simp [AV.ids]) hd
   rw [Hp.put_at, if_neg this]
  ·rfl
  ·rfl
 case unOp op _ _ => cases op <;> simp at h
 case makeFunc fn _ _ => cases fn <;> simp at h
 case slice t x lo hi mx => cases mx <;> simp at h
 case buildSlice t n ps => cases hb : C.SU t <;> rw [hb] at h <;> simp at h
theorem act_class2 {d d' : Nat} {c : TypeId × List AV} (h : memClass C.SU ml o = 2) (hd : o.dst = some d) (hne : d ≠ d') : act C F (H.put d' c) o = act C F H o := by
 have e : (H.put d' c) d = H d := by rw [Hp.put_at, if_neg hne]
 unfold memClass at h
 unfold act
 cases hop : o.op <;> rw [hop] at h <;> simp only at h ⊢ <;> try (exfalso; revert h; simp; done)
 case alloc t =>
  rw [hd]
  cases C.ti t with
  | none => rfl
  | some i => show makeA C.K d t _ ((H.put d' c) d) = _; rw [e]
 case box t x =>
  rw [hd]
  cases ev F x with
  | none => rfl
  | some i => show makeA C.K d t _ ((H.put d' c) d) = _; rw [e]
 case makeSlice t l k =>
  rw [hd]
  cases C.ti t with
  | none => rfl
  | some i =>
   cases evv F l with
   | none => rfl
   | some vl =>
    cases vl <;> try rfl
    cases evv F k with
    | none => rfl
    | some vk =>
     cases vk <;> try rfl
     simp only
     cases i.elem with
     | none => rfl
     | some es =>
      obtain ⟨e2, sz⟩ := es
      simp only
      rw [e]
 case unOp op _ _ => cases op <;> simp at h
 case makeFunc fn _ _ => cases fn <;> simp at h
 case slice t x lo hi mx => cases mx <;> simp at h
 case buildSlice t n ps =>
  cases hb : C.SU t with
  | true => rfl
  | false =>
   rw [cond_false, cond_false, hd]
   cases C.ti t with
   | none => rfl
   | some i =>
    cases evp F ps.toList with
    | none => rfl
    | some l =>
     simp only
     cases i.elem with
     | none => rfl
     | some es =>
      obtain ⟨e2, sz⟩ := es
      simp only
      cases C.ti e2 with
      | none => rfl
      | some ie =>
       cases rowL sz 0 l with
       | none => rfl
       | some cs => show (bif _ then makeR C.K d e2 n cs ((H.put d' c) d) else _) = _; rw [e]
theorem act_class2' {c : Nat × (TypeId × List AV)} (h : memClass C.SU ml o = 2) (hd : o.dst = none) : act C F (H.put c.1 c.2) o = act C F H o := by
 unfold memClass at h
 unfold act
 cases hop : o.op <;> rw [hop] at h <;> simp only at h ⊢ <;> try (exfalso; revert h; simp; done)
 case alloc t => simp only [hd]
 case box t x => simp only [hd]
 case makeSlice t l c => simp only [hd]
 case unOp op _ _ => cases op <;> simp at h
 case makeFunc fn _ _ => cases fn <;> simp at h
 case slice t x lo hi mx => cases mx <;> simp at h
 case buildSlice t n ps =>
  cases hb : C.SU t with
  | true => rfl
  | false => simp only [cond_false, hd]
theorem act_upd {v : AV} {u : Option (Nat × (TypeId × List AV))} (h : act C F H o = .det v u) : u = none ∨ memClass C.SU ml o = 3 ∨ (memClass C.SU ml o = 2 ∧ ∃ d c, o.dst = some d ∧ u = some (d, c) ∧ H d = none) := by
 unfold act at h
 cases hop : o.op <;> rw [hop] at h <;> simp only at h <;> try (first | cases h; done | exact (rawA_det h).elim)
 case store => exact .inr (.inl (by unfold memClass; rw [hop]))
 case alloc t =>
  split at h
  ·rename_i d i hdst hi
   obtain ⟨h1, h2, h3, h4, h5⟩ := makeA_inv h
   exact .inr (.inr ⟨by unfold memClass; rw [hop], d, _, hdst, h5, h1⟩)
  ·cases h
 case box t x =>
  split at h
  ·rename_i d i hdst hi
   obtain ⟨h1, h2, h3, h4, h5⟩ := makeA_inv h
   exact .inr (.inr ⟨by unfold memClass; rw [hop], d, _, hdst, h5, h1⟩)
  ·cases h
 case move => exact .inl (det1_inv h).2
 case assign => exact .inl (det1_inv h).2
 case pick => split at h <;> first | exact .inl (det1_inv h).2 | cases h
 case load =>
  split at h
  ·split at h
   ·exact .inl (loadA_inv h).2.2
   ·cases h
  ·split at h <;> cases h
  ·cases h
  ·cases h
 case build => split at h <;> first | (cases h; done) | (split at h <;> first | (cases h; done) | (rw [forceL_eq, aggK_eq] at h; cases h; exact .inl rfl))
 case binOp =>
  split at h
  ·split at h
   ·exact .inl (det2_inv h).choose_spec.2.2
   ·cases h
  ·split at h
   ·exact .inl (det2_inv h).choose_spec.2.2
   ·cases h
  ·split at h
   ·exact .inl (det2_inv h).choose_spec.2.2
   ·cases h
  ·exact .inl (det2_inv h).choose_spec.2.2
  ·split at h
   ·exact .inl (det2_inv h).choose_spec.2.2
   ·cases h
  ·split at h
   ·exact .inl (det2_inv h).choose_spec.2.2
   ·cases h
  ·cases h
 case unOp op _ _ => cases op <;> simp only at h <;> first | exact (rawA_det h).elim | (split at h <;> first | (cases h; done) | (cases h; exact .inl rfl))
 case convert => split at h <;> first | (cases h; done) | (split at h <;> first | (cases h; done) | (cases h; exact .inl rfl))
 case nilCheck => split at h <;> first | (cases h; done) | (cases h; exact .inl rfl)
 case fieldAddr => split at h <;> first | (cases h; done) | (split at h <;> first | (cases h; done) | (cases h; exact .inl rfl))
 case field => split at h <;> first | (cases h; done) | exact .inl (fieldA_inv h).1
 case extract =>
  split at h
  ·exact .inl (det2_inv h).choose_spec.2.2
  ·split at h
   ·rename_i x _
    cases hn : notTup x <;> rw [hn] at h <;> cases h
    exact .inl rfl
   ·cases h
  ·cases h
 case indexAddr => split at h <;> first | (cases h; done) | (split at h <;> cases h)
 case slice t x lo hi mx =>
  cases mx <;> simp only at h <;> first | exact (rawA_det h).elim | skip
  split at h <;> first | (cases h; done) | (split at h <;> cases h)
 case makeSlice =>
  split at h
  ·split at h
   ·split at h
    ·revert h
     generalize (!_ && _) = q
     cases q <;> intro h <;> cases h
    ·cases h
   ·cases h
  ·cases h
 case makeFunc fn _ _ =>
  cases fn <;> simp only at h <;> try (exact (rawA_det h).elim)
  split at h
  ·cases h; exact .inl rfl
  ·split at h
   ·cases h; exact .inl rfl
   ·cases h
  ·cases h
 case buildSlice t n ps =>
  cases hsu : C.SU t with
  | true => rw [hsu] at h; exact (rawA_det h).elim
  | false =>
   rw [hsu, cond_false] at h
   split at h
   ·rename_i d i l hdst hi hl
    split at h
    ·split at h
     ·revert h
      generalize (Nat.beq _ _ && _) = q
      cases q <;> intro h
      ·cases h
      ·obtain ⟨h1, h2, h3, h4, h5⟩ := makeR_inv h
       exact .inr (.inr ⟨by unfold memClass; rw [hop]; simp [hsu], d, _, hdst, h5, h1⟩)
     ·cases h
    ·cases h
   ·cases h
 case call =>
  split at h
  ·split at h
   ·split at h
    ·split at h
     ·cases h; exact .inl rfl
     ·cases h
    ·split at h
     ·cases h; exact .inl rfl
     ·cases h
    ·cases h
   ·cases h
  ·split at h <;> first | (cases h; done) | (cases h; exact .inl rfl)
  ·split at h <;> first | (cases h; done) | (cases h; exact .inl rfl)
  ·split at h
   ·rw [forceL_eq] at h; cases h
   ·cases h
  ·exact (rawA_det h).elim
theorem act_updC {φ : Prop} {v : AV} {u : Option (Nat × (TypeId × List AV))} (h : act C F H o = .cond φ v u) : u = none ∨ memClass C.SU ml o = 3 ∨ (memClass C.SU ml o = 2 ∧ ∃ d c, o.dst = some d ∧ u = some (d, c) ∧ H d = none) := by
 have k := act_kind (C := C) (F := F) (H := H) (o := o)
 rw [h] at k
 cases k with
 | plain p => exact (p.no_cond rfl).elim
 | store e => exact .inr (.inl (by unfold memClass; rw [e]))
 | index e => exact .inl rfl
 | slice e => exact .inl rfl
 | make e h1 h2 => exact .inr (.inr ⟨by unfold memClass; rw [e], _, _, h1, rfl, h2⟩)
theorem memClass_le {su : TypeId → Bool} {l : List FuncId} {o : Oper} : memClass su l o ≤ 5 := by
 unfold memClass
 split
 all_goals first
  | exact Nat.le_of_ble_eq_true rfl
  | (cases su _ <;> exact Nat.le_of_ble_eq_true rfl)
  | (split <;> first | exact Nat.le_of_ble_eq_true rfl | (cases modOp l _ <;> exact Nat.le_of_ble_eq_true rfl))
theorem act_classC {d : Doer} (h : act C F H o = .call d) : memClass C.SU ml o = 3 ∨ memClass C.SU ml o = 4 ∨ memClass C.SU ml o = 5 := by
 rcases act_call h with ⟨c, f, g, first, l, cap, hop, hcl, _⟩ | ⟨vs, _, _, ⟨t, n, ps, hop, hsu⟩ | h5⟩
 ·unfold memClass
  rw [hop]
  simp only [hcl]
  cases modOp ml c
  ·exact .inr (.inl rfl)
  ·exact .inl rfl
 ·unfold memClass
  rw [hop]
  simp [hsu]
 ·have h6 := h5 C.SU ml
  have h7 := memClass_le (su := C.SU) (l := ml) (o := o)
  omega
end
end Go.Proofs.YtofdiijioejljaaGreat
