/- Calm walks: operations with a condition, reads, calls; a region in its text's order. -/
import Derived.Test.YtofdiijioejljaaGreatCalmB
import Derived.RegionTactic
import Derived.Laws.Slices
set_option linter.all false
namespace Go.Proofs.YtofdiijioejljaaGreat
open Go.RowKit

section
variable {C : Cx} {β : Nat → Nat} {F : Fr} {H : Hp} {a : Act} {w w' : World} {full : Array Oper} {o : Oper} {Q : Exit → Act → World → Prop}

theorem wants_sound (hr : Rel C β F H a w) {b : Bool} (h : wants full F o = some b) : Region.wanted o (yielded full a.tmps) = b := by
 unfold wants at h
 unfold Region.wanted
 split at h
 ·rename_i hg; rw [hg]; cases h; rfl
 ·rename_i g want hg
  rw [hg]
  split at h
  ·cases h
  ·rename_i d hd
   split at h
   ·rename_i c hc
    cases h
    have := hr.tmp d _ hc
    have h2 : a.tmps[d]? = some (.bool c) := by
     rw [Array.getD_eq_getD_getElem?] at this
     cases he : a.tmps[d]? with
     | none => rw [he] at this; simp [undef, AV.conc] at this
     | some z => rw [he] at this; simpa [AV.conc] using this
    simp only [yielded, hd, Option.bind_some, h2]
    cases c <;> cases want <;> rfl
   ·rename_i vs hc
    cases h
    have := hr.tmp d _ hc
    simp only [yielded, hd, Option.bind_some]
    rw [Array.getD_eq_getD_getElem?] at this
    cases he : a.tmps[d]? with
    | none => rfl
    | some z =>
     rw [he] at this
     simp [AV.conc] at this
     subst this
     rfl
   ·cases h


def Plain (s : Step) : Prop := s = .bad ∨ ∃ v u, s = .det v u
theorem Plain.bad : Plain .bad := .inl rfl
theorem Plain.det (v : AV) (u : Option (Nat × (TypeId × List AV))) : Plain (.det v u) := .inr ⟨v, u, rfl⟩
theorem Plain.det1 (x : Option AV) : Plain (Proofs.YtofdiijioejljaaGreat.det1 x) := by cases x <;> first | exact .bad | exact .det _ _
theorem Plain.det2 (x : Option Value) : Plain (Proofs.YtofdiijioejljaaGreat.det2 x) := by cases x <;> first | exact .bad | exact .det _ _
theorem Plain.loadA (i : TI) (cs : List AV) (off : Nat) : Plain (Proofs.YtofdiijioejljaaGreat.loadA i cs off) := by
 unfold Proofs.YtofdiijioejljaaGreat.loadA
 rw [forceL_eq]
 cases Nat.ble (off + i.size) cs.length
 ·exact .bad
 ·cases i.agg
  ·show Plain (match (cs.drop off).take i.size with | x :: _ => .det x none | [] => .bad)
   split <;> first | exact .bad | exact .det _ _
  ·rw [cond_true, cond_true, aggK_eq]; exact .det _ _
theorem Plain.storeA (i : TI) (b : Nat) (t : TypeId) (cs : List AV) (off : Nat) (v : AV) : Plain (Proofs.YtofdiijioejljaaGreat.storeA i b t cs off v) := by
 unfold Proofs.YtofdiijioejljaaGreat.storeA
 rw [forceL_eq]
 cases (Nat.ble (off + i.size) cs.length && Nat.beq (cellsOf v).length i.size && (cellsOf v).all okLeaf) <;> first | exact .bad | exact .det _ _
theorem Plain.makeA (K : KC) (d : Nat) (t : TypeId) (cs : List AV) (h : Option (TypeId × List AV)) : Plain (Proofs.YtofdiijioejljaaGreat.makeA K d t cs h) := by
 unfold Proofs.YtofdiijioejljaaGreat.makeA
 cases h with
 | some _ => exact .bad
 | none => dsimp only; rw [forceL_eq]; cases (!K.fz t && cs.all okLeaf) <;> first | exact .bad | exact .det _ _
theorem Plain.makeR (K : KC) (d : Nat) (e : TypeId) (n : Nat) (cs : List AV) (h : Option (TypeId × List AV)) : Plain (Proofs.YtofdiijioejljaaGreat.makeR K d e n cs h) := by
 unfold Proofs.YtofdiijioejljaaGreat.makeR
 cases h with
 | some _ => exact .bad
 | none => dsimp only; rw [forceL_eq]; cases (!K.fz e && cs.all okLeaf) <;> first | exact .bad | exact .det _ _
theorem Plain.fieldA (i : TI) (cs : List AV) (k : Nat) : Plain (Proofs.YtofdiijioejljaaGreat.fieldA i cs k) := by
 unfold Proofs.YtofdiijioejljaaGreat.fieldA
 split
 ·rw [forceL_eq, aggK_eq]; exact .det _ _
 ·split
  ·rename_i x _
   cases notAgg x <;> first | exact .bad | exact .det _ _
  ·exact .bad
 ·exact .bad
theorem Plain.no_read {s : Step} (h : Plain s) {i : TI} {x : Addr} (e : s = .read i x) : False := by rcases h with h | ⟨v, u, h⟩ <;> rw [h] at e <;> cases e
theorem Plain.no_peek {s : Step} (h : Plain s) {i : TI} {cs : List AV} {x : Nat} (e : s = .peek i cs x) : False := by rcases h with h | ⟨v, u, h⟩ <;> rw [h] at e <;> cases e
theorem Plain.no_cond {s : Step} (h : Plain s) {φ : Prop} {v : AV} {u : Option (Nat × (TypeId × List AV))} (e : s = .cond φ v u) : False := by rcases h with h | ⟨v, u, h⟩ <;> rw [h] at e <;> cases e
theorem Plain.no_call {s : Step} (h : Plain s) {d : Doer} (e : s = .call d) : False := by rcases h with h | ⟨v, u, h⟩ <;> rw [h] at e <;> cases e

inductive Kind (C : Cx) (F : Fr) (H : Hp) (o : Oper) : Step → Prop
 | plain {s : Step} : Plain s → Kind C F H o s
 | read {t : TypeId} {y : Operand} {i : TI} {x : Addr} : o.op = .load t y → C.ti t = some i → ev F y = some (.val (.pointer (some x))) → Kind C F H o (.read i x)
 | peek {t : TypeId} {y : Operand} {i : TI} {b off : Nat} {tb : TypeId} {cs : List AV} : o.op = .load t y → C.ti t = some i → ev F y = some (.elt b off) → H b = some (tb, cs) → Kind C F H o (.peek i cs off)
 | store {t : TypeId} {x y : Operand} {φ : Prop} {v : AV} {u : Option (Nat × (TypeId × List AV))} : o.op = .store t x y → Kind C F H o (.cond φ v u)
 | index {t : TypeId} {x y : Operand} {φ : Prop} {v : AV} : o.op = .indexAddr t x y → Kind C F H o (.cond φ v none)
 | slice {t : TypeId} {x : Operand} {lo hi : Option Operand} {φ : Prop} {v : AV} : o.op = .slice t x lo hi none → Kind C F H o (.cond φ v none)
 | make {t : TypeId} {l c : Operand} {φ : Prop} {v : AV} {d : Nat} {q : TypeId × List AV} : o.op = .makeSlice t l c → o.dst = some d → H d = none → Kind C F H o (.cond φ v (some (d, q)))
 | fn {c : Call} {f : Operand} {g : FuncId} {first l cap : List AV} : o.op = .call c → c.callee = .value f → evf F f = some (g, first, cap) → eva F c.args.toList = some l → Kind C F H o (.call (.fn g (first ++ (l ++ cap))))
 | raw {vs : List AV} : eva F o.op.operands.toList = some vs → ((∃ t n ps, o.op = .buildSlice t n ps ∧ C.SU t = true) ∨ ∀ su l, 3 ≤ memClass su l o) → Kind C F H o (.call (.op o vs))
theorem Kind.bad : Kind C F H o .bad := .plain .bad
theorem Kind.det (v : AV) (u : Option (Nat × (TypeId × List AV))) : Kind C F H o (.det v u) := .plain (.det v u)
theorem Kind.rawA (h : (∃ t n ps, o.op = .buildSlice t n ps ∧ C.SU t = true) ∨ ∀ su l, 3 ≤ memClass su l o) : Kind C F H o (Proofs.YtofdiijioejljaaGreat.rawA F o) := by
 unfold Proofs.YtofdiijioejljaaGreat.rawA
 split
 ·rename_i vs hv; exact .raw hv h
 ·exact .bad
theorem act_kind : Kind C F H o (act C F H o) := by
 unfold act
 cases hop : o.op
 case load t y =>
  simp only
  split
  ·split
   ·exact .plain (.loadA _ _ _)
   ·exact .bad
  ·rename_i b off i hx hi
   split
   ·rename_i tb cs hb
    exact .peek hop hi hx hb
   ·exact .bad
  ·rename_i x i hx hi
   exact .read hop hi hx
  ·exact .bad
 case indexAddr t x ix =>
  simp only
  split
  ·split
   ·exact .index hop
   ·exact .bad
  ·split
   ·exact .index hop
   ·exact .bad
  ·exact .bad
 case store t x y =>
  simp only
  split
  ·split
   ·exact .plain (.storeA _ _ _ _ _ _)
   ·exact .bad
  ·split
   ·rename_i tb cs hb
    unfold pokeA
    generalize (_ && _) = q
    cases q
    ·exact .bad
    ·exact .store hop
   ·exact .bad
  ·exact .bad
 case slice t x lo hi mx =>
  cases mx with
  | some m => exact .rawA (.inr fun su l => by unfold memClass; rw [hop]; exact Nat.le_of_ble_eq_true rfl)
  | none =>
   simp only
   split
   ·split
    ·exact .slice hop
    ·exact .bad
   ·split
    ·exact .slice hop
    ·exact .bad
   ·exact .bad
 case makeSlice t l c =>
  simp only
  split
  ·rename_i d i k n k' m hdst hi hl hc
   split
   ·split
    ·rename_i ie hie h0
     generalize (_ && _) = q
     cases q
     ·exact .bad
     ·exact .make hop hdst h0
    ·exact .bad
   ·exact .bad
  ·exact .bad
 case call c =>
  simp only
  split
  ·split
   ·split
    ·split <;> first | exact .det _ _ | exact .bad
    ·split <;> first | exact .det _ _ | exact .bad
    ·exact .bad
   ·exact .bad
  ·split <;> first | exact .det _ _ | exact .bad
  ·split <;> first | exact .det _ _ | exact .bad
  ·rename_i f hcl
   split
   ·rename_i g first cap l hf hl
    rw [forceL_eq]
    exact .fn hop hcl hf hl
   ·exact .bad
  ·rename_i h1 h2 h3 h4
   refine .rawA (.inr fun su l => ?_)
   unfold memClass
   rw [hop]
   simp only
   split
   ·rename_i e; exact absurd e h1
   ·rename_i e; exact absurd e h2
   ·rename_i e; exact absurd e h3
   ·exact Nat.le_refl _
   ·rename_i e; exact absurd e (h4 _)
   ·omega
 case move => exact .plain (.det1 _)
 case assign => exact .plain (.det1 _)
 case pick => simp only; split <;> first | exact .plain (.det1 _) | exact .bad
 case unOp op _ _ =>
  cases op <;> simp only <;> first
   | exact .rawA (.inr fun su l => by unfold memClass; rw [hop]; exact Nat.le_of_ble_eq_true rfl)
   | (split <;> first | exact .det _ _ | exact .bad)
 case binOp => simp only; split <;> first | exact .plain (.det2 _) | exact .bad | (split <;> first | exact .plain (.det2 _) | exact .bad)
 case convert => simp only; split <;> first | exact .bad | (split <;> first | exact .det _ _ | exact .bad)
 case extract =>
  simp only
  split
  ·exact .plain (.det2 _)
  ·split
   ·rename_i x _
    cases notTup x <;> first | exact .bad | exact .det _ _
   ·exact .bad
  ·exact .bad
 case field => simp only; split <;> first | exact .plain (.fieldA _ _ _) | exact .bad
 case nilCheck => simp only; split <;> first | exact .bad | exact .det _ _
 case fieldAddr => simp only; split <;> first | exact .bad | (split <;> first | exact .bad | exact .det _ _)
 case build => simp only; split <;> first | exact .bad | (split <;> first | exact .bad | (rw [forceL_eq, aggK_eq]; exact .det _ _))
 case alloc => simp only; split <;> first | exact .bad | exact .plain (.makeA _ _ _ _ _)
 case box => simp only; split <;> first | exact .bad | exact .plain (.makeA _ _ _ _ _)
 case makeFunc fn _ _ =>
  cases fn <;> simp only <;> first
   | exact .rawA (.inr fun su l => by unfold memClass; rw [hop]; exact Nat.le_of_ble_eq_true rfl)
   | (split <;> first | exact .det _ _ | exact .bad | (split <;> first | exact .det _ _ | exact .bad))
 case buildSlice t n ps =>
  simp only
  cases hsu : C.SU t
  ·rw [cond_false]
   split
   ·split
    ·split
     ·cases (Nat.beq _ _ && Nat.ble _ _)
      ·exact .bad
      ·exact .plain (.makeR _ _ _ _ _ _)
     ·exact .bad
    ·exact .bad
   ·exact .bad
  ·exact .rawA (.inl ⟨t, n, ps, hop, hsu⟩)
 all_goals exact .rawA (.inr fun su l => by unfold memClass; rw [hop]; exact Nat.le_of_ble_eq_true rfl)
theorem act_read {i : TI} {x : Addr} (h : act C F H o = .read i x) : ∃ t y, o.op = .load t y ∧ C.ti t = some i ∧ ev F y = some (.val (.pointer (some x))) := by
 have k := act_kind (C := C) (F := F) (H := H) (o := o)
 rw [h] at k
 cases k with
 | plain p => exact (p.no_read rfl).elim
 | read h1 h2 h3 => exact ⟨_, _, h1, h2, h3⟩
theorem act_peek {i : TI} {cs : List AV} {off : Nat} (h : act C F H o = .peek i cs off) : ∃ t y b tb, o.op = .load t y ∧ C.ti t = some i ∧ ev F y = some (.elt b off) ∧ H b = some (tb, cs) := by
 have k := act_kind (C := C) (F := F) (H := H) (o := o)
 rw [h] at k
 cases k with
 | plain p => exact (p.no_peek rfl).elim
 | peek h1 h2 h3 h4 => exact ⟨_, _, _, _, h1, h2, h3, h4⟩
theorem act_call {d : Doer} (h : act C F H o = .call d) : (∃ c f g first l cap, o.op = .call c ∧ c.callee = .value f ∧ evf F f = some (g, first, cap) ∧ eva F c.args.toList = some l ∧ d = .fn g (first ++ (l ++ cap))) ∨
  (∃ vs, eva F o.op.operands.toList = some vs ∧ d = .op o vs ∧ ((∃ t n ps, o.op = .buildSlice t n ps ∧ C.SU t = true) ∨ ∀ su l, 3 ≤ memClass su l o)) := by
 have k := act_kind (C := C) (F := F) (H := H) (o := o)
 rw [h] at k
 cases k with
 | plain p => exact (p.no_call rfl).elim
 | fn h1 h2 h3 h4 => exact .inl ⟨_, _, _, _, _, _, h1, h2, h3, h4, rfl⟩
 | raw h1 h2 => exact .inr ⟨_, h1, rfl, h2⟩

theorem zerosL_leaf (β : Nat → Nat) (z : List Value) : ∀ n, (zerosL n (z.map .val)).map (AV.leaf β) = (List.range (n * z.length)).map fun i => z.getD (i % z.length) undef
 | 0 => by simp [zerosL]
 | n + 1 => by
  rw [zerosL, List.map_append, leaf_vals, zerosL_leaf β z n]
  rw [Nat.succ_mul, Nat.add_comm, List.range_add, List.map_append, List.map_map]
  congr 1
  ·apply List.ext_getElem
   ·simp
   ·intro i h1 h2
    simp only [List.getElem_map, List.getElem_range]
    rw [Nat.mod_eq_of_lt h1, List.getD_eq_getElem?_getD, List.getElem?_eq_getElem h1]
    rfl
  ·apply List.map_congr_left
   intro i _
   simp
theorem zerosL_ok {z : List AV} (h : z.all okLeaf = true) : ∀ n, (zerosL n z).all okLeaf = true
 | 0 => rfl
 | n + 1 => by rw [zerosL, List.all_append, h, zerosL_ok h n]; rfl
theorem zerosL_ids {z : List AV} (h : lidsOf z = []) : ∀ n, lidsOf (zerosL n z) = []
 | 0 => rfl
 | n + 1 => by rw [zerosL, lidsOf_append, h, zerosL_ids h n]; rfl
theorem vals_ok {z : List Value} (h : z.all okCell = true) : (z.map AV.val).all okLeaf = true := List.all_eq_true.2 fun x hx => by
 obtain ⟨y, hy, rfl⟩ := List.mem_map.1 hx
 exact List.all_eq_true.1 h y hy
theorem evo_run (hr : Rel C β F H a w) {x : Option Operand} {k : Option Int} (h : evo F x = some k) : (k = none ∧ x.map a.eval = none) ∨ ∃ kd n, k = some n ∧ x.map a.eval = some (.int kd n) := by
 cases x with
 | none => cases h; exact .inl ⟨rfl, rfl⟩
 | some y =>
  unfold evo at h
  simp only at h
  split at h
  ·rename_i kd n hn
   cases h
   exact .inr ⟨kd, n, rfl, by rw [Option.map_some, hr.evv hn]⟩
  ·cases h
theorem slice_run {P : Program} {t e : TypeId} {sz : Nat} (hu : P.underlying t = some (.slice e)) (hsz : ∀ w, (sizeOf e).run P w = .ok sz w) {p : Option Addr} {n c : Nat} {lo hi : Option Value} {l h : Option Int}
  (hl : (l = none ∧ lo = none) ∨ ∃ kd k, l = some k ∧ lo = some (.int kd k)) (hh : (h = none ∧ hi = none) ∨ ∃ kd k, h = some k ∧ hi = some (.int kd k))
  (h0 : 0 ≤ l.getD 0) (h1 : l.getD 0 ≤ h.getD (n : Int)) (h2 : h.getD (n : Int) ≤ (c : Int)) (w : World) :
  (Instr.sliceAt t (.slice p n c) lo hi none).run P w = .ok (.slice (if c = (l.getD 0).toNat then p else p.map (·.add ((l.getD 0).toNat * sz))) ((h.getD (n : Int)).toNat - (l.getD 0).toNat) (c - (l.getD 0).toNat)) w := by
 have hb : (Instr.sliceBounds true n c lo hi none).run P w = .ok ((l.getD 0).toNat, (h.getD (n : Int)).toNat, c) w := by
  unfold Instr.sliceBounds
  rcases hh with ⟨rfl, rfl⟩ | ⟨kd, k, rfl, rfl⟩ <;> rcases hl with ⟨rfl, rfl⟩ | ⟨kl, j, rfl, rfl⟩
  ·simp
  ·simp only [Option.getD_some, Option.getD_none] at h0 h1 h2 ⊢
   simp [run_sliceBound w kl j n .sliceB h0 h1]
  ·simp only [Option.getD_some, Option.getD_none] at h0 h1 h2 ⊢
   simp [run_sliceBound w kd k c .sliceAcap (by omega) h2]
  ·simp only [Option.getD_some] at h0 h1 h2 ⊢
   have : (j : Int) ≤ (k.toNat : Int) := by omega
   simp [run_sliceBound w kd k c .sliceAcap (by omega) h2, run_sliceBound w kl j k.toNat .sliceB h0 this]
 have h3 : (Instr.slice t (.slice p n c) lo hi none).run P w = .ok (.slice (if c = (l.getD 0).toNat then p else p.map (·.add ((l.getD 0).toNat * sz))) ((h.getD (n : Int)).toNat - (l.getD 0).toNat) (c - (l.getD 0).toNat)) w := by
  unfold Instr.slice
  simp only [Sem.run_bind, run_underlying hu, Result.andThen_ok, hb, hsz, Sem.run_pure]
 unfold Instr.sliceAt
 simp only [Sem.run_bind, run_underlying hu, Result.andThen_ok]
 exact h3
theorem act_cond (hC : C.Ok) {o : Oper} {φ : Prop} {v : AV} {u : Option (Nat × (TypeId × List AV))} (h : act C F H o = .cond φ v u) (hφ : φ) (hd : dstOk C.N o.dst = true) (hr : Rel C β F H a w) : Runs C F H o a w v u := by
 have hkind : (∃ t x y, o.op = .store t x y) ∨ (∃ t x y, o.op = .indexAddr t x y) ∨ (∃ t x lo hi, o.op = .slice t x lo hi none) ∨ ∃ t l c, o.op = .makeSlice t l c := by
  have k := act_kind (C := C) (F := F) (H := H) (o := o)
  rw [h] at k
  cases k with
  | plain p => exact (p.no_cond rfl).elim
  | store e => exact .inl ⟨_, _, _, e⟩
  | index e => exact .inr (.inl ⟨_, _, _, e⟩)
  | slice e => exact .inr (.inr (.inl ⟨_, _, _, _, e⟩))
  | make e => exact .inr (.inr (.inr ⟨_, _, _, e⟩))
 unfold act at h
 rcases hkind with ⟨t, x, y, hop⟩ | ⟨t, x, y, hop⟩ | ⟨t, x, lo, hi, hop⟩ | ⟨t, l, c, hop⟩ <;> rw [hop] at h <;> simp only at h
 ·
  split at h
  ·split at h
   ·unfold storeA at h
    revert h
    generalize (_ && _) = q
    cases q <;> intro h
    ·cases h
    ·rw [cond_true, forceL_eq] at h; cases h
   ·cases h
  ·rename_i b off y' i hx hv hi
   split at h
   ·rename_i tb cs hb
    obtain ⟨rfl, h2, h3, rfl, rfl⟩ := pokeA_inv h
    have he : a.eval x = .pointer (some ⟨β b, off, none⟩) := hr.ev hx
    have hy := hr.ev hv
    obtain ⟨k1, k2⟩ := hr.stored hb (by rw [h2]; exact hφ) h3 (fun j hj => hr.evClosed hv j (cellsOf_ids (okTup h3) hj))
    rw [h2] at k2
    refine ⟨β, _, k1, k2.put hd (fun _ hi => by cases hi), .inr ⟨?_, rfl⟩⟩
    have := setCells_run hC hr hi hb hφ h2 h3
    simp [execOp, hop, he, hy, this]
   ·cases h
  ·cases h
 ·
  split at h
  ·rename_i b off n c kd k i hx hix hi
   split at h
   ·rename_i e sz hz
    cases h
    obtain ⟨he, hsz⟩ := (hC t i hi).isSlice e sz hz
    have hxe : a.eval x = .slice (some ⟨b, off, none⟩) n c := hr.ev hx
    refine Runs.val hr hd ?_
    simp [execOp, hop, hxe, hr.evv hix, Instr.indexAt, asIntOf, run_underlying he, hsz, hφ, Addr.add_mid]
   ·cases h
  ·rename_i b off n c kd k i hx hix hi
   split at h
   ·rename_i e sz hz
    cases h
    obtain ⟨he, hsz⟩ := (hC t i hi).isSlice e sz hz
    have hxe : a.eval x = .slice (some ⟨β b, off, none⟩) n c := hr.ev hx
    refine Runs.pure hr hd (fun j hj => hr.evClosed hx j (by simpa [AV.ids] using hj)) ?_
    simp [execOp, hop, hxe, hr.evv hix, Instr.indexAt, asIntOf, run_underlying he, hsz, hφ, Addr.add_mid, AV.conc]
   ·cases h
  ·cases h
 ·
  split at h
  ·rename_i b off n c i l hh hx hi hl hhh
   split at h
   ·rename_i e sz hz
    cases h
    obtain ⟨he, hsz⟩ := (hC t i hi).isSlice e sz hz
    have hxe : a.eval x = .slice (some ⟨β b, off, none⟩) n c := hr.ev hx
    refine Runs.pure hr hd (fun j hj => hr.evClosed hx j (by simpa [AV.ids] using hj)) ?_
    have := slice_run (P := C.P) he hsz (p := some ⟨β b, off, none⟩) (evo_run hr hl) (evo_run hr hhh) hφ.1 hφ.2.1 hφ.2.2.1 w
    have e4 : (if c = (l.getD 0).toNat then some (⟨β b, off, none⟩ : Addr) else (some (⟨β b, off, none⟩ : Addr)).map (·.add ((l.getD 0).toNat * sz))) = some ⟨β b, if c = (l.getD 0).toNat then off else off + (l.getD 0).toNat * sz, none⟩ := by
     split
     ·rfl
     ·rw [Option.map_some, Addr.add_mid]
    rw [e4] at this
    simp [execOp, hop, hxe, this, AV.conc]
   ·cases h
  ·rename_i p n c i l hh hx hi hl hhh
   split at h
   ·rename_i e sz hz
    cases h
    obtain ⟨he, hsz⟩ := (hC t i hi).isSlice e sz hz
    have hxe : a.eval x = .slice p n c := hr.ev hx
    have := slice_run (P := C.P) he hsz (p := p) (evo_run hr hl) (evo_run hr hhh) hφ.1 hφ.2.1 hφ.2.2.1 w
    exact Runs.val hr hd (by simp [execOp, hop, hxe, this])
   ·cases h
  ·cases h
 ·
  split at h
  ·rename_i d i k n k' m hdst hi hl hc
   split at h
   ·rename_i e sz hz
    split at h
    ·rename_i ie hie h0
     cases hq : !C.K.fz e && ie.zero.cells.toList.all okCell with
     | false => rw [hq] at h; cases h
     | true =>
      rw [hq] at h
      cases h
      rw [Bool.and_eq_true] at hq
      obtain ⟨rfl, hn, hb⟩ := hφ
      obtain ⟨hu, hsz⟩ := (hC t i hi).isSlice e sz hz
      rw [hdst] at hd
      have hlt : d < C.N := by simpa [dstOk, Nat.blt_eq] using hd
      have hne : C.K.fz e = false := by simpa using hq.1
      have hie' := hC e ie hie
      have hinf := hie'.size
      cases hti : C.P.info? e with
      | none => rw [hti] at hinf; simp at hinf
      | some ti =>
       rw [hti] at hinf
       simp only [Option.map_some, Option.some.injEq] at hinf
       obtain ⟨n', rfl⟩ : ∃ n' : Nat, n = (n' : Int) := ⟨n.toNat, by omega⟩
       have hbt : ti.bytes ≤ 24 * ie.size := Nat.le_of_ble_eq_true (by have := hie'.bytes; rw [hti] at this; simpa using this)
       have hps := hie'.pos
       have hle : n' ≤ 140737488355328 := by
        have : (n' : Int) * 24 ≤ n' * (24 * (ie.size : Int)) := Int.mul_le_mul_of_nonneg_left (by omega) (by omega)
        omega
       have hby : (ti.bytes : Int) * (n' : Int) ≤ 281474976710656 := by
        have : (ti.bytes : Int) * (n' : Int) ≤ (24 * (ie.size : Int)) * n' := Int.mul_le_mul_of_nonneg_right (by omega) (by omega)
        rw [Int.mul_comm] at hb
        omega
       have hrun := run_make (P := C.P) w t e ti ie.zero hu hti (by have := hie'.izero; rw [hti] at this; simpa using this) k k' (n' : Int) (n' : Int) (by omega) (Int.le_refl _) hby (by omega)
       have hcs : madeCells ie.zero.cells ((n' : Int).toNat * ti.size) = ((zerosL (n' : Int).toNat (ie.zero.cells.toList.map .val)).map (AV.leaf β)).toArray := by
        rw [zerosL_leaf, hinf, ← hie'.zsize]
        have hzp : 0 < ie.zero.cells.size := by rw [hie'.zsize]; exact hps
        apply Array.toList_inj.1
        show ((Array.range _).map _).toList = (((List.range _).map _).toArray).toList
        rw [Array.toList_map, Array.toList_range]
        rw [Array.length_toList]
        refine List.map_congr_left fun q _ => ?_
        have hlt := Nat.mod_lt q hzp
        rw [List.getD_eq_getElem?_getD, Array.getElem?_toList, Array.getElem?_eq_getElem hlt]
        simp [hlt]
       obtain ⟨β', he, hr'⟩ := hr.make hlt h0 hne (zerosL_ok (vals_ok hq.2) (n' : Int).toNat) (by rw [zerosL_ids (lidsOf_vals _)]; intro j hj; cases hj)
       refine ⟨β', _, KpS.alloc _ _, hr'.put (by rw [hdst]; exact hd) (put_box rfl), .inl ?_⟩
       have he' : (AV.row d 0 (n' : Int).toNat (n' : Int).toNat).conc β' = .slice (some ⟨w.heap.size, 0, none⟩) (n' : Int).toNat (n' : Int).toNat := by show Value.slice (some ⟨β' d, 0, none⟩) _ _ = _; rw [he]
       rw [he']
       rw [hcs] at hrun
       simp only [execOp, hop, hr.evv hl, hr.evv hc, Sem.run_bind, hrun, Result.andThen_ok, Sem.run_pure]
    ·cases h
   ·cases h
  ·cases h

theorem Rel.evf (hr : Rel C β F H a w) {x : Operand} {g : FuncId} {first cap : List AV} (h : Proofs.YtofdiijioejljaaGreat.evf F x = some (g, first, cap)) : a.eval x = .func (.func g) (first.map (AV.conc β)).toArray (cap.map (AV.conc β)).toArray := by
 unfold Proofs.YtofdiijioejljaaGreat.evf at h
 split at h
 ·rename_i g' f c hx
  cases h
  have := hr.ev hx
  rw [conc_vals, conc_vals]
  exact this
 ·rename_i g' f c hx
  cases h
  have := hr.ev hx
  rw [conc_vals, List.map_map]
  exact this
 ·cases h
theorem Closed.evf (hc : Closed F H) {x : Operand} {g : FuncId} {first cap : List AV} (h : Proofs.YtofdiijioejljaaGreat.evf F x = some (g, first, cap)) : (∀ v ∈ first, ∀ i ∈ v.ids, H i ≠ none) ∧ ∀ v ∈ cap, ∀ i ∈ v.ids, H i ≠ none := by
 have hm : ∀ l : List Value, ∀ v ∈ l.map AV.val, ∀ i ∈ v.ids, H i ≠ none := fun l v hv i hi => by
  obtain ⟨u, _, rfl⟩ := List.mem_map.1 hv
  cases hi
 unfold Proofs.YtofdiijioejljaaGreat.evf at h
 split at h
 ·cases h; exact ⟨hm _, hm _⟩
 ·rename_i g' f c hx
  cases h
  refine ⟨hm _, fun v hv i hi => ?_⟩
  obtain ⟨p, hp, rfl⟩ := List.mem_map.1 hv
  have := hc.ev hx i
  refine this ?_
  rw [List.mem_singleton.1 hi]
  exact List.mem_map.2 ⟨p, hp, rfl⟩
 ·cases h

theorem Hp.updAll_at : ∀ {ups : List (Nat × (TypeId × List AV))} {H : Hp} {i : Nat}, (ups.map (·.1)).Nodup → (i ∉ ups.map (·.1) → (H.updAll ups) i = H i) ∧ ∀ c, (i, c) ∈ ups → (H.updAll ups) i = some c
 | [], H, i, _ => ⟨fun _ => rfl, fun c h => by cases h⟩
 | x :: r, H, i, hn => by
  rw [List.map_cons, List.nodup_cons] at hn
  obtain ⟨h1, h2⟩ := Hp.updAll_at (ups := r) (H := H.put x.1 x.2) (i := i) hn.2
  refine ⟨fun hi => ?_, fun c hc => ?_⟩
  ·rw [List.map_cons, List.mem_cons, not_or] at hi
   show ((H.put x.1 x.2).updAll r) i = _
   rw [h1 hi.2, Hp.put_at, if_neg hi.1]
  ·rcases List.mem_cons.1 hc with e | e
   ·show ((H.put x.1 x.2).updAll r) i = _
    rw [← e] at hn ⊢
    rw [(Hp.updAll_at (ups := r) (H := H.put i c) (i := i) hn.2).1 hn.1, Hp.put_at, if_pos rfl]
   ·exact h2 c e
theorem Hp.updAll_cases {ups : List (Nat × (TypeId × List AV))} (hn : (ups.map (·.1)).Nodup) (i : Nat) : (∃ c, (i, c) ∈ ups ∧ (H.updAll ups) i = some c) ∨ (i ∉ ups.map (·.1) ∧ (H.updAll ups) i = H i) := by
 by_cases hm : i ∈ ups.map (·.1)
 ·obtain ⟨x, hx, rfl⟩ := List.mem_map.1 hm
  exact .inl ⟨x.2, hx, (Hp.updAll_at hn).2 x.2 hx⟩
 ·exact .inr ⟨hm, (Hp.updAll_at hn).1 hm⟩
theorem updAll_mem {ups : List (Nat × (TypeId × List AV))} (h : (ups.map (·.1)).Nodup) {i : Nat} (hi : i ∈ ups.map (·.1)) : (H.updAll ups) i ≠ none := by
 obtain ⟨x, hx, rfl⟩ := List.mem_map.1 hi
 rw [(Hp.updAll_at (H := H) (i := x.1) h).2 x.2 hx]; simp
theorem updAll_some {ups : List (Nat × (TypeId × List AV))} (h : (ups.map (·.1)).Nodup) {i : Nat} (hi : H i ≠ none) : (H.updAll ups) i ≠ none := by
 rcases Hp.updAll_cases (H := H) h i with ⟨c, _, e⟩ | ⟨_, e⟩
 ·rw [e]; simp
 ·rw [e]; exact hi

def RhoOk (ρ : AV → Value) (β : Nat → Nat) : Prop := ∀ x, okLeaf x = true → ρ x = x.leaf β
def rho (β : Nat → Nat) (x : AV) : Value := if okLeaf x = true then x.leaf β else .bool false
theorem rho_ok (β : Nat → Nat) : RhoOk (rho β) β := fun x hx => if_pos hx
theorem rho_cell (β : Nat → Nat) (x : AV) : okCell (rho β x) = true := by
 unfold rho
 split
 ·rename_i h; exact okLeaf_cell h
 ·rfl
theorem lids_ok {x : AV} {i : Nat} (h : i ∈ x.lids) : okLeaf x = true ∨ False := by
 cases x <;> first | exact .inl rfl | cases h
theorem any_lids {x : AV} {i : Nat} : x.lids.any (Nat.beq i) = true ↔ i ∈ x.lids := by
 rw [List.any_eq_true]
 exact ⟨fun ⟨y, hy, e⟩ => (Nat.eq_of_beq_eq_true e) ▸ hy, fun h => ⟨i, h, by simp⟩⟩
theorem fgl_leaf {ρ : AV → Value} (hρ : RhoOk ρ β) (i : Nat) (x : AV) : (x.fgl i ρ).leaf β = x.leaf β := by
 unfold AV.fgl
 cases hb : x.lids.any (Nat.beq i) with
 | false => rfl
 | true =>
  have := (lids_ok (any_lids.1 hb)).resolve_right id
  exact hρ x this
theorem fgl_lids {ρ : AV → Value} {i j : Nat} {x : AV} (h : j ∈ (x.fgl i ρ).lids) : j ∈ x.lids ∧ i ∉ x.lids := by
 unfold AV.fgl at h
 cases hb : x.lids.any (Nat.beq i) with
 | false =>
  rw [hb] at h
  exact ⟨h, fun e => by rw [any_lids.2 e] at hb; cases hb⟩
 | true => rw [hb] at h; cases h
theorem fgl_ok {ρ : AV → Value} (hρ : ∀ x, okCell (ρ x) = true) {i : Nat} {x : AV} (h : okLeaf x = true) : okLeaf (x.fgl i ρ) = true := by
 unfold AV.fgl
 cases x.lids.any (Nat.beq i) with
 | false => exact h
 | true => exact hρ x
theorem fgls_leaf {ρ : AV → Value} (hρ : RhoOk ρ β) (i : Nat) (l : List AV) : (l.map (AV.fgl i ρ)).map (AV.leaf β) = l.map (AV.leaf β) := by
 rw [List.map_map]
 exact List.map_congr_left fun x _ => fgl_leaf hρ i x
theorem fgls_lids {ρ : AV → Value} {i j : Nat} {l : List AV} (h : j ∈ lidsOf (l.map (AV.fgl i ρ))) : j ∈ lidsOf l ∧ j ≠ i := by
 obtain ⟨y, hy, hj⟩ := mem_lidsOf.1 h
 obtain ⟨x, hx, rfl⟩ := List.mem_map.1 hy
 obtain ⟨h1, h2⟩ := fgl_lids hj
 exact ⟨mem_lidsOf.2 ⟨x, hx, h1⟩, fun e => h2 (e ▸ h1)⟩
theorem fgl_ids {ρ : AV → Value} {i j : Nat} {x : AV} (hx : notAgg x = true) (h : j ∈ (x.fgl i ρ).ids) : j ∈ x.ids ∧ j ≠ i := by
 have e : (x.fgl i ρ).ids = (x.fgl i ρ).lids := by
  unfold AV.fgl
  cases x.lids.any (Nat.beq i)
  ·exact (notAgg_ids hx).symm
  ·rfl
 rw [e] at h
 obtain ⟨h1, h2⟩ := fgl_lids h
 exact ⟨notAgg_ids hx ▸ h1, fun e => h2 (e ▸ h1)⟩
theorem fgl_conc {ρ : AV → Value} (hρ : RhoOk ρ β) (i : Nat) {x : AV} (hx : notAgg x = true) : (x.fgl i ρ).conc β = x.conc β := by
 rw [← notAgg_conc hx, ← fgl_leaf hρ i x]
 symm
 refine notAgg_conc ?_
 unfold AV.fgl
 cases x.lids.any (Nat.beq i) <;> first | exact hx | rfl
theorem fgl_notTup {ρ : AV → Value} {i : Nat} {x : AV} (hx : notAgg x = true) : notTup (x.fgl i ρ) = true := by
 unfold AV.fgl
 cases x.lids.any (Nat.beq i) with
 | false => cases x <;> first | rfl | cases hx
 | true => rfl
theorem fg1_conc {ρ : AV → Value} (hρ : RhoOk ρ β) (i : Nat) (x : AV) : (x.fg1 i ρ).conc1 β = x.conc1 β := by
 have key : ∀ y : AV, notAgg y = true → (y.fgl i ρ).conc1 β = y.conc1 β := fun y hy => by
  rw [notTup_conc (fgl_notTup hy), notTup_conc (by cases y <;> first | rfl | cases hy), fgl_conc hρ i hy]
 cases x with
 | agg l => show Value.agg ((l.map _).map _).toArray = _; rw [fgls_leaf hρ]; rfl
 | tup l => rfl
 | val v => rfl
 | box j o => exact key _ rfl
 | elt j o => exact key _ rfl
 | row j o n c => exact key _ rfl
 | fn g f c => exact key _ rfl
theorem fg_conc {ρ : AV → Value} (hρ : RhoOk ρ β) (i : Nat) (x : AV) : (x.fg i ρ).conc β = x.conc β := by
 cases x with
 | agg l => show Value.agg ((l.map _).map _).toArray = _; rw [fgls_leaf hρ]; rfl
 | tup l =>
  show Value.tuple ((l.map _).map _).toArray = Value.tuple (l.map _).toArray
  rw [List.map_map]
  congr 2
  exact List.map_congr_left fun y _ => fg1_conc hρ i y
 | val v => rfl
 | box j o => exact fgl_conc hρ i rfl
 | elt j o => exact fgl_conc hρ i rfl
 | row j o n c => exact fgl_conc hρ i rfl
 | fn g f c => exact fgl_conc hρ i rfl
theorem fg1_ids {ρ : AV → Value} {i j : Nat} {x : AV} (h : j ∈ (x.fg1 i ρ).ids1) : j ∈ x.ids1 ∧ j ≠ i := by
 have key : ∀ y : AV, notAgg y = true → j ∈ (y.fgl i ρ).ids1 → j ∈ y.ids1 ∧ j ≠ i := fun y hy h => by
  have e1 : (y.fgl i ρ).ids1 = (y.fgl i ρ).ids := notTup_ids (by unfold AV.fgl; cases y.lids.any (Nat.beq i) <;> first | rfl | (cases y <;> first | rfl | cases hy))
  have e2 : y.ids1 = y.ids := notTup_ids (by cases y <;> first | rfl | cases hy)
  rw [e2]
  exact fgl_ids hy (e1 ▸ h)
 cases x with
 | agg l => exact fgls_lids h
 | tup l => cases h
 | val v => cases h
 | box j o => exact key _ rfl h
 | elt j o => exact key _ rfl h
 | row j o n c => exact key _ rfl h
 | fn g f c => exact key _ rfl h
theorem fg_ids {ρ : AV → Value} {i j : Nat} {x : AV} (h : j ∈ (x.fg i ρ).ids) : j ∈ x.ids ∧ j ≠ i := by
 cases x with
 | agg l => exact fgls_lids h
 | tup l =>
  obtain ⟨y, hy, hj⟩ := mem_ids1Of.1 h
  obtain ⟨z, hz, rfl⟩ := List.mem_map.1 hy
  obtain ⟨h1, h2⟩ := fg1_ids hj
  exact ⟨mem_ids1Of.2 ⟨z, hz, h1⟩, h2⟩
 | val v => cases h
 | box j o => exact fgl_ids rfl h
 | elt j o => exact fgl_ids rfl h
 | row j o n c => exact fgl_ids rfl h
 | fn g f c => exact fgl_ids rfl h
theorem Hp.forget_inv {del : Option Nat} {ρ : AV → Value} {i : Nat} {t : TypeId} {cs : List AV} (h : (H.forget del ρ) i = some (t, cs)) : del ≠ some i ∧ ∃ cs0, H i = some (t, cs0) ∧ (RhoOk ρ β → cs.map (AV.leaf β) = cs0.map (AV.leaf β)) ∧
  ((∀ x, okCell (ρ x) = true) → cs0.all okLeaf = true → cs.all okLeaf = true) ∧ ∀ j ∈ lidsOf cs, j ∈ lidsOf cs0 ∧ del ≠ some j := by
 cases del with
 | none => exact ⟨by simp, cs, h, fun _ => rfl, fun _ h => h, fun j hj => ⟨hj, by simp⟩⟩
 | some d =>
  unfold Hp.forget at h
  simp only at h
  cases hb : Nat.beq i d with
  | true => rw [hb] at h; cases h
  | false =>
   rw [hb, cond_false] at h
   split at h
   ·rename_i t' cs0 h0
    cases h
    refine ⟨fun e => ?_, cs0, h0, fun hρ => fgls_leaf hρ d cs0, fun hc h1 => List.all_eq_true.2 fun x hx => ?_, fun j hj => ?_⟩
    ·cases e; rw [Nat.beq_refl] at hb; cases hb
    ·obtain ⟨y, hy, rfl⟩ := List.mem_map.1 hx
     exact fgl_ok hc (List.all_eq_true.1 h1 y hy)
    ·obtain ⟨h1, h2⟩ := fgls_lids hj
     exact ⟨h1, fun e => h2 (by cases e; rfl)⟩
   ·cases h
theorem Hp.forget_some {del : Option Nat} {ρ : AV → Value} {i : Nat} (h : H i ≠ none) (hd : del ≠ some i) : (H.forget del ρ) i ≠ none := by
 cases del with
 | none => exact h
 | some d =>
  unfold Hp.forget
  simp only
  have : Nat.beq i d = false := by rw [← Bool.not_eq_true, Nat.beq_eq]; exact fun e => hd (by rw [e])
  rw [this, cond_false]
  cases hh : H i with
  | none => exact absurd hh h
  | some c => simp
theorem Hp.forget_none {del : Option Nat} {ρ : AV → Value} {i : Nat} (h : H i = none) : (H.forget del ρ) i = none := by
 cases del with
 | none => exact h
 | some d =>
  unfold Hp.forget
  simp only
  cases Nat.beq i d with
  | true => rfl
  | false => rw [cond_false, h]
theorem Fr.forget_inv {del : Option Nat} {ρ : AV → Value} {d : Nat} {v : AV} (h : (F.forget del ρ) d = some v) : ∃ u, F d = some u ∧ (RhoOk ρ β → v.conc β = u.conc β) ∧ ∀ i ∈ v.ids, i ∈ u.ids ∧ del ≠ some i := by
 cases del with
 | none => exact ⟨v, h, fun _ => rfl, fun i hi => ⟨hi, by simp⟩⟩
 | some e =>
  unfold Fr.forget at h
  simp only at h
  split at h
  ·rename_i u hu
   cases h
   refine ⟨u, hu, fun hρ => fg_conc hρ e u, fun i hi => ?_⟩
   obtain ⟨h1, h2⟩ := fg_ids hi
   exact ⟨h1, fun q => h2 (by cases q; rfl)⟩
  ·cases h

theorem Rel.ownAt (hr : Rel C β F H a w) (ids : List Nat) : OwnAt C β H ids w :=
 ⟨fun i _ t cs h => hr.own i t cs h, fun i j _ _ h1 h2 e => hr.apart i j h1 h2 e⟩
theorem ownV_cell {C : Cx} {β : Nat → Nat} {w : World} {i : Nat} {t : TypeId} {cs : List AV} (h : OwnV C β w i t cs) {p : Addr} {x : Int} (hp : p.block = β i) (hx : w.cell? p = some (.int .u32 x)) : False := by
 simp only [World.cell?, hp, show w.heap[β i]? = _ from h.cls] at hx
 simp at hx
 have hm : Value.int .u32 x ∈ cs.map (AV.leaf β) := List.mem_of_getElem? (i := p.off) (by simpa using hx.2)
 have := List.all_eq_true.1 (okLeafs (β := β) h.ok) _ hm
 cases this
theorem ownV_block {C : Cx} {β : Nat → Nat} {w : World} {i : Nat} {t : TypeId} {cs : List AV} (h : OwnV C β w i t cs) {t' : TypeId} {cur : Array Value} (hf : C.K.fz t' = true) (hx : w.heap[β i]? = some (Obj.cells cur t' (0, 0))) : False := by
 have := (show w.heap[_]? = _ from h.cls).symm.trans hx
 simp at this
 rw [← this.2, h.ty] at hf; cases hf
variable {β' : Nat → Nat}
theorem Chg.was {ids : List Nat} {del : Option Nat} {ups : List (Nat × (TypeId × List AV))} (h : Chg C β β' H ids del ups w w') (ho : OwnAt C β H ids w) {b : Nat} (hb : b < w.heap.size) (hx : (∃ x ∈ ups, b = β' x.1) ∨ ∃ i, del = some i ∧ b = β i) : ∃ i t cs, b = β i ∧ OwnV C β w i t cs := by
 have key : ∀ i, Reach H ids i → H i ≠ none → b = β i → ∃ i t cs, b = β i ∧ OwnV C β w i t cs := fun i hi hn e => by
  cases hh : H i with
  | none => exact absurd hh hn
  | some c => exact ⟨i, c.1, c.2, e, ho.own i hi c.1 c.2 hh⟩
 rcases hx with ⟨x, hx, e⟩ | ⟨i, hi, e⟩
 ·rcases h.orig x hx with ⟨h1, h2, h3, h4⟩ | ⟨_, _, h3 | ⟨i, hi, h3⟩⟩
  ·exact key x.1 h3 h1 (e.trans h4)
  ·omega
  ·obtain ⟨g1, g2⟩ := h.gone i hi
   exact key i g1 g2 (e.trans h3)
 ·obtain ⟨g1, g2⟩ := h.gone i hi
  exact key i g1 g2 e
theorem Chg.kp {ids : List Nat} {del : Option Nat} {ups : List (Nat × (TypeId × List AV))} (h : Chg C β β' H ids del ups w w') (ho : OwnAt C β H ids w) : KpS C.K w w' := by
 have key : ∀ b, b < w.heap.size → C.K.S b → w'.heap[b]? = w.heap[b]? ∨ ∃ i t cs, b = β i ∧ OwnV C β w i t cs := fun b hb hs => by
  by_cases hx : (∃ x ∈ ups, b = β' x.1) ∨ ∃ i, del = some i ∧ b = β i
  ·exact .inr (h.was ho hb hx)
  ·exact .inl (h.block b hb (fun x hx' e => hx (.inl ⟨x, hx', e⟩)) (fun i hi e => hx (.inr ⟨i, hi, e⟩)) (.inl hs))
 refine ⟨h.size, fun a x hs hx => ?_, fun t' g cur hf hs hg => ?_, fun g es c hg => ?_⟩
 ·rcases key a.block (World.block_lt_of_cell? w a hx) hs with e | ⟨i, t, cs, h1, h2⟩
  ·rw [World.cell?_of_block (w := w) e]; exact hx
  ·exact (ownV_cell h2 h1 hx).elim
 ·rcases key g (Array.getElem?_eq_some_iff.1 hg).1 hs with e | ⟨i, t, cs, h1, h2⟩
  ·rw [e]; exact hg
  ·exact (ownV_block h2 hf (h1 ▸ hg)).elim
 ·have hlt := (Array.getElem?_eq_some_iff.1 hg).1
  have no : ∀ i t cs, g = β i → OwnV C β w i t cs → False := fun i t cs e o => by
   have := (show w.heap[_]? = _ from o.cls).symm.trans (e ▸ hg)
   simp at this
  refine (h.block g hlt (fun x hx e => ?_) (fun i hi e => ?_) (.inr fun t cur _ e => by rw [hg] at e; cases e)).trans hg
  ·obtain ⟨i, t, cs, e1, e2⟩ := h.was ho hlt (.inl ⟨x, hx, e⟩)
   exact no i t cs e1 e2
  ·obtain ⟨i, t, cs, e1, e2⟩ := h.was ho hlt (.inr ⟨i, hi, e⟩)
   exact no i t cs e1 e2
theorem Chg.old {ids : List Nat} {del : Option Nat} {ups : List (Nat × (TypeId × List AV))} (h : Chg C β β' H ids del ups w w') (ho : OwnAt C β H ids w) (hb : C.Old w) : C.Old w' :=
 C.oldStep _ _ hb C.keep (h.kp ho) ⟨h.os, h.tape, h.output, h.size, fun g hg => by
  have up : ∀ x ∈ ups, g = β' x.1 → w'.heap[g]? = w.heap[g]? ∨ ((∃ i, C.New i g) ∧ ∃ t cs, Cls w' g t (List.toArray cs) ∧ C.K.fz t = false ∧ cs.all okCell = true) ∨ ¬ C.K.S g := fun x hx e => by
   obtain ⟨g1, g2, g3, g4⟩ := h.own x hx
   exact .inr (.inl ⟨⟨x.1, e ▸ g1⟩, x.2.1, _, e ▸ g3, g2, okLeafs g4⟩)
  by_cases h1 : ∃ x ∈ ups, g = β' x.1
  ·obtain ⟨x, hx, e⟩ := h1
   exact up x hx e
  ·by_cases h2 : ∃ i, del = some i ∧ g = β i
   ·obtain ⟨i, hi, e⟩ := h2
    rcases h.left i hi with (e' | ⟨t, cs, e1, e2, e3⟩) | ⟨x, hx, e'⟩
    ·exact .inl (by rw [e]; exact e')
    ·obtain ⟨g1, g2⟩ := h.gone i hi
     cases hh : H i with
     | none => exact absurd hh g2
     | some c => exact .inr (.inl ⟨⟨i, e ▸ (ho.own i g1 c.1 c.2 hh).new⟩, t, cs, e ▸ e1, e2, e3⟩)
    ·exact up x hx (e.trans e'.symm)
   ·by_cases h3 : C.K.S g
    ·exact .inl (h.block g hg (fun x hx e => h1 ⟨x, hx, e⟩) (fun i hi e => h2 ⟨i, hi, e⟩) (.inl h3))
    ·exact .inr (.inr h3)⟩
theorem Chg.same {ids : List Nat} {del : Option Nat} {ups : List (Nat × (TypeId × List AV))} (h : Chg C β β' H ids del ups w w') {j : Nat} (h1 : H j ≠ none) (h2 : del ≠ some j) : β' j = β j := by
 by_cases hm : j ∈ ups.map (·.1)
 ·obtain ⟨x, hx, rfl⟩ := List.mem_map.1 hm
  rcases h.orig x hx with ⟨_, _, _, e⟩ | ⟨e | e, _⟩
  ·exact e
  ·exact absurd e h1
  ·exact absurd e h2
 ·exact h.agree j hm
theorem Chg.hp {ids : List Nat} {del : Option Nat} {ups : List (Nat × (TypeId × List AV))} (h : Chg C β β' H ids del ups w w') (hok : HpOk C H) {ρ : AV → Value} (hρ : ∀ x, okCell (ρ x) = true) : HpOk C ((H.forget del ρ).updAll ups) := by
 refine ⟨fun i t cs hi => ?_, fun i t cs hi j hj => ?_, fun i hi => ?_⟩
 ·rcases Hp.updAll_cases (H := H.forget del ρ) h.once i with ⟨c, hc, e⟩ | ⟨_, e⟩
  ·rw [e] at hi; cases hi
   have := h.own _ hc
   exact ⟨this.ty, this.ok⟩
  ·rw [e] at hi
   obtain ⟨_, cs0, h0, _, h2, _⟩ := Hp.forget_inv (β := β) hi
   obtain ⟨g1, g2⟩ := hok.ok i t cs0 h0
   exact ⟨g1, h2 hρ g2⟩
 ·have key : j ∈ ups.map (·.1) ∨ (H j ≠ none ∧ del ≠ some j) := by
   rcases Hp.updAll_cases (H := H.forget del ρ) h.once i with ⟨c, hc, e⟩ | ⟨_, e⟩
   ·rw [e] at hi; cases hi
    exact h.closed _ hc j hj
   ·rw [e] at hi
    obtain ⟨_, cs0, h0, _, _, h3⟩ := Hp.forget_inv (β := β) hi
    obtain ⟨g1, g2⟩ := h3 j hj
    exact .inr ⟨hok.closed i t cs0 h0 j g1, g2⟩
  rcases key with e | ⟨e1, e2⟩
  ·exact updAll_mem h.once e
  ·exact updAll_some h.once (Hp.forget_some e1 e2)
 ·rcases Hp.updAll_cases (H := H.forget del ρ) h.once i with ⟨c, hc, e⟩ | ⟨_, e⟩
  ·rcases h.orig _ hc with ⟨h1, _⟩ | ⟨_, h2, _⟩
   ·exact absurd (hok.few i hi) h1
   ·simp only at h2; have := C.topN; omega
  ·rw [e, Hp.forget_none (hok.few i hi)]
theorem Rel.changed (hr : Rel C β F H a w) {ids : List Nat} {del : Option Nat} {ups : List (Nat × (TypeId × List AV))} (h : Chg C β β' H ids del ups w w') : Rel C β' (F.forget del (rho β)) ((H.forget del (rho β)).updAll ups) a w' := by
 have ho := hr.ownAt ids
 have lt : ∀ i, H i ≠ none → β i < w.heap.size := fun i hi => by
  cases hh : H i with
  | none => exact absurd hh hi
  | some x => exact (hr.own i x.1 x.2 hh).cls.lt
 have away : ∀ i, H i ≠ none → del ≠ some i → i ∉ ups.map (·.1) → ∀ x ∈ ups, β i ≠ β' x.1 := fun i hi hd hn x hx e => by
  rcases h.orig x hx with ⟨h1, h2, _, h4⟩ | ⟨_, _, h3 | ⟨d, hd', h3⟩⟩
  ·exact hn (by rw [hr.apart i x.1 hi h1 (e.trans h4)]; exact List.mem_map.2 ⟨x, hx, rfl⟩)
  ·have := lt i hi; omega
  ·exact hd (by rw [hr.apart i d hi (h.gone d hd').2 (e.trans h3)]; exact hd')
 have at_ : ∀ i t cs, ((H.forget del (rho β)).updAll ups) i = some (t, cs) → ((i, (t, cs)) ∈ ups) ∨ (i ∉ ups.map (·.1) ∧ del ≠ some i ∧ ∃ cs0, H i = some (t, cs0) ∧ cs.map (AV.leaf β) = cs0.map (AV.leaf β) ∧ cs.all okLeaf = true ∧ ∀ j ∈ lidsOf cs, j ∈ lidsOf cs0 ∧ del ≠ some j) := fun i t cs hi => by
  rcases Hp.updAll_cases (H := H.forget del (rho β)) h.once i with ⟨c, hc, e⟩ | ⟨hn, e⟩
  ·rw [e] at hi; cases hi; exact .inl hc
  ·rw [e] at hi
   obtain ⟨h1, cs0, h0, h2, h3, h4⟩ := Hp.forget_inv (β := β) hi
   exact .inr ⟨hn, h1, cs0, h0, h2 (rho_ok β), h3 (rho_cell β) (hr.own i t cs0 h0).ok, h4⟩
 refine ⟨hr.defers, hr.size, fun d v hv => ?_, fun i t cs hi => ?_, fun i j hi hj e => ?_, fun d v hv i hi => ?_, fun d v hv => ?_, h.hp hr.hp (rho_cell β), h.old ho hr.old⟩
 ·obtain ⟨u, hu, h1, h2⟩ := Fr.forget_inv (β := β) hv
  rw [hr.tmp d u hu, ← h1 (rho_ok β)]
  exact (AV.conc_agree fun i hi => h.same (hr.closed d u hu i (h2 i hi).1) (h2 i hi).2).symm
 ·rcases at_ i t cs hi with e | ⟨hn, hd, cs0, h0, h1, h2, h3⟩
  ·exact h.own _ e
  ·have hs : H i ≠ none := by rw [h0]; simp
   obtain ⟨g1, g2, g3, g4⟩ := hr.own i t cs0 h0
   refine ⟨by rw [h.same hs hd]; exact g1, g2, ?_, h2⟩
   rw [h.same hs hd, leafs_agree (l := cs) (β := β) (fun j hj => h.same (hr.hp.closed i t cs0 h0 j (h3 j hj).1) (h3 j hj).2), h1]
   exact (h.block (β i) g3.lt (away i hs hd hn) (fun d hd' e => hd (by rw [hr.apart i d hs (h.gone d hd').2 e]; exact hd')) (.inr fun t' cur hf hc => ownV_block ⟨g1, g2, g3, g4⟩ hf hc)).trans g3
 ·have cases_ : ∀ i, ((H.forget del (rho β)).updAll ups) i ≠ none → (∃ c, (i, c) ∈ ups) ∨ (i ∉ ups.map (·.1) ∧ del ≠ some i ∧ H i ≠ none) := fun i hi => by
   cases hh : ((H.forget del (rho β)).updAll ups) i with
   | none => exact absurd hh hi
   | some c =>
    rcases at_ i c.1 c.2 hh with e | ⟨hn, hd, cs0, h0, _⟩
    ·exact .inl ⟨c, e⟩
    ·exact .inr ⟨hn, hd, by rw [h0]; simp⟩
  rcases cases_ i hi with ⟨c, hc⟩ | ⟨n1, d1, s1⟩ <;> rcases cases_ j hj with ⟨c', hc'⟩ | ⟨n2, d2, s2⟩
  ·exact h.apart _ hc _ hc' e
  ·rw [h.same s2 d2] at e
   exact absurd e.symm (away j s2 d2 n2 _ hc)
  ·rw [h.same s1 d1] at e
   exact absurd e (away i s1 d1 n1 _ hc')
  ·rw [h.same s1 d1, h.same s2 d2] at e
   exact hr.apart i j s1 s2 e
 ·obtain ⟨u, hu, _, h2⟩ := Fr.forget_inv (β := β) hv
  obtain ⟨g1, g2⟩ := h2 i hi
  exact updAll_some h.once (Hp.forget_some (hr.closed d u hu i g1) g2)
 ·obtain ⟨u, hu, _⟩ := Fr.forget_inv (β := β) hv
  exact hr.fits d u hu

theorem run_callFunc {P : Program} {g : FuncId} (h : FnOk P g) (args : Array Value) (w : World) : (callFunc g args).run P w = .ok (.enter g args) w := by
 obtain ⟨fn, h1, h2, h3⟩ := h
 have h2' : fn.name ≠ "runtime.NumGoroutine" := by simpa using h2
 have h3' : fn.body ≠ none := fun e => by simp [e] at h3
 simp [callFunc, h1, h2', h3']

theorem stepOf_inv (h : stepOf C full F H o ≠ .bad) : dstOk C.N o.dst = true ∧ ((wants full F o = some false ∧ stepOf C full F H o = .det (.val undef) none) ∨ (wants full F o = some true ∧ stepOf C full F H o = act C F H o)) := by
 unfold stepOf at h ⊢
 cases hd : dstOk C.N o.dst with
 | false => rw [hd] at h; exact absurd rfl h
 | true =>
  refine ⟨rfl, ?_⟩
  rw [hd] at h
  cases hw : wants full F o with
  | none => rw [hw] at h; exact absurd rfl h
  | some b => cases b <;> simp

theorem Oper.wp_value {P : Program} {next : Act → World → Prop} {v : Value} (h : (execOp a.eval o).run P w = .ok (.value v) w') (hn : next (a.put o.dst v) w') : o.wp P a w next Q := by
 unfold Oper.wp; rw [h]; exact hn
theorem Oper.wp_skip {P : Program} {next : Act → World → Prop} (h : (execOp a.eval o).run P w = .ok .skip w') (hn : next (a.put o.dst undef) w') : o.wp P a w next Q := by
 unfold Oper.wp; rw [h]; exact hn
theorem Oper.wp_enter {P : Program} {next : Act → World → Prop} {g : FuncId} {args : Array Value} (h : (execOp a.eval o).run P w = .ok (.enter g args) w) (hn : Calls P g args w fun e w2 => ∃ v, e = .returned v ∧ next (a.put o.dst v) w2) : o.wp P a w next Q := by
 unfold Oper.wp; rw [h]
 refine Calls.mono hn ?_
 rintro e w2 ⟨v, rfl, hv⟩
 exact hv
theorem idsOf_some {l : List AV} (h : ∀ v ∈ l, ∀ i ∈ v.ids, H i ≠ none) : ∀ i ∈ idsOf l, H i ≠ none := fun i hi => by
 obtain ⟨v, hv, hi⟩ := mem_idsOf_iff.1 hi
 exact h v hv i hi
theorem call_closed (hc : Closed F H) {d : Doer} (h : act C F H o = .call d) : ∀ i ∈ d.ids, H i ≠ none := by
 rcases act_call h with ⟨c, f, g, first, l, cap, hop, hcl, hf, hl, rfl⟩ | ⟨vs, hv, rfl, _⟩
 ·refine idsOf_some fun v hv => ?_
  obtain ⟨f1, f2⟩ := hc.evf hf
  rcases List.mem_append.1 hv with e | e
  ·exact f1 v e
  ·rcases List.mem_append.1 e with e | e
   ·exact hc.eva hl v e
   ·exact f2 v e
 ·exact idsOf_some fun v hv' => hc.eva hv v hv'
theorem does_wp (hr : Rel C β F H a w) {d : Doer} (h : act C F H o = .call d) {next : Act → World → Prop} (hd : Does C.P d β w fun e w2 => ∃ v, e = .returned v ∧ next (a.put o.dst v) w2) : o.wp C.P a w next Q := by
 rcases act_call h with ⟨c, f, g, first, l, cap, hop, hcl, hf, hl, rfl⟩ | ⟨vs, hv, rfl, _⟩
 ·obtain ⟨h1, h2⟩ := hd
  have hl' := hr.eva hl
  refine Oper.wp_enter (g := g) (args := ((first ++ (l ++ cap)).map (AV.conc β)).toArray) ?_ h2
  have e1 : (c.args.map a.eval) = (l.map (AV.conc β)).toArray := by
   apply Array.toList_inj.1
   rw [Array.toList_map, hl']
  have e2 : (first.map (AV.conc β)).toArray ++ (l.map (AV.conc β)).toArray ++ (cap.map (AV.conc β)).toArray = ((first ++ (l ++ cap)).map (AV.conc β)).toArray := by
   apply Array.toList_inj.1
   simp
  unfold execOp
  rw [hop]
  simp only [resolve, hcl, hr.evf hf, e1, Deferred.ofValue, invoke, Sem.run_bind, Sem.run_pure, Result.andThen_ok]
  rw [e2, run_callFunc h1]
 ·obtain ⟨v, w2, h1, v', he, h2⟩ := hd
  cases he
  rcases h1 a.eval (hr.eva hv) with e | ⟨e, rfl⟩
  ·exact Oper.wp_value e h2
  ·exact Oper.wp_skip e h2
theorem Does.mono {P : Program} {d : Doer} {R R' : Ending → World → Prop} (h : Does P d β w R) (hR : ∀ e w2, R e w2 → R' e w2) : Does P d β w R' := by
 cases d with
 | fn g args => exact ⟨h.1, Calls.mono h.2 hR⟩
 | op o vs =>
  obtain ⟨v, w2, h1, h2⟩ := h
  exact ⟨v, w2, h1, hR _ _ h2⟩

theorem one_sound (hC : C.Ok) {k : Fr → Hp → World → Prop} {next : Act → World → Prop} {m : Option (List FuncId)} (h : one C m full o k F H w) (hr : Rel C β F H a w') (hk : KpS C.K w w')
  (hn : ∀ β F' H' w1 a' w1', k F' H' w1 → Rel C β F' H' a' w1' → KpS C.K w1 w1' → next a' w1') :
  if Region.wanted o (yielded full a.tmps) = true then Oper.wp C.P o a w' next Q else next (a.put o.dst undef) w' := by
 have hb : stepOf C full F H o ≠ .bad := fun e => by unfold one at h; rw [e] at h; exact h
 obtain ⟨hd, ⟨hw, hs⟩ | ⟨hw, hs⟩⟩ := stepOf_inv hb
 ·rw [wants_sound hr hw, if_neg (by simp)]
  unfold one at h
  rw [hs] at h
  exact hn β _ _ w _ w' h (hr.put hd (v := .val undef) (fun _ hi => by cases hi)) hk
 ·rw [wants_sound hr hw, if_pos rfl]
  unfold one at h
  rw [hs] at h
  cases hst : act C F H o with
  | bad => rw [hst] at h; exact h.elim
  | det v u =>
   rw [hst] at h
   obtain ⟨β', w2, k2, r2, e⟩ := act_det hC hst hd hr
   have := hn β' _ _ w _ w2 h r2 (hk.thn k2)
   rcases e with e | ⟨e, hu⟩
   ·exact Oper.wp_value e this
   ·rw [hu] at this
    exact Oper.wp_skip e this
  | cond φ v u =>
   rw [hst] at h
   obtain ⟨β', w2, k2, r2, e⟩ := act_cond hC hst h.1 hd hr
   have := hn β' _ _ w _ w2 h.2 r2 (hk.thn k2)
   rcases e with e | ⟨e, hu⟩
   ·exact Oper.wp_value e this
   ·rw [hu] at this
    exact Oper.wp_skip e this
  | read i x =>
   rw [hst] at h
   obtain ⟨cs, h1, h2, h3⟩ := h
   obtain ⟨t, y, hop, hi, hy⟩ := act_read hst
   have e := run_loadVar_any (hC t i hi) x cs h1 w' (by
    rcases h2 with h2 | ⟨_, h2⟩
    ·exact fun j u hj => h2 j u hj _ hr.old
    ·exact h2 w' hk hr.old)
   refine Oper.wp_value (v := mkRead i cs) (w' := w') ?_ (hn β _ _ w _ w' h3 (hr.put hd (v := .val (mkRead i cs)) (fun _ hi => by cases hi)) hk)
   have he : a.eval y = .pointer (some x) := hr.ev hy
   simp [execOp, hop, he, Instr.loadAt, Instr.sureAddr, e]
  | peek i cs off =>
   rw [hst] at h
   obtain ⟨vs, h1, h2, h3⟩ := h
   obtain ⟨t, y, b, tb, hop, hi, hy, hb⟩ := act_peek hst
   have hmem : ∀ x ∈ vs, x ∈ cs := fun x hx => by
    obtain ⟨j, hj⟩ := List.getElem?_of_mem hx
    exact List.mem_of_getElem? (h2 j x hj)
   have hok : vs.all okLeaf = true := List.all_eq_true.2 fun x hx => List.all_eq_true.1 (hr.own b tb cs hb).ok x (hmem x hx)
   have e := run_loadVar_any (hC t i hi) ⟨β b, off, none⟩ (vs.map (AV.leaf β)) (by rw [List.length_map, h1]) w' (loads_own hr hb h2)
   refine Oper.wp_value (v := (readA i vs).conc β) (w' := w') ?_ (hn β _ _ w _ w' h3 (hr.put hd (fun j hj => ?_)) hk)
   ·have he : a.eval y = .pointer (some ⟨β b, off, none⟩) := hr.ev hy
    rw [readA_conc (hC t i hi) h1 hok]
    simp [execOp, hop, he, Instr.loadAt, Instr.sureAddr, e]
   ·obtain ⟨x, hx, hj'⟩ := mem_lidsOf.1 (readA_ids hok hj)
    exact hr.hp.closed b tb cs hb j (mem_lidsOf.2 ⟨x, hmem x hx, hj'⟩)
  | call d =>
   rw [hst] at h
   refine does_wp hr hst ((h w' β hk hr.old (hr.ownAt _)).mono ?_)
   rintro e w2 ⟨β', r, del, ups, rfl, hri, _, _, hch, hv⟩
   have ho := hr.ownAt d.ids
   have o2 := hch.old ho hr.old
   have k2 := hch.kp ho
   have hr2 := hr.changed hch
   refine ⟨_, rfl, hn β' _ _ w2 _ w2 (hv (hk.thn k2) k2 o2 (rho β) (rho_cell β)) (hr2.put hd (fun i hi => ?_)) (KpS.refl _ _)⟩
   rcases hri i hi with e | ⟨_, e1, e2⟩
   ·exact updAll_mem hch.once e
   ·exact updAll_some hch.once (Hp.forget_some e1 e2)

theorem vcOps_list (hC : C.Ok) {m : Option (List FuncId)} {K : Fr → Hp → World → Prop} (hQ : ∀ β F H w a w', K F H w → Rel C β F H a w' → KpS C.K w w' → Q .normal a w') :
  ∀ (l : List Oper) (β : Nat → Nat) (F : Fr) (H : Hp) (w : World) (a : Act) (w' : World), vcOps C m full l K F H w → Rel C β F H a w' → KpS C.K w w' → wpList C.P full Q l a w'
 | [], β, F, H, w, a, w', h, hr, hk => hQ β F H w a w' h hr hk
 | o :: r, β, F, H, w, a, w', h, hr, hk => by
  refine wpList_step fun K' hK' => ?_
  exact one_sound hC (k := vcOps C m full r K) h hr hk fun β F' H' w1 a' w1' h1 h2 h3 => hK' _ _ (vcOps_list hC hQ r β F' H' w1 a' w1' h1 h2 h3)
end
end Go.Proofs.YtofdiijioejljaaGreat
