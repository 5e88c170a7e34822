/- Calm walks: two operations that are apart may change places; so a region may be walked in its text's order. -/
import Derived.Test.YtofdiijioejljaaGreatCalmD
set_option linter.all false
namespace Go.Proofs.YtofdiijioejljaaGreat
open Go.RowKit

structure Live (C : Cx) (F : Fr) (H : Hp) (w : World) : Prop where
 hp : HpOk C H
 closed : Closed F H
 fits : ∀ d v, F d = some v → d < C.N
 there : ∃ w1, KpS C.K w w1 ∧ C.Old w1
section
variable {C : Cx} {F : Fr} {H : Hp} {w : World} {full : Array Oper} {p o : Oper} {k : Fr → Hp → World → Prop} {ml : List FuncId}

theorem Live.rel (h : Live C F H w) : ∃ β a w1, Rel C β F H a w1 ∧ KpS C.K w w1 := by
 obtain ⟨w1, h1, h2⟩ := h.there
 obtain ⟨β, w2, k1, k2, k3, k4⟩ := C.lay w1 H h2 h.hp.ok h.hp.few
 refine ⟨β, ⟨(Array.range C.N).map fun d => match F d with | some v => v.conc β | none => undef, []⟩, w2, ⟨rfl, by simp, fun d v hv => ?_, fun i t cs hi => ⟨(k3 i t cs hi).1, (h.hp.ok i t cs hi).1, (k3 i t cs hi).2, (h.hp.ok i t cs hi).2⟩, k4, h.closed, h.fits, h.hp, k2⟩, h1.thn k1⟩
 have hd := h.fits d v hv
 simp [Array.getD_eq_getD_getElem?, hd, hv]
theorem Live.of {β : Nat → Nat} {a : Act} {w1 : World} (h : Rel C β F H a w1) (hk : KpS C.K w w1) : Live C F H w := ⟨h.hp, h.closed, h.fits, w1, hk, h.old⟩

def Step.still (C : Cx) : Step → Option ((AV → Prop) × Option (Nat × (TypeId × List AV)))
 | .det v u => some (fun x => x = v, u)
 | .read i a => some (fun x => ∃ cs : List Value, cs.length = i.size ∧ (∀ j u, cs[j]? = some u → C.At (a.add j) u) ∧ x = .val (mkRead i cs), none)
 | .peek i cs off => some (fun x => ∃ vs : List AV, vs.length = i.size ∧ (∀ j u, vs[j]? = some u → cs[off + j]? = some u) ∧ x = readA i vs, none)
 | .cond φ v u => some (fun x => φ ∧ x = v, u)
 | .call _ => none
 | .bad => none

theorem one_still {Ψ : AV → Prop} {u : Option (Nat × (TypeId × List AV))} (hs : (stepOf C full F H o).still C = some (Ψ, u)) : one C (some ml) full o k F H w ↔ ∃ x, Ψ x ∧ k (F.puto o.dst x) (H.upd u) w := by
 unfold one
 cases hst : stepOf C full F H o with
 | det v u' =>
  rw [hst] at hs
  cases hs
  exact ⟨fun h => ⟨v, rfl, h⟩, fun ⟨x, hx, h⟩ => hx ▸ h⟩
 | read i a =>
  rw [hst] at hs
  cases hs
  constructor
  ·rintro ⟨cs, h1, h2 | ⟨h2, _⟩, h3⟩
   ·exact ⟨_, ⟨cs, h1, h2, rfl⟩, h3⟩
   ·cases h2
  ·rintro ⟨x, ⟨cs, h1, h2, rfl⟩, h3⟩
   exact ⟨cs, h1, .inl h2, h3⟩
 | peek i cs off =>
  rw [hst] at hs
  cases hs
  exact ⟨fun ⟨vs, h1, h2, h3⟩ => ⟨_, ⟨vs, h1, h2, rfl⟩, h3⟩, fun ⟨x, ⟨vs, h1, h2, e⟩, h3⟩ => ⟨vs, h1, h2, e ▸ h3⟩⟩
 | cond φ v u' =>
  rw [hst] at hs
  cases hs
  exact ⟨fun h => ⟨v, ⟨h.1, rfl⟩, h.2⟩, fun ⟨x, hx, h⟩ => ⟨hx.1, hx.2 ▸ h⟩⟩
 | call d => rw [hst] at hs; cases hs
 | bad => rw [hst] at hs; cases hs
theorem list_same {α : Type} {n : Nat} {cs ds : List α} {f : Nat → Option α} (h1 : cs.length = n) (h2 : ∀ j u, cs[j]? = some u → f j = some u) (g1 : ds.length = n) (g2 : ∀ j u, ds[j]? = some u → f j = some u) : cs = ds := by
 apply List.ext_getElem?
 intro j
 by_cases hj : j < n
 ·have a1 := List.getElem?_eq_getElem (show j < cs.length by omega)
  have a2 := List.getElem?_eq_getElem (show j < ds.length by omega)
  rw [a1, a2, ← h2 j _ a1, ← g2 j _ a2]
 ·rw [List.getElem?_eq_none (by omega), List.getElem?_eq_none (by omega)]
theorem still_fun {s : Step} {Ψ : AV → Prop} {u : Option (Nat × (TypeId × List AV))} (hs : s.still C = some (Ψ, u)) {x y : AV} (hx : Ψ x) (hy : Ψ y) : x = y := by
 cases s with
 | det v u' => cases hs; exact hx.trans hy.symm
 | read i a =>
  cases hs
  obtain ⟨cs, h1, h2, rfl⟩ := hx
  obtain ⟨ds, g1, g2, rfl⟩ := hy
  rw [list_same (f := fun j => C.w0.cell? (a.add j)) h1 (fun j u hj => h2 j u hj _ C.oldRefl) g1 (fun j u hj => g2 j u hj _ C.oldRefl)]
 | peek i cs off =>
  cases hs
  obtain ⟨cs', h1, h2, rfl⟩ := hx
  obtain ⟨ds, g1, g2, rfl⟩ := hy
  rw [list_same (f := fun j => cs[off + j]?) h1 h2 g1 g2]
 | cond φ v u' => cases hs; exact hx.2.trans hy.2.symm
 | call d => cases hs
 | bad => cases hs
theorem step_cases (s : Step) : s = .bad ∨ (∃ Ψ u, s.still C = some (Ψ, u)) ∨ ∃ d, s = .call d := by
 cases s with
 | det v u => exact .inr (.inl ⟨_, _, rfl⟩)
 | read i a => exact .inr (.inl ⟨_, _, rfl⟩)
 | peek i cs off => exact .inr (.inl ⟨_, _, rfl⟩)
 | cond φ v u => exact .inr (.inl ⟨_, _, rfl⟩)
 | call d => exact .inr (.inr ⟨d, rfl⟩)
 | bad => exact .inl rfl
theorem stepOf_heap {H' : Hp} (h : act C F H' o = act C F H o) : stepOf C full F H' o = stepOf C full F H o := by unfold stepOf; rw [h]
theorem stepOf_act {s : Step} (h : stepOf C full F H o = s) : s = .bad ∨ s = .det (.val undef) none ∨ act C F H o = s := by
 by_cases hb : stepOf C full F H o = .bad
 ·exact .inl (h.symm.trans hb)
 ·obtain ⟨_, ⟨_, e⟩ | ⟨_, e⟩⟩ := stepOf_inv hb
  ·exact .inr (.inl (h.symm.trans e))
  ·exact .inr (.inr (e.symm.trans h))
theorem stepOf_upd {Ψ : AV → Prop} {u : Option (Nat × (TypeId × List AV))} (hs : (stepOf C full F H o).still C = some (Ψ, u)) : u = none ∨ memClass C.SU ml o = 3 ∨ (memClass C.SU ml o = 2 ∧ ∃ d c, o.dst = some d ∧ u = some (d, c) ∧ H d = none) := by
 cases hst : stepOf C full F H o with
 | det v u' =>
  rw [hst] at hs
  cases hs
  rcases stepOf_act hst with h | h | h
  ·cases h
  ·cases h; exact .inl rfl
  ·exact act_upd h
 | read i a => rw [hst] at hs; cases hs; exact .inl rfl
 | peek i cs off => rw [hst] at hs; cases hs; exact .inl rfl
 | cond φ v u' =>
  rw [hst] at hs
  cases hs
  rcases stepOf_act hst with h | h | h
  ·cases h
  ·cases h
  ·exact act_updC h
 | call d => rw [hst] at hs; cases hs
 | bad => rw [hst] at hs; cases hs
theorem stepOf_call {d : Doer} (h : stepOf C full F H o = .call d) : (memClass C.SU ml o = 3 ∨ memClass C.SU ml o = 4 ∨ memClass C.SU ml o = 5) ∧ (Closed F H → ∀ i ∈ d.ids, H i ≠ none) := by
 rcases stepOf_act h with e | e | e
 ·cases e
 ·cases e
 ·exact ⟨act_classC e, fun hc => call_closed hc e⟩

theorem memOk_symm {a b : Nat} (h : memOk a b = true) : memOk b a = true := by
 unfold memOk at h ⊢
 rw [Bool.or_comm (Nat.beq b 5)]
 cases hb : (Nat.beq a 5 || Nat.beq b 5) with
 | true => rw [hb] at h; cases h
 | false =>
  rw [hb] at h
  simp only [cond_false, Bool.or_eq_true, Bool.and_eq_true] at h ⊢
  rcases h with (((h | h) | h) | h) | h
  ·exact .inl (.inl (.inl (.inr h)))
  ·exact .inl (.inl (.inl (.inl h)))
  ·exact .inl (.inl (.inr ⟨h.2, h.1⟩))
  ·exact .inr ⟨h.2, h.1⟩
  ·exact .inl (.inr ⟨h.2, h.1⟩)
theorem memOk_inv {a b : Nat} (h : memOk a b = true) : a ≠ 5 ∧ b ≠ 5 ∧ (a = 0 ∨ b = 0 ∨ (a ≤ 2 ∧ b ≤ 2) ∨ (a = 4 ∧ b ≤ 2) ∨ (a ≤ 2 ∧ b = 4)) := by
 unfold memOk at h
 cases hb : (Nat.beq a 5 || Nat.beq b 5) with
 | true => rw [hb] at h; cases h
 | false =>
  rw [hb] at h
  rw [Bool.or_eq_false_iff] at hb
  simp only [cond_false, Bool.or_eq_true, Bool.and_eq_true, Nat.beq_eq, Nat.ble_eq] at h
  refine ⟨fun e => by rw [e] at hb; simp at hb, fun e => by rw [e] at hb; simp at hb, ?_⟩
  omega

theorem heap_swap {Ψ : AV → Prop} {u : Option (Nat × (TypeId × List AV))} (hs : (stepOf C full F H p).still C = some (Ψ, u)) (hm : memOk (memClass C.SU ml p) (memClass C.SU ml o) = true) (hdd : ∀ d, p.dst = some d → o.dst ≠ some d) (hc : Closed F H) :
  stepOf C full F (H.upd u) o = stepOf C full F H o := by
 rcases stepOf_upd (ml := ml) hs with rfl | h3 | ⟨h2, d, c, hd, rfl, h0⟩
 ·rfl
 ·rw [h3] at hm
  have := memOk_inv hm
  exact stepOf_heap (act_class0 (ml := ml) (.inl (by omega)))
 ·rw [h2] at hm
  have hmi := memOk_inv hm
  show stepOf C full F (H.put d c) o = _
  have : memClass C.SU ml o = 0 ∨ memClass C.SU ml o = 1 ∨ memClass C.SU ml o = 2 ∨ memClass C.SU ml o = 4 := by omega
  rcases this with e | e | e | e
  ·exact stepOf_heap (act_class0 (ml := ml) (.inl e))
  ·exact stepOf_heap (act_class1 (ml := ml) e hc h0)
  ·cases hod : o.dst with
   | none => exact stepOf_heap (act_class2' (ml := ml) (c := (d, c)) e hod)
   | some d' => exact stepOf_heap (act_class2 (ml := ml) e hod (fun e' => hdd d hd (by rw [hod, e'])))
  ·exact stepOf_heap (act_class0 (ml := ml) (.inr e))

theorem puto_comm {F : Fr} {d d' : Option Nat} {x y : AV} (h : ∀ n, d = some n → d' ≠ some n) : (F.puto d x).puto d' y = (F.puto d' y).puto d x := by
 cases d with
 | none => rfl
 | some n =>
  cases d' with
  | none => rfl
  | some n' =>
   have hne : n ≠ n' := fun e => h n rfl (by rw [e])
   funext z
   show ((F.put n x).put n' y) z = ((F.put n' y).put n x) z
   simp only [Fr.put_at]
   by_cases h1 : z = n'
   ·subst h1; rw [if_pos rfl, if_neg (fun e => hne e.symm)]; exact (if_pos rfl).symm
   ·rw [if_neg h1]
    by_cases h2 : z = n
    ·rw [if_pos h2, if_pos h2]
    ·rw [if_neg h2, if_neg h2, if_neg h1]
theorem upd_comm {Ψ Ψ' : AV → Prop} {u u' : Option (Nat × (TypeId × List AV))} (hp : (stepOf C full F H p).still C = some (Ψ, u)) (ho : (stepOf C full F H o).still C = some (Ψ', u')) (hm : memOk (memClass C.SU ml p) (memClass C.SU ml o) = true) (hdd : ∀ d, p.dst = some d → o.dst ≠ some d) :
  (H.upd u).upd u' = (H.upd u').upd u := by
 have hmi := memOk_inv hm
 rcases stepOf_upd (ml := ml) hp with rfl | h3 | ⟨h2, d, c, hd, rfl, h0⟩
 ·rfl
 ·rcases stepOf_upd (ml := ml) ho with rfl | g3 | ⟨g2, _⟩
  ·rfl
  ·omega
  ·omega
 ·rcases stepOf_upd (ml := ml) ho with rfl | g3 | ⟨g2, d', c', hd', rfl, h0'⟩
  ·rfl
  ·omega
  ·have hne : d ≠ d' := fun e => hdd d hd (by rw [hd', e])
   funext z
   show ((H.put d c).put d' c') z = ((H.put d' c').put d c) z
   simp only [Hp.put_at]
   by_cases h1 : z = d'
   ·subst h1; rw [if_pos rfl, if_neg (fun e => hne e.symm)]; exact (if_pos rfl).symm
   ·rw [if_neg h1]
    by_cases h2 : z = d
    ·rw [if_pos h2, if_pos h2]
    ·rw [if_neg h2, if_neg h2, if_neg h1]

theorem Calls.some {P : Program} {g : FuncId} {args : Array Value} {w : World} {R : Ending → World → Prop} (h : Calls P g args w R) : ∃ e w', R e w' := by
 obtain ⟨e, w', _, hR, _⟩ := h []
 exact ⟨e, w', hR⟩
theorem Does.some {P : Program} {d : Doer} {β : Nat → Nat} {w : World} {R : Ending → World → Prop} (h : Does P d β w R) : ∃ e w', R e w' := by
 cases d with
 | fn g args => exact Calls.some h.2
 | op o vs =>
  obtain ⟨v, w2, _, h2⟩ := h
  exact ⟨_, w2, h2⟩

theorem CallVC.mono {lv : Nat} {d : Doer} {j j' : AV → Fr → Hp → World → Prop} (hL : Live C F H w) (h : CallVC C lv F H d w j)
  (hj : ∀ r F' H' w2, Live C F' H' w2 → (∀ i ∈ r.ids, H' i ≠ none) → (lv = 0 → H' = H) → (lv ≤ 1 → F' = F) → j r F' H' w2 → j' r F' H' w2) : CallVC C lv F H d w j' := by
 intro w1 β h1 h2 h3
 refine (h w1 β h1 h2 h3).mono ?_
 rintro e w2 ⟨β', r, del, ups, rfl, hri, hl1, hl2, hch, hv⟩
 refine ⟨β', r, del, ups, rfl, hri, hl1, hl2, hch, fun a b c ρ hρ => hj r _ _ w2 ⟨hch.hp hL.hp hρ, fun d' v hv' i hi => ?_, fun d' v hv' => ?_, w2, KpS.refl _ _, c⟩ (fun i hi => ?_) (fun ha => ?_) (fun ha => ?_) (hv a b c ρ hρ)⟩
 ·obtain ⟨u, hu, _, g2⟩ := Fr.forget_inv (β := β) hv'
  obtain ⟨q1, q2⟩ := g2 i hi
  exact updAll_some hch.once (Hp.forget_some (hL.closed d' u hu i q1) q2)
 ·obtain ⟨u, hu, _⟩ := Fr.forget_inv (β := β) hv'
  exact hL.fits d' u hu
 ·rcases hri i hi with e | ⟨_, e1, e2⟩
  ·exact updAll_mem hch.once e
  ·exact updAll_some hch.once (Hp.forget_some e1 e2)
 ·have e1 : ups = [] := hl1.resolve_left (by omega)
  have e2 : del = none := hl2.resolve_left (by omega)
  rw [e1, e2]; rfl
 ·have e2 : del = none := hl2.resolve_left (by omega)
  rw [e2]; rfl
theorem CallVC.some {lv : Nat} {d : Doer} {j : AV → Fr → Hp → World → Prop} (hL : Live C F H w) (h : CallVC C lv F H d w j) : ∃ r F' H' w2, (lv = 0 → H' = H) ∧ (lv ≤ 1 → F' = F) ∧ j r F' H' w2 := by
 obtain ⟨β, a, w1, hr, hk⟩ := hL.rel
 obtain ⟨e, w2, β', r, del, ups, rfl, hri, hl1, hl2, hch, hv⟩ := (h w1 β hk hr.old (hr.ownAt _)).some
 have ho := hr.ownAt d.ids
 have k2 := hch.kp ho
 refine ⟨r, _, _, w2, fun ha => ?_, fun ha => ?_, hv (hk.thn k2) k2 (hch.old ho hr.old) (rho β) (rho_cell β)⟩
 ·have e1 : ups = [] := hl1.resolve_left (by omega)
  have e2 : del = none := hl2.resolve_left (by omega)
  rw [e1, e2]; rfl
 ·have e2 : del = none := hl2.resolve_left (by omega)
  rw [e2]; rfl
theorem CallVC.frame {lv : Nat} {d : Doer} {j : AV → Hp → World → Prop} {F1 : Fr} (h : CallVC C lv F H d w fun r _ H' w2 => j r H' w2) : CallVC C lv F1 H d w fun r _ H' w2 => j r H' w2 := h
theorem reach_same {H' : Hp} {ids : List Nat} (hh : ∀ i, Reach H ids i → H' i = H i) {i : Nat} (h : Reach H' ids i) : Reach H ids i := by
 induction h with
 | base hi => exact .base hi
 | step hi h1 h2 ih => exact .step ih ((hh _ ih).symm.trans h1) h2
theorem reach_same' {H' : Hp} {ids : List Nat} (hh : ∀ i, Reach H ids i → H' i = H i) {i : Nat} (h : Reach H ids i) : Reach H' ids i := by
 induction h with
 | base hi => exact .base hi
 | step hi h1 h2 ih => exact .step ih ((hh _ hi).trans h1) h2
theorem CallVC.heap {d : Doer} {j : AV → World → Prop} {H' : Hp} (hh : ∀ i, Reach H d.ids i → H' i = H i) (h : CallVC C 0 F H d w fun r _ _ w2 => j r w2) : CallVC C 0 F H' d w fun r _ _ w2 => j r w2 := by
 intro w1 β h1 h2 h3
 have h3' : OwnAt C β H d.ids w1 := ⟨fun i hi t cs hx => h3.own i (reach_same' hh hi) t cs (by rw [hh i hi]; exact hx), fun i j hi hj ei ej e => h3.apart i j (reach_same' hh hi) (reach_same' hh hj) (by rw [hh i hi]; exact ei) (by rw [hh j hj]; exact ej) e⟩
 refine (h w1 β h1 h2 h3').mono ?_
 rintro e w2 ⟨β', r, del, ups, rfl, hri, hl1, hl2, hch, hv⟩
 have e1 : ups = [] := hl1.resolve_left (by omega)
 have e2 : del = none := hl2.resolve_left (by omega)
 subst e1
 subst e2
 refine ⟨β', r, none, [], rfl, fun i hi => ?_, .inr rfl, .inr rfl, ⟨hch.os, hch.tape, hch.output, hch.size, hch.block, hch.agree, fun i hi => (by cases hi), fun i hi => (by cases hi), hch.own, fun x hx => (by cases hx), hch.once, hch.apart, fun x hx => (by cases hx)⟩, hv⟩
 rcases hri i hi with e | ⟨e0, e1, e2⟩
 ·exact .inl e
 ·exact .inr ⟨reach_same' hh e0, hh i e0 ▸ e1, e2⟩
theorem reach_closed (hp : HpOk C H) {ids : List Nat} (h0 : ∀ i ∈ ids, H i ≠ none) {i : Nat} (h : Reach H ids i) : H i ≠ none := by
 induction h with
 | base hi => exact h0 _ hi
 | step hi h1 h2 ih => exact hp.closed _ _ _ h1 _ h2

theorem class_call (h : memClass C.SU ml o = 3 ∨ memClass C.SU ml o = 4 ∨ memClass C.SU ml o = 5) (h5 : memClass C.SU ml o ≠ 5) : (memClass C.SU ml o = 3 ∧ lvl C.SU (some ml) o = 1) ∨ (memClass C.SU ml o = 4 ∧ lvl C.SU (some ml) o = 0) := by
 rcases h with e | e | e
 ·exact .inl ⟨e, by show lvlOf _ = _; rw [e]; rfl⟩
 ·exact .inr ⟨e, by show lvlOf _ = _; rw [e]; rfl⟩
 ·exact absurd e h5
theorem still_live (hC : C.Ok) {Ψ : AV → Prop} {u : Option (Nat × (TypeId × List AV))} (hL : Live C F H w) (hs : (stepOf C full F H o).still C = some (Ψ, u)) {x : AV} (hx : Ψ x) : Live C (F.puto o.dst x) (H.upd u) w := by
 obtain ⟨β, a, w1, hr, hk⟩ := hL.rel
 have hb : stepOf C full F H o ≠ .bad := fun e => by rw [e] at hs; cases hs
 obtain ⟨hd, ⟨_, e⟩ | ⟨_, e⟩⟩ := stepOf_inv hb
 ·rw [e] at hs
  cases hs
  cases hx
  exact Live.of (hr.put hd (fun _ hi => by cases hi)) hk
 ·rw [e] at hs
  cases hst : act C F H o with
  | bad => rw [hst] at hs; cases hs
  | call d => rw [hst] at hs; cases hs
  | det v u' =>
   rw [hst] at hs
   cases hs
   cases hx
   obtain ⟨β', w2, k2, r2, _⟩ := act_det hC hst hd hr
   exact Live.of r2 (hk.thn k2)
  | cond φ v u' =>
   rw [hst] at hs
   cases hs
   obtain ⟨hφ, rfl⟩ := hx
   obtain ⟨β', w2, k2, r2, _⟩ := act_cond hC hst hφ hd hr
   exact Live.of r2 (hk.thn k2)
  | read i y =>
   rw [hst] at hs
   cases hs
   obtain ⟨cs, _, _, rfl⟩ := hx
   exact Live.of (hr.put hd (fun _ hi => by cases hi)) hk
  | peek i cs off =>
   rw [hst] at hs
   cases hs
   obtain ⟨vs, h1, h2, rfl⟩ := hx
   obtain ⟨t, y, b, tb, hop, hi, hy, hb⟩ := act_peek hst
   have hmem : ∀ x ∈ vs, x ∈ cs := fun x hx => by
    obtain ⟨j, hj⟩ := List.getElem?_of_mem hx
    exact List.mem_of_getElem? (h2 j x hj)
   have hok : vs.all okLeaf = true := List.all_eq_true.2 fun x hx => List.all_eq_true.1 (hr.own b tb cs hb).ok x (hmem x hx)
   refine Live.of (hr.put hd (fun j hj => ?_)) hk
   obtain ⟨x, hx, hj'⟩ := mem_lidsOf.1 (readA_ids hok hj)
   exact hr.hp.closed b tb cs hb j (mem_lidsOf.2 ⟨x, hmem x hx, hj'⟩)

theorem isMove_inv (h : isMove p = true) : ∃ t, p.op = .move (.tmp t) ∧ p.guard = none := by
 unfold isMove at h
 split at h
 ·rename_i t e1 e2; exact ⟨t, e1, e2⟩
 ·cases h
theorem forget_puto {F : Fr} {d : Option Nat} {v : AV} {i : Nat} {ρ : AV → Value} : (F.puto d v).forget (some i) ρ = (F.forget (some i) ρ).puto d (v.fg i ρ) := by
 cases d with
 | none => rfl
 | some n =>
  funext z
  show (match (F.put n v) z with | some v => some (v.fg i ρ) | none => none) = ((F.forget (some i) ρ).put n (v.fg i ρ)) z
  rw [Fr.put_at, Fr.put_at]
  by_cases hz : z = n
  ·rw [if_pos hz, if_pos hz]
  ·rw [if_neg hz, if_neg hz]; rfl
theorem swapM (ha : p.apart full o = true) (hi : isMove p = true) (h : one C (some ml) full p (one C (some ml) full o k) F H w) : one C (some ml) full o (one C (some ml) full p k) F H w := by
 obtain ⟨a1, a2, a3⟩ := Oper.apart_spec ha
 obtain ⟨t, hop, hg⟩ := isMove_inv hi
 have hst : ∀ (F : Fr) (H : Hp), stepOf C full F H p = bif dstOk C.N p.dst then det1 (F t) else .bad := fun F H => by
  unfold stepOf wants act
  rw [hg, hop]
  rfl
 have hto : o.dst ≠ some t := fun e => a3 t e (looks_operand (y := .tmp t) (by rw [hop]; simp [Op.operands]) rfl)
 cases hd : dstOk C.N p.dst with
 | false => unfold one at h; rw [hst, hd] at h; exact h.elim
 | true =>
  cases hF : F t with
  | none => unfold one at h; rw [hst, hd, hF] at h; exact h.elim
  | some v =>
   have h' : one C (some ml) full o k (F.puto p.dst v) H w := by
    unfold one at h
    rw [hst, hd, hF] at h
    exact h
   have eo : stepOf C full (F.puto p.dst v) H o = stepOf C full F H o := stepOf_agree a1
   have key : ∀ (F' : Fr) (H' : Hp) (w' : World) (r v' : AV), F' t = some v' → k ((F'.puto p.dst v').puto o.dst r) H' w' → one C (some ml) full p k (F'.puto o.dst r) H' w' := fun F' H' w' r v' hF' hk => by
    have e : (F'.puto o.dst r) t = some v' := (puto_other fun n hn => fun e => hto (by rw [hn, e])).trans hF'
    unfold one
    rw [hst, hd, e]
    show k ((F'.puto o.dst r).puto p.dst v') H' w'
    rw [puto_comm (fun n hn e' => a2 n e' hn)]
    exact hk
   unfold one at h' ⊢
   rw [eo] at h'
   cases hso : stepOf C full F H o with
   | det y u => rw [hso] at h'; exact key F _ _ _ _ hF h'
   | read i a =>
    rw [hso] at h'
    obtain ⟨cs, h1, h2, h3⟩ := h'
    exact ⟨cs, h1, h2, key F _ _ _ _ hF h3⟩
   | peek i cs off =>
    rw [hso] at h'
    obtain ⟨vs, h1, h2, h3⟩ := h'
    exact ⟨vs, h1, h2, key F _ _ _ _ hF h3⟩
   | cond φ y u => rw [hso] at h'; exact ⟨h'.1, key F _ _ _ _ hF h'.2⟩
   | bad => rw [hso] at h'; exact h'.elim
   | call d =>
    rw [hso] at h'
    intro w1 β h1 h2 h3
    refine (h' w1 β h1 h2 h3).mono ?_
    rintro e w2 ⟨β', r, del, ups, he, hri, hl1, hl2, hch, hv⟩
    refine ⟨β', r, del, ups, he, hri, hl1, hl2, hch, fun a b c ρ hρ => ?_⟩
    have hv' := hv a b c ρ hρ
    cases del with
    | none => exact key _ _ _ _ _ hF hv'
    | some i =>
     rw [forget_puto] at hv'
     refine key _ _ _ _ _ ?_ hv'
     show (match F t with | some v => some (v.fg i ρ) | none => none) = _
     rw [hF]

theorem swap (hC : C.Ok) (hL : Live C F H w) (hi : indep C.SU ml full p o = true) (h : one C (some ml) full p (one C (some ml) full o k) F H w) : one C (some ml) full o (one C (some ml) full p k) F H w := by
 unfold indep at hi
 rw [Bool.and_eq_true] at hi
 obtain ⟨ha, hm⟩ := hi
 rcases Bool.or_eq_true _ _ ▸ hm with hm | hmv
 case inr => exact swapM ha hmv h
 obtain ⟨a1, a2, a3⟩ := Oper.apart_spec ha
 have a2' : ∀ d, o.dst = some d → p.dst ≠ some d := fun d hd e => a2 d e hd
 have hmi := memOk_inv hm
 have hc := hL.closed
 rcases step_cases (C := C) (stepOf C full F H p) with hp | ⟨Ψp, up, hp⟩ | ⟨d, hp⟩
 ·unfold one at h; rw [hp] at h; exact h.elim
 ·obtain ⟨x, hx, h⟩ := (one_still hp).1 h
  have eo : stepOf C full (F.puto p.dst x) (H.upd up) o = stepOf C full F H o := (stepOf_agree a1).trans (heap_swap hp hm a2 hc)
  rcases step_cases (C := C) (stepOf C full F H o) with ho | ⟨Ψo, uo, ho⟩ | ⟨d, ho⟩
  ·unfold one at h; rw [eo, ho] at h; exact h.elim
  ·obtain ⟨y, hy, h⟩ := (one_still (by rw [eo]; exact ho)).1 h
   refine (one_still ho).2 ⟨y, hy, (one_still (Ψ := Ψp) (u := up) ?_).2 ⟨x, hx, ?_⟩⟩
   ·rw [show stepOf C full (F.puto o.dst y) (H.upd uo) p = stepOf C full F H p from (stepOf_agree a3).trans (heap_swap ho (memOk_symm hm) a2' hc)]
    exact hp
   ·rw [puto_comm a2', upd_comm ho hp (memOk_symm hm) a2']
    exact h
  ·obtain ⟨co, cid⟩ := stepOf_call (ml := ml) ho
   unfold one at h ⊢
   rw [eo, ho] at h
   rw [ho]
   have hL' := still_live hC hL hp hx
   rcases class_call co hmi.2.1 with ⟨c3, al⟩ | ⟨c4, al⟩
   ·-- a call that may change variables: p has no memory
    have p0 : memClass C.SU ml p = 0 := by omega
    have hup : up = none := by
     rcases stepOf_upd (ml := ml) hp with e | e | ⟨e, _⟩
     ·exact e
     ·omega
     ·omega
    subst hup
    have h1 : CallVC C (lvl C.SU (some ml) o) (F.puto p.dst x) H d w fun r _ H' w2 => k ((F.puto p.dst x).puto o.dst r) H' w2 := CallVC.mono hL' h fun r F' H' w2 _ _ _ hF hv => by
     rw [hF (by omega)] at hv
     exact hv
    refine CallVC.mono hL (CallVC.frame (F1 := F) (j := fun r H' w2 => k ((F.puto p.dst x).puto o.dst r) H' w2) h1) fun r F' H' w2 _ _ _ hF hv => ?_
    rw [hF (by omega)]
    have : one C (some ml) full p k (F.puto o.dst r) H' w2 := by
     refine (one_still (Ψ := Ψp) (u := none) ?_).2 ⟨x, hx, ?_⟩
     ·rw [show stepOf C full (F.puto o.dst r) H' p = stepOf C full F H p from (stepOf_agree a3).trans (stepOf_heap (act_class0 (ml := ml) (.inl p0)))]
      exact hp
     ·rw [puto_comm a2']
      exact hv
    exact this
   ·rw [al] at h ⊢
    have h1 : CallVC C 0 (F.puto p.dst x) (H.upd up) d w fun r _ _ w2 => k ((F.puto p.dst x).puto o.dst r) (H.upd up) w2 := CallVC.mono hL' h fun r F' H' w2 _ _ hH hF hv => by
     rw [hF (by omega), hH rfl] at hv
     exact hv
    have hids : ∀ i, Reach (H.upd up) d.ids i → H i = (H.upd up) i := by
     rcases stepOf_upd (ml := ml) hp with e | e | ⟨e, d', c, hd, e2, h0⟩
     ·rw [e]; exact fun _ _ => rfl
     ·omega
     ·rw [e2]
      have hagree : ∀ i, Reach H d.ids i → (H.put d' c) i = H i := fun i hi => by
       rw [Hp.put_at, if_neg]
       intro e3
       exact reach_closed hL.hp (cid hc) hi (e3 ▸ h0)
      exact fun i hi => (hagree i (reach_same hagree hi)).symm
    have h2 := CallVC.frame (F1 := F) (j := fun r _ w2 => k ((F.puto p.dst x).puto o.dst r) (H.upd up) w2) (CallVC.heap (H' := H) (j := fun r w2 => k ((F.puto p.dst x).puto o.dst r) (H.upd up) w2) hids h1)
    refine CallVC.mono hL h2 fun r F' H' w2 _ _ hH hF hv => ?_
    rw [hH rfl, hF (by omega)]
    have : one C (some ml) full p k (F.puto o.dst r) H w2 := by
     refine (one_still (Ψ := Ψp) (u := up) ?_).2 ⟨x, hx, ?_⟩
     ·rw [show stepOf C full (F.puto o.dst r) H p = stepOf C full F H p from stepOf_agree a3]
      exact hp
     ·rw [puto_comm a2']
      exact hv
    exact this
 ·obtain ⟨cp, cid⟩ := stepOf_call (ml := ml) hp
  have h' : CallVC C (lvl C.SU (some ml) p) F H d w fun r F' H' w2 => one C (some ml) full o k (F'.puto p.dst r) H' w2 := by
   unfold one at h
   rw [hp] at h
   exact h
  rcases class_call cp hmi.1 with ⟨c3, al⟩ | ⟨c4, al⟩
  ·have o0 : memClass C.SU ml o = 0 := by omega
   have eo : ∀ (r : AV) (H' : Hp), stepOf C full (F.puto p.dst r) H' o = stepOf C full F H o := fun r H' => (stepOf_agree a1).trans (stepOf_heap (act_class0 (ml := ml) (.inl o0)))
   rcases step_cases (C := C) (stepOf C full F H o) with ho | ⟨Ψo, uo, ho⟩ | ⟨d', ho⟩
   ·obtain ⟨r, F', H', w2, _, hF, hv⟩ := h'.some hL
    rw [hF (by omega)] at hv
    unfold one at hv
    rw [eo r H', ho] at hv
    exact hv.elim
   ·have huo : uo = none := by
     rcases stepOf_upd (ml := ml) ho with e | e | ⟨e, _⟩
     ·exact e
     ·omega
     ·omega
    subst huo
    obtain ⟨r, F', H', w2, _, hF, hv⟩ := h'.some hL
    rw [hF (by omega)] at hv
    obtain ⟨y, hy, _⟩ := (one_still (by rw [eo r H']; exact ho)).1 hv
    refine (one_still ho).2 ⟨y, hy, ?_⟩
    have ep : stepOf C full (F.puto o.dst y) (H.upd none) p = .call d := (stepOf_agree a3).trans hp
    unfold one
    rw [ep]
    have h1 : CallVC C (lvl C.SU (some ml) p) F H d w fun r _ H' w2 => k ((F.puto o.dst y).puto p.dst r) H' w2 := CallVC.mono hL h' fun r F' H' w2 _ _ _ hF hv => by
     rw [hF (by omega)] at hv
     obtain ⟨z, hz, hv⟩ := (one_still (by rw [eo r H']; exact ho)).1 hv
     rw [still_fun ho hy hz, puto_comm a2']
     exact hv
    exact CallVC.mono (still_live hC hL ho hy) (CallVC.frame (F1 := F.puto o.dst y) (j := fun r H' w2 => k ((F.puto o.dst y).puto p.dst r) H' w2) h1) fun r F' H' w2 _ _ _ hF hv => by
     rw [hF (by omega)]; exact hv
   ·obtain ⟨co, _⟩ := stepOf_call (ml := ml) ho
    omega
  ·rw [al] at h'
   have eo : ∀ r : AV, stepOf C full (F.puto p.dst r) H o = stepOf C full F H o := fun r => stepOf_agree a1
   have h2 : CallVC C 0 F H d w fun r _ _ w2 => one C (some ml) full o k (F.puto p.dst r) H w2 := CallVC.mono hL h' fun r F' H' w2 _ _ hH hF hv => by
    rw [hH rfl, hF (by omega)] at hv
    exact hv
   rcases step_cases (C := C) (stepOf C full F H o) with ho | ⟨Ψo, uo, ho⟩ | ⟨d', ho⟩
   ·obtain ⟨r, F', H', w2, _, _, hv⟩ := h2.some hL
    unfold one at hv
    rw [eo r, ho] at hv
    exact hv.elim
   ·obtain ⟨r, F', H', w2, _, _, hv⟩ := h2.some hL
    obtain ⟨y, hy, _⟩ := (one_still (by rw [eo r]; exact ho)).1 hv
    refine (one_still ho).2 ⟨y, hy, ?_⟩
    have ep : stepOf C full (F.puto o.dst y) (H.upd uo) p = .call d := ((stepOf_agree a3).trans (heap_swap ho (memOk_symm hm) a2' hc)).trans hp
    unfold one
    rw [ep, al]
    have hids : ∀ i, Reach H d.ids i → (H.upd uo) i = H i := fun i hi => by
     rcases stepOf_upd (ml := ml) ho with e | e | ⟨e, d', c, hd, e2, h0⟩
     ·rw [e]; rfl
     ·omega
     ·rw [e2]
      show (H.put d' c) i = H i
      rw [Hp.put_at, if_neg]
      intro e3
      exact reach_closed hL.hp (cid hc) hi (e3 ▸ h0)
    have h3 := CallVC.frame (F1 := F.puto o.dst y) (j := fun r H' w2 => one C (some ml) full o k (F.puto p.dst r) H w2) (CallVC.heap (H' := H.upd uo) (j := fun r w2 => one C (some ml) full o k (F.puto p.dst r) H w2) hids h2)
    refine CallVC.mono (still_live hC hL ho hy) h3 fun r F' H' w2 _ _ hH hF hv => ?_
    obtain ⟨z, hz, hv⟩ := (one_still (by rw [eo r]; exact ho)).1 hv
    rw [hH rfl, hF (by omega), still_fun ho hy hz, puto_comm a2']
    exact hv
   ·obtain ⟨co, _⟩ := stepOf_call (ml := ml) ho
    omega

theorem one_mono (hC : C.Ok) {k' : Fr → Hp → World → Prop} (hL : Live C F H w) (h : one C (some ml) full p k F H w) (hk : ∀ F' H' w', Live C F' H' w' → k F' H' w' → k' F' H' w') : one C (some ml) full p k' F H w := by
 rcases step_cases (C := C) (stepOf C full F H p) with hp | ⟨Ψp, up, hp⟩ | ⟨d, hp⟩
 ·unfold one at h; rw [hp] at h; exact h.elim
 ·obtain ⟨x, hx, h⟩ := (one_still hp).1 h
  exact (one_still hp).2 ⟨x, hx, hk _ _ _ (still_live hC hL hp hx) h⟩
 ·have hb : stepOf C full F H p ≠ .bad := fun e => by rw [e] at hp; cases hp
  have hd := (stepOf_inv hb).1
  unfold one at h ⊢
  rw [hp] at h ⊢
  refine CallVC.mono hL h fun r F' H' w2 hL2 hri _ _ hv => hk _ _ _ ?_ hv
  obtain ⟨β, a, w1, hr, hk1⟩ := hL2.rel
  exact Live.of (hr.put hd hri) hk1

theorem bubble (hC : C.Ok) {K : Fr → Hp → World → Prop} {post : List Oper} : ∀ (pre : List Oper) (F : Fr) (H : Hp) (w : World), (∀ q ∈ pre, indep C.SU ml full q o = true) → Live C F H w → vcOps C (some ml) full (pre ++ o :: post) K F H w → vcOps C (some ml) full (o :: (pre ++ post)) K F H w
 | [], F, H, w, _, _, h => h
 | q :: r, F, H, w, hi, hL, h => by
  have h1 : one C (some ml) full q (vcOps C (some ml) full (o :: (r ++ post)) K) F H w := one_mono hC hL (show one C (some ml) full q (vcOps C (some ml) full (r ++ o :: post) K) F H w from h) fun F' H' w' hL' hv => bubble hC r F' H' w' (fun q' hq' => hi q' (by simp [hq'])) hL' hv
  exact swap hC hL (hi q (by simp)) h1
end
end Go.Proofs.YtofdiijioejljaaGreat
