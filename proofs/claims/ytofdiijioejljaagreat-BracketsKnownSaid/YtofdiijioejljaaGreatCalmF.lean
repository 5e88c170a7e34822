/- Calm walks: the regions that draw, the ways through a function's text, its beginning and its end. -/
import Derived.Test.YtofdiijioejljaaGreatCalmE
set_option linter.all false
namespace Go.Proofs.YtofdiijioejljaaGreat
open Go.RowKit

section
variable {C : Cx} {full : Array Oper} {ml : List FuncId} {Q : Exit → Act → World → Prop}

theorem binds_on {j d : Nat} {o : Oper} (ho : full[j]? = some o) : d ∈ directOf full j ↔ ∃ e ∈ o.after.toList, Region.binds .any e = true ∧ e.on = d := by
 unfold directOf
 rw [ho]
 simp only [List.mem_map, List.mem_filter]
 exact ⟨fun ⟨e, ⟨h1, h2⟩, h3⟩ => ⟨e, h1, h2, h3⟩, fun ⟨e, h1, h2, h3⟩ => ⟨e, ⟨h1, h2⟩, h3⟩⟩
theorem mem_ready {listed : Array Bool} {i : Nat} : i ∈ Region.ready .any full listed ↔ i < full.size ∧ listed.getD i true = false ∧ ∀ d ∈ directOf full i, listed.getD d false = true := by
 unfold Region.ready
 rw [List.mem_filter, List.mem_range]
 constructor
 ·rintro ⟨h1, h2⟩
  have ho := Array.getElem?_eq_getElem h1
  simp only [Bool.and_eq_true, Bool.not_eq_true', ho, Option.map_some, Option.getD_some, Array.all_eq_true_iff_forall_mem, Bool.or_eq_true] at h2
  refine ⟨h1, h2.1, fun d hd => ?_⟩
  obtain ⟨e, he, hb, rfl⟩ := (binds_on ho).1 hd
  rcases h2.2 e (by simpa using he) with h | h
  ·rw [hb] at h; cases h
  ·exact h
 ·rintro ⟨h1, h2, h3⟩
  refine ⟨h1, ?_⟩
  have ho := Array.getElem?_eq_getElem h1
  simp only [Bool.and_eq_true, Bool.not_eq_true', ho, Option.map_some, Option.getD_some, Array.all_eq_true_iff_forall_mem, Bool.or_eq_true]
  refine ⟨h2, fun e he => ?_⟩
  cases hb : Region.binds .any e with
  | false => exact .inl rfl
  | true => exact .inr (h3 _ ((binds_on ho).2 ⟨e, by simpa using he, hb, rfl⟩))

theorem reach_listed {listed : Array Bool} (hback : ∀ j, j < full.size → ∀ d ∈ directOf full j, d < j) (hdown : ∀ j, j < full.size → listed.getD j true = true → ∀ d ∈ directOf full j, listed.getD d false = true) (hsz : listed.size = full.size) {i : Nat} :
  ∀ (f j : Nat), j < full.size → (∀ d ∈ directOf full j, listed.getD d false = true) → reach full f j i = true → listed.getD i false = true
 | 0, j, _, hj, h => hj i (by unfold reach at h; simpa using h)
 | f + 1, j, hjs, hj, h => by
  unfold reach at h
  rcases Bool.or_eq_true _ _ ▸ h with e | e
  ·exact hj i (by simpa using e)
  ·obtain ⟨d, hd, e⟩ := List.any_eq_true.1 e
   rw [Bool.and_eq_true] at e
   have hdj := hback j hjs d hd
   have hl := hj d hd
   refine reach_listed hback hdown hsz f d (by omega) (hdown d (by omega) ?_) e.2
   have : d < listed.size := by omega
   rw [Array.getD_eq_getD_getElem?] at hl ⊢
   rw [Array.getElem?_eq_getElem this] at hl ⊢
   exact hl
theorem drawn_any (hC : C.Ok) (hchk : drawOk C.SU ml full = true) {K : Fr → Hp → World → Prop} (hQ : ∀ β F H w a w', K F H w → Rel C β F H a w' → KpS C.K w w' → Q .normal a w') :
  ∀ (fuel : Nat) (listed : Array Bool) (rem : List Nat) (β : Nat → Nat) (F : Fr) (H : Hp) (w : World) (a : Act) (w' : World), listed.size = full.size → rem.Pairwise (· < ·) → (∀ x, x ∈ rem ↔ x < full.size ∧ listed.getD x true = false) → rem.length ≤ fuel →
   (∀ j, j < full.size → listed.getD j true = true → ∀ d ∈ directOf full j, listed.getD d false = true) →
   vcOps C (some ml) full (rem.filterMap (full[·]?)) K F H w → Rel C β F H a w' → KpS C.K w w' → wpAny C.P .any full Q fuel listed a w' := by
 have hback : ∀ j, j < full.size → ∀ d ∈ directOf full j, d < j := fun j hj d hd => by
  unfold drawOk at hchk
  have := List.all_eq_true.1 hchk j (List.mem_range.2 hj)
  rw [Bool.and_eq_true] at this
  exact Nat.le_of_ble_eq_true (List.all_eq_true.1 this.1 d hd)
 have hpair : ∀ i j, i < j → j < full.size → drawPair C.SU ml full i j = true := fun i j hij hj => by
  unfold drawOk at hchk
  have := List.all_eq_true.1 hchk j (List.mem_range.2 hj)
  rw [Bool.and_eq_true] at this
  exact List.all_eq_true.1 this.2 i (List.mem_range.2 hij)
 intro fuel
 induction fuel with
 | zero =>
  intro listed rem β F H w a w' hsz hpw hrem hlen hdown h hr hk
  have h0 : rem = [] := List.eq_nil_of_length_eq_zero (by omega)
  subst h0
  refine ⟨?_, hQ β F H w a w' h hr hk⟩
  rw [List.eq_nil_iff_forall_not_mem]
  intro i hi
  have := mem_ready.1 hi
  exact absurd ((hrem i).2 ⟨this.1, this.2.1⟩) (by simp)
 | succ fuel ih =>
  intro listed rem β F H w a w' hsz hpw hrem hlen hdown h hr hk
  constructor
  ·intro hnone
   cases rem with
   | nil => exact hQ β F H w a w' h hr hk
   | cons i r =>
    exfalso
    have hi := (hrem i).1 (by simp)
    have : i ∈ Region.ready .any full listed := mem_ready.2 ⟨hi.1, hi.2, fun d hd => by
     have hdi := hback i hi.1 d hd
     cases hl : listed.getD d true with
     | true =>
      rw [Array.getD_eq_getD_getElem?] at hl ⊢
      have : d < listed.size := by omega
      rw [Array.getElem?_eq_getElem this] at hl ⊢
      exact hl
     | false =>
      have hm := (hrem d).2 ⟨by omega, hl⟩
      rcases List.mem_cons.1 hm with e | e
      ·omega
      ·have := (List.pairwise_cons.1 hpw).1 d e; omega⟩
    rw [hnone] at this
    cases this
  ·intro i hi
   obtain ⟨hi1, hi2, hi3⟩ := mem_ready.1 hi
   obtain ⟨pre, post, rfl⟩ := List.append_of_mem ((hrem i).2 ⟨hi1, hi2⟩)
   have ho := Array.getElem?_eq_getElem hi1
   generalize full[i] = o at ho
   have hpp := List.pairwise_append.1 hpw
   have hlt : ∀ p ∈ pre, p < i := fun p hp => hpp.2.2 p hp i (by simp)
   have hgt : ∀ p ∈ post, i < p := (List.pairwise_cons.1 hpp.2.1).1
   have hb : vcOps C (some ml) full (o :: (pre.filterMap (full[·]?) ++ post.filterMap (full[·]?))) K F H w := by
    refine bubble hC _ F H w (fun q hq => ?_) (Live.of hr hk) (by
     rw [List.filterMap_append, List.filterMap_cons_some ho] at h
     exact h)
    obtain ⟨p, hp, hpq⟩ := List.mem_filterMap.1 hq
    have hpl := ((hrem p).1 (by simp [hp])).2
    have hpi := hlt p hp
    have := hpair p i hpi hi1
    unfold drawPair at this
    rw [hpq, ho] at this
    simp only [Bool.or_eq_true] at this
    have hno : listed.getD p false = false := by
     have : p < listed.size := by omega
     rw [Array.getD_eq_getD_getElem?] at hpl ⊢
     rw [Array.getElem?_eq_getElem this] at hpl ⊢
     exact hpl
    rcases this with e | e
    ·exact e
    ·have := reach_listed hback hdown hsz full.size i hi1 hi3 e
     rw [hno] at this; cases this
   have hone : one C (some ml) full o (vcOps C (some ml) full ((pre ++ post).filterMap (full[·]?)) K) F H w := by
    rw [List.filterMap_append]
    exact hb
   have := one_sound (Q := Q) (next := wpAny C.P .any full Q fuel (listed.setIfInBounds i true)) hC hone hr hk fun β' F' H' w1 a' w1' h1 h2 h3 => by
    refine ih (listed.setIfInBounds i true) (pre ++ post) β' F' H' w1 a' w1' (by simp [hsz]) ?_ ?_ ?_ ?_ h1 h2 h3
    ·exact List.pairwise_append.2 ⟨hpp.1, (List.pairwise_cons.1 hpp.2.1).2, fun x hx y hy => hpp.2.2 x hx y (by simp [hy])⟩
    ·intro x
     by_cases hx : x = i
     ·subst hx
      constructor
      ·intro hm
       rcases List.mem_append.1 hm with e | e
       ·exact absurd (hlt _ e) (by omega)
       ·exact absurd (hgt _ e) (by omega)
      ·rintro ⟨_, e⟩
       simp [Array.getD_eq_getD_getElem?, Array.getElem?_setIfInBounds, hsz, hi1] at e
     ·have e1 : (listed.setIfInBounds i true).getD x true = listed.getD x true := by
       rw [Array.getD_eq_getD_getElem?, Array.getElem?_setIfInBounds, if_neg (fun e => hx e.symm), ← Array.getD_eq_getD_getElem?]
      rw [e1, ← hrem x]
      simp [hx]
    ·have : (pre ++ i :: post).length = (pre ++ post).length + 1 := by simp; omega
     omega
    ·intro j hj hl d hd
     have hdl : listed.getD d false = true → (listed.setIfInBounds i true).getD d false = true := fun e => by
      by_cases hx : d = i
      ·subst hx
       simp [Array.getD_eq_getD_getElem?, Array.getElem?_setIfInBounds, hsz, hi1]
      ·rw [Array.getD_eq_getD_getElem?, Array.getElem?_setIfInBounds, if_neg (fun e => hx e.symm), ← Array.getD_eq_getD_getElem?]; exact e
     by_cases hx : j = i
     ·subst hx; exact hdl (hi3 d hd)
     ·refine hdl (hdown j hj ?_ d hd)
      rwa [Array.getD_eq_getD_getElem?, Array.getElem?_setIfInBounds, if_neg (fun e => hx e.symm), ← Array.getD_eq_getD_getElem?] at hl
   unfold wpOp
   rw [ho]
   simp only
   split
   ·rename_i hw; rw [if_pos hw] at this; exact .inl this
   ·rename_i hw; rw [if_neg hw] at this; exact this

theorem range_all : ∀ (l : List Oper) (k : Nat), (∀ j, l[j]? = full[k + j]?) → (List.range' k l.length).filterMap (full[·]?) = l
 | [], _, _ => rfl
 | o :: l, k, h => by
  rw [List.length_cons, List.range'_succ, List.filterMap_cons_some (b := o) (by simpa using (h 0).symm), range_all l (k + 1) (fun j => by
   have := h (j + 1)
   simpa [Nat.add_assoc, Nat.add_comm 1 j] using this)]
theorem Rel.drew {β : Nat → Nat} {F : Fr} {H : Hp} {a : Act} {w : World} (hr : Rel C β F H a w) : Rel C β F H a w.drew :=
 ⟨hr.defers, hr.size, hr.tmp, fun i t cs h => ⟨(hr.own i t cs h).new, (hr.own i t cs h).ty, (hr.own i t cs h).cls, (hr.own i t cs h).ok⟩, hr.apart, hr.closed, hr.fits, hr.hp, C.thn hr.old ((Beh.refl _).drew)⟩
theorem KpS.drew {K : KC} {w w' : World} (h : KpS K w w') : KpS K w w'.drew := ⟨h.size, h.cell, h.block, h.map⟩

theorem region_drawn (hC : C.Ok) (hm : C.P.follows .mixedOrders = true) (hchk : drawOk C.SU ml full = true) {K : Fr → Hp → World → Prop} (hQ : ∀ β F H w a w', K F H w → Rel C β F H a w' → KpS C.K w w' → Q .normal a w')
  {id : Nat} {β : Nat → Nat} {F : Fr} {H : Hp} {w : World} {a : Act} {w' : World} (h : vcOps C (some ml) full full.toList K F H w) (hr : Rel C β F H a w') (hk : KpS C.K w w') : (Code.region id full true).wp C.P Q a w' := by
 refine wp_region_any hm ?_
 refine drawn_any hC hchk hQ full.size (Array.replicate full.size false) (List.range full.size) β F H w a w'.drew (by simp) List.pairwise_lt_range ?_ (by simp) ?_ ?_ hr.drew hk.drew
 ·intro x
  rw [List.mem_range]
  constructor
  ·intro hx
   refine ⟨hx, ?_⟩
   simp [Array.getD_eq_getD_getElem?, Array.getElem?_replicate, hx]
  ·exact fun h => h.1
 ·intro j hj hl
  simp [Array.getD_eq_getD_getElem?, Array.getElem?_replicate, hj] at hl
 ·have : (List.range full.size).filterMap (full[·]?) = full.toList := by
   rw [List.range_eq_range', ← Array.length_toList]
   exact range_all full.toList 0 (fun j => by simp)
  rw [this]
  exact h

def allL (l : List Nat) (p : Nat → Prop) : Prop := match l with
 | [] => True
 | i :: r => p i ∧ allL r p
theorem allL_mem {p : Nat → Prop} : ∀ {l : List Nat}, allL l p → ∀ i ∈ l, p i
 | j :: r, h, i, hi => by
  rcases List.mem_cons.1 hi with rfl | e
  ·exact h.1
  ·exact allL_mem h.2 i e
def isIn (l : List Nat) (i : Nat) : Bool := l.any (Nat.beq i)
theorem isIn_iff {l : List Nat} {i : Nat} : isIn l i = true ↔ i ∈ l := by
 unfold isIn
 rw [List.any_eq_true]
 exact ⟨fun ⟨y, hy, e⟩ => (Nat.eq_of_beq_eq_true e) ▸ hy, fun h => ⟨i, h, by simp⟩⟩
def rdy (full : Array Oper) (done : List Nat) : List Nat := (List.range full.size).filter fun i => !(isIn done i) && (directOf full i).all (isIn done)
def Lists (full : Array Oper) (done : List Nat) (listed : Array Bool) : Prop := listed.size = full.size ∧ (∀ i, i < full.size → (listed.getD i true = true ↔ i ∈ done)) ∧ ∀ i ∈ done, i < full.size
theorem rdy_ready {done : List Nat} {listed : Array Bool} (h : Lists full done listed) {i : Nat} : i ∈ Region.ready .any full listed ↔ i ∈ rdy full done := by
 rw [mem_ready]
 unfold rdy
 rw [List.mem_filter, List.mem_range, Bool.and_eq_true, List.all_eq_true]
 have hf : ∀ d, listed.getD d false = true ↔ d < full.size ∧ d ∈ done := fun d => by
  by_cases hd : d < full.size
  ·have hl : d < listed.size := by rw [h.1]; exact hd
   have := h.2.1 d hd
   rw [Array.getD_eq_getD_getElem?] at this ⊢
   rw [Array.getElem?_eq_getElem hl] at this ⊢
   exact ⟨fun e => ⟨hd, this.1 e⟩, fun e => this.2 e.2⟩
  ·have hl : ¬ d < listed.size := by rw [h.1]; exact hd
   rw [Array.getD_eq_getD_getElem?, Array.getElem?_eq_none (by omega)]
   exact ⟨fun e => (by cases e), fun e => absurd e.1 hd⟩
 constructor
 ·rintro ⟨h1, h2, h3⟩
  refine ⟨h1, ?_, fun d hd => isIn_iff.2 ((hf d).1 (h3 d hd)).2⟩
  cases hb : isIn done i with
  | false => rfl
  | true =>
   have := (h.2.1 i h1).2 (isIn_iff.1 hb)
   rw [h2] at this; cases this
 ·rintro ⟨h1, h2, h3⟩
  refine ⟨h1, ?_, fun d hd => (hf d).2 ?_⟩
  ·cases hb : listed.getD i true with
   | false => rfl
   | true =>
    rw [isIn_iff.2 ((h.2.1 i h1).1 hb)] at h2; cases h2
  ·have := isIn_iff.1 (h3 d hd)
   exact ⟨h.2.2 d this, this⟩
def vcAll (C : Cx) (ml : List FuncId) (full : Array Oper) : Nat → List Nat → (Fr → Hp → World → Prop) → Fr → Hp → World → Prop
 | 0, _, K, F, H, w => K F H w
 | f + 1, done, K, F, H, w => match rdy full done with
  | [] => K F H w
  | l => allL l fun i => match full[i]? with
   | some o => one C (some ml) full o (vcAll C ml full f (i :: done) K) F H w
   | none => False
theorem vcAll_sound (hC : C.Ok) {K : Fr → Hp → World → Prop} (hQ : ∀ β F H w a w', K F H w → Rel C β F H a w' → KpS C.K w w' → Q .normal a w') :
  ∀ (f : Nat) (done : List Nat) (listed : Array Bool) (β : Nat → Nat) (F : Fr) (H : Hp) (w : World) (a : Act) (w' : World), Lists full done listed → ((List.range full.size).filter fun i => !isIn done i).length ≤ f → vcAll C ml full f done K F H w → Rel C β F H a w' → KpS C.K w w' → wpAny C.P .any full Q f listed a w' := by
 intro f
 induction f with
 | zero =>
  intro done listed β F H w a w' hL hf h hr hk
  refine ⟨?_, hQ β F H w a w' h hr hk⟩
  rw [List.eq_nil_iff_forall_not_mem]
  intro i hi
  have hi' := (rdy_ready hL).1 hi
  unfold rdy at hi'
  rw [List.mem_filter, Bool.and_eq_true] at hi'
  have : i ∈ (List.range full.size).filter fun i => !isIn done i := List.mem_filter.2 ⟨hi'.1, hi'.2.1⟩
  rw [List.eq_nil_of_length_eq_zero (Nat.le_zero.1 hf)] at this
  cases this
 | succ f ih =>
  intro done listed β F H w a w' hL hf h hr hk
  unfold vcAll at h
  constructor
  ·intro hnone
   have : rdy full done = [] := by
    rw [List.eq_nil_iff_forall_not_mem]
    intro i hi
    have := (rdy_ready hL).2 hi
    rw [hnone] at this; cases this
   rw [this] at h
   exact hQ β F H w a w' h hr hk
  ·intro i hi
   have h' : allL (rdy full done) fun i => match full[i]? with
    | some o => one C (some ml) full o (vcAll C ml full f (i :: done) K) F H w
    | none => False := by
    cases hl : rdy full done with
    | nil => exact trivial
    | cons x r => rw [hl] at h; exact h
   have hi' := (rdy_ready hL).1 hi
   have hone := allL_mem h' i hi'
   obtain ⟨hi1, hi2, _⟩ := mem_ready.1 hi
   unfold rdy at hi'
   rw [List.mem_filter, Bool.and_eq_true] at hi'
   have ho := Array.getElem?_eq_getElem hi1
   generalize full[i] = o at ho
   rw [ho] at hone
   have := one_sound (Q := Q) (next := wpAny C.P .any full Q f (listed.setIfInBounds i true)) hC hone hr hk fun β' F' H' w1 a' w1' h1 h2 h3 =>
    ih (i :: done) (listed.setIfInBounds i true) β' F' H' w1 a' w1' ⟨by simp [hL.1], fun j hj => by
     by_cases e : j = i
     ·subst e
      have hl : j < listed.size := by rw [hL.1]; exact hj
      simp [Array.getD_eq_getD_getElem?, Array.getElem?_setIfInBounds, hl]
     ·rw [Array.getD_eq_getD_getElem?, Array.getElem?_setIfInBounds, if_neg (fun e' => e e'.symm), ← Array.getD_eq_getD_getElem?, hL.2.1 j hj]
      simp [e], fun j hj => by
     rcases List.mem_cons.1 hj with e | e
     ·rw [e]; exact hi1
     ·exact hL.2.2 j e⟩ (by
     have e1 : ((List.range full.size).filter fun j => !isIn (i :: done) j) = ((List.range full.size).filter fun j => !isIn done j).filter fun j => !Nat.beq j i := by
      rw [List.filter_filter]
      congr 1
      funext j
      show (!(Nat.beq j i || isIn done j)) = _
      rw [Bool.not_or]
     have hlt : (((List.range full.size).filter fun j => !isIn done j).filter fun j => !Nat.beq j i).length < ((List.range full.size).filter fun j => !isIn done j).length :=
      List.length_filter_lt_length_iff_exists.2 ⟨i, List.mem_filter.2 ⟨hi'.1, hi'.2.1⟩, by simp⟩
     rw [e1]
     omega) h1 h2 h3
   unfold wpOp
   rw [ho]
   simp only
   split
   ·rename_i hw; rw [if_pos hw] at this; exact .inl this
   ·rename_i hw; rw [if_neg hw] at this; exact this
theorem region_all (hC : C.Ok) (hm : C.P.follows .mixedOrders = true) {K : Fr → Hp → World → Prop} (hQ : ∀ β F H w a w', K F H w → Rel C β F H a w' → KpS C.K w w' → Q .normal a w')
  {id : Nat} {β : Nat → Nat} {F : Fr} {H : Hp} {w : World} {a : Act} {w' : World} (h : vcAll C ml full full.size [] K F H w) (hr : Rel C β F H a w') (hk : KpS C.K w w') : (Code.region id full true).wp C.P Q a w' := by
 refine wp_region_any hm ?_
 refine vcAll_sound hC hQ full.size [] (Array.replicate full.size false) β F H w a w'.drew ⟨by simp, fun i hi => ?_, fun i hi => (by cases hi)⟩ ?_ h hr.drew hk.drew
 ·simp [Array.getD_eq_getD_getElem?, Array.getElem?_replicate, hi]
 ·exact Nat.le_trans (List.length_filter_le _ _) (by simp)
end
end Go.Proofs.YtofdiijioejljaaGreat
