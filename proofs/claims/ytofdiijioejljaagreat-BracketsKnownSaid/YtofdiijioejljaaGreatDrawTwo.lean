/- Calm walks: a drawn region in which one pair of operations is not apart, and either may come first: it is walked in two orders. -/
import Derived.Test.YtofdiijioejljaaGreatCalmT
set_option linter.all false
namespace Go.Proofs.YtofdiijioejljaaGreat
open Go.RowKit

def ordOk (su : TypeId → Bool) (ml : List FuncId) (full : Array Oper) (x y : Nat) : List Nat → List Nat → Bool
 | _, [] => true
 | pre, i :: r => pre.all (fun p => drawPair su ml full p i || (Nat.beq p x && Nat.beq i y)) && ordOk su ml full x y (i :: pre) r
theorem ordOk_at {su : TypeId → Bool} {ml : List FuncId} {full : Array Oper} {x y i : Nat} {post : List Nat} : ∀ {pre pre0 : List Nat}, ordOk su ml full x y pre0 (pre ++ i :: post) = true → ∀ p, p ∈ pre ∨ p ∈ pre0 → drawPair su ml full p i = true ∨ (p = x ∧ i = y)
 | [], pre0, h, p, hp => by
  have h' : ordOk su ml full x y pre0 (i :: post) = true := h
  unfold ordOk at h'
  rw [Bool.and_eq_true] at h'
  have := List.all_eq_true.1 h'.1 p (by rcases hp with e | e; · cases e
                                        ·exact e)
  rw [Bool.or_eq_true, Bool.and_eq_true] at this
  rcases this with e | e
  ·exact .inl e
  ·exact .inr ⟨Nat.eq_of_beq_eq_true e.1, Nat.eq_of_beq_eq_true e.2⟩
 | q :: pre, pre0, h, p, hp => by
  have h' : ordOk su ml full x y pre0 (q :: (pre ++ i :: post)) = true := h
  unfold ordOk at h'
  rw [Bool.and_eq_true] at h'
  refine ordOk_at (pre := pre) h'.2 p ?_
  rcases hp with e | e
  ·rcases List.mem_cons.1 e with e | e
   ·exact .inr (by simp [e])
   ·exact .inl e
  ·exact .inr (by simp [e])
def backOk (full : Array Oper) : Bool := (List.range full.size).all fun j => (directOf full j).all (fun d => Nat.blt d j)

def noCall (su : TypeId → Bool) (ml : List FuncId) (o : Oper) : Bool := match o.op with
 | .call _ => false
 | .buildSlice _ _ _ => false
 | .store _ _ _ => true
 | _ => Nat.ble (memClass su ml o) 2
theorem noCall_not {C : Cx} {full : Array Oper} {F : Fr} {H : Hp} {ml : List FuncId} {o : Oper} {d : Doer} (h : noCall C.SU ml o = true) (e : stepOf C full F H o = .call d) : False := by
 rcases stepOf_act e with e | e | e
 ·cases e
 ·cases e
 ·by_cases hs : ∃ t x y, o.op = .store t x y
  ·obtain ⟨t, x, y, hop⟩ := hs
   unfold act at e
   rw [hop] at e
   dsimp only at e
   split at e
   ·split at e
    ·exact (Plain.storeA _ _ _ _ _ _).no_call e
    ·cases e
   ·split at e
    ·unfold pokeA at e
     cases hb : (Nat.beq (cellsOf _).length _ && (cellsOf _).all okLeaf) <;> rw [hb] at e <;> cases e
    ·cases e
   ·cases e
  ·unfold noCall at h
   rcases act_call e with ⟨c, f, g, first, l, cap, hop, hcl, _⟩ | ⟨vs, _, _, ⟨t, n, ps, hop, hsu⟩ | h5⟩
   ·rw [hop] at h; cases h
   ·rw [hop] at h; cases h
   ·have h6 := h5 C.SU ml
    split at h
    ·cases h
    ·cases h
    ·rename_i e'; exact hs ⟨_, _, _, e'⟩
    ·have h7 := Nat.le_of_ble_eq_true h
     omega

section
variable {C : Cx} {full : Array Oper} {ml : List FuncId} {Q : Exit → Act → World → Prop}

def left (listed : Array Bool) (σ : List Nat) : List Nat := σ.filter fun x => !listed.getD x true
theorem getD_set {listed : Array Bool} {i x : Nat} (hx : x ≠ i) (b : Bool) : (listed.setIfInBounds i true).getD x b = listed.getD x b := by
 rw [Array.getD_eq_getD_getElem?, Array.getElem?_setIfInBounds, if_neg (fun e => hx e.symm), ← Array.getD_eq_getD_getElem?]
theorem left_take {listed : Array Bool} {i : Nat} {pre post : List Nat} (hnd : (pre ++ i :: post).Nodup) (hi : listed.getD i true = false) (his : i < listed.size) :
  left listed (pre ++ i :: post) = left listed pre ++ i :: left listed post ∧ left (listed.setIfInBounds i true) (pre ++ i :: post) = left listed pre ++ left listed post := by
 have h1 := List.nodup_append.1 hnd
 have h2 := List.nodup_cons.1 h1.2.1
 have hq : ∀ l : List Nat, i ∉ l → left (listed.setIfInBounds i true) l = left listed l := fun l hl => by
  unfold left
  refine List.filter_congr fun x hx => ?_
  rw [getD_set (x := x) (fun e => hl (by rw [← e]; exact hx))]
 have hp : i ∉ pre := fun e => h1.2.2 i e i (by simp) rfl
 constructor
 ·unfold left
  rw [List.filter_append, List.filter_cons_of_pos (by simp [hi])]
 ·show List.filter _ _ = _
  rw [List.filter_append, List.filter_cons_of_neg (by simp [Array.getD_eq_getD_getElem?, Array.getElem?_setIfInBounds, his])]
  congr 1
  ·exact hq pre hp
  ·exact hq post h2.1
theorem take_one (hC : C.Ok) (hback : ∀ j, j < full.size → ∀ d ∈ directOf full j, d < j) {x y : Nat} {σ : List Nat} (hσ : ordOk C.SU ml full x y [] σ = true) (hnd : σ.Nodup) {listed : Array Bool} (hsz : listed.size = full.size)
  (hdown : ∀ j, j < full.size → listed.getD j true = true → ∀ d ∈ directOf full j, listed.getD d false = true) {K : Fr → Hp → World → Prop} {F : Fr} {H : Hp} {w : World} (hL : Live C F H w)
  {i : Nat} {o : Oper} (ho : full[i]? = some o) (hi1 : i < full.size) (hi2 : listed.getD i true = false) (hi3 : ∀ d ∈ directOf full i, listed.getD d false = true) (his : i ∈ σ) (hno : i = y → listed.getD x true = true)
  (h : vcOps C (some ml) full ((left listed σ).filterMap (full[·]?)) K F H w) : one C (some ml) full o (vcOps C (some ml) full ((left (listed.setIfInBounds i true) σ).filterMap (full[·]?)) K) F H w := by
 obtain ⟨pre, post, rfl⟩ := List.append_of_mem his
 obtain ⟨e1, e2⟩ := left_take hnd hi2 (by omega)
 rw [e2]
 rw [e1] at h
 have hb : vcOps C (some ml) full (o :: ((left listed pre).filterMap (full[·]?) ++ (left listed post).filterMap (full[·]?))) K F H w := by
  refine bubble hC _ F H w (fun q hq => ?_) hL (by
   rw [List.filterMap_append, List.filterMap_cons_some ho] at h
   exact h)
  obtain ⟨p, hp, hpq⟩ := List.mem_filterMap.1 hq
  obtain ⟨hp1, hp2⟩ := List.mem_filter.1 hp
  rw [Bool.not_eq_true'] at hp2
  have hno' : listed.getD p false = false := by
   by_cases hps : p < listed.size
   ·rw [Array.getD_eq_getD_getElem?] at hp2 ⊢
    rw [Array.getElem?_eq_getElem hps] at hp2 ⊢
    exact hp2
   ·rw [Array.getD_eq_getD_getElem?, Array.getElem?_eq_none (by omega)]; rfl
  rcases ordOk_at hσ p (.inl hp1) with e | ⟨e, e'⟩
  ·unfold drawPair at e
   rw [hpq, ho] at e
   simp only [Bool.or_eq_true] at e
   rcases e with e | e
   ·exact e
   ·have := reach_listed hback hdown hsz full.size i hi1 hi3 e
    rw [hno'] at this; cases this
  ·have := hno e'
   rw [← e, hp2] at this; cases this
 rw [List.filterMap_append]
 exact hb
theorem one_both {o : Oper} {F : Fr} {H : Hp} {w : World} (hn : noCall C.SU ml o = true) {j k : Fr → Hp → World → Prop} (h1 : one C (some ml) full o j F H w) (h2 : one C (some ml) full o k F H w) : one C (some ml) full o (fun F H w => j F H w ∧ k F H w) F H w := by
 rcases step_cases (C := C) (stepOf C full F H o) with hp | ⟨Ψp, up, hp⟩ | ⟨d, hp⟩
 ·unfold one at h1; rw [hp] at h1; exact h1.elim
 ·obtain ⟨x, hx, h1⟩ := (one_still hp).1 h1
  obtain ⟨y, hy, h2⟩ := (one_still hp).1 h2
  rw [← still_fun hp hx hy] at h2
  exact (one_still hp).2 ⟨x, hx, h1, h2⟩
 ·exact (noCall_not hn hp).elim
theorem drawn_two (hC : C.Ok) (hback : ∀ j, j < full.size → ∀ d ∈ directOf full j, d < j) {x y : Nat} {σ τ : List Nat} (hσ : ordOk C.SU ml full x y [] σ = true) (hτ : ordOk C.SU ml full y x [] τ = true) (hσn : σ.Nodup) (hτn : τ.Nodup) (hσa : ∀ i, i < full.size → i ∈ σ) (hτa : ∀ i, i < full.size → i ∈ τ) (hσb : ∀ i ∈ σ, i < full.size) (hτb : ∀ i ∈ τ, i < full.size) (hxy : x ≠ y) (hcall : full.toList.all (noCall C.SU ml) = true)
  {K : Fr → Hp → World → Prop} (hQ : ∀ β F H w a w', K F H w → Rel C β F H a w' → KpS C.K w w' → Q .normal a w') :
  ∀ (fuel : Nat) (listed : Array Bool) (β : Nat → Nat) (F : Fr) (H : Hp) (w : World) (a : Act) (w' : World), listed.size = full.size → (left listed (List.range full.size)).length ≤ fuel →
   (∀ j, j < full.size → listed.getD j true = true → ∀ d ∈ directOf full j, listed.getD d false = true) →
   (vcOps C (some ml) full ((left listed σ).filterMap (full[·]?)) K F H w ∨ listed.getD y true = true) → (vcOps C (some ml) full ((left listed τ).filterMap (full[·]?)) K F H w ∨ listed.getD x true = true) →
   (vcOps C (some ml) full ((left listed σ).filterMap (full[·]?)) K F H w ∨ vcOps C (some ml) full ((left listed τ).filterMap (full[·]?)) K F H w) →
   Rel C β F H a w' → KpS C.K w w' → wpAny C.P .any full Q fuel listed a w' := by
 have hend : ∀ (listed : Array Bool) (β : Nat → Nat) (F : Fr) (H : Hp) (w : World) (a : Act) (w' : World), (∀ i, i < full.size → listed.getD i true = true) →
   (vcOps C (some ml) full ((left listed σ).filterMap (full[·]?)) K F H w ∨ vcOps C (some ml) full ((left listed τ).filterMap (full[·]?)) K F H w) → Rel C β F H a w' → KpS C.K w w' → Q .normal a w' := by
  intro listed β F H w a w' hall h hr hk
  have hz : ∀ l : List Nat, (∀ i ∈ l, i < full.size) → left listed l = [] := fun l hl => by
   unfold left
   rw [List.filter_eq_nil_iff]
   intro i hi
   rw [hall i (hl i hi)]; simp
  rcases h with h | h
  ·rw [hz σ hσb] at h; exact hQ β F H w a w' h hr hk
  ·rw [hz τ hτb] at h; exact hQ β F H w a w' h hr hk
 have hnon : ∀ (listed : Array Bool), listed.size = full.size → (∀ j, j < full.size → listed.getD j true = true → ∀ d ∈ directOf full j, listed.getD d false = true) → Region.ready .any full listed = [] → ∀ i, i < full.size → listed.getD i true = true := by
  intro listed hsz hdown hnone i
  induction i using Nat.strongRecOn with
  | _ i ihh =>
   intro hi
   cases hl : listed.getD i true with
   | true => rfl
   | false =>
    exfalso
    have : i ∈ Region.ready .any full listed := mem_ready.2 ⟨hi, hl, fun d hd => by
     have hdi := hback i hi d hd
     have h1 := ihh d hdi (by omega)
     rw [Array.getD_eq_getD_getElem?] at h1 ⊢
     rw [Array.getElem?_eq_getElem (show d < listed.size by omega)] at h1 ⊢
     exact h1⟩
    rw [hnone] at this
    cases this
 intro fuel
 induction fuel with
 | zero =>
  intro listed β F H w a w' hsz hlen hdown h1 h2 h3 hr hk
  have hall : ∀ i, i < full.size → listed.getD i true = true := fun i hi => by
   cases hl : listed.getD i true with
   | true => rfl
   | false =>
    have : i ∈ left listed (List.range full.size) := List.mem_filter.2 ⟨List.mem_range.2 hi, by rw [hl]; rfl⟩
    rw [List.eq_nil_of_length_eq_zero (Nat.le_zero.1 hlen)] at this
    cases this
  refine ⟨?_, hend listed β F H w a w' hall h3 hr hk⟩
  rw [List.eq_nil_iff_forall_not_mem]
  intro i hi
  have := mem_ready.1 hi
  rw [hall i this.1] at this
  exact absurd this.2.1 (by simp)
 | succ fuel ih =>
  intro listed β F H w a w' hsz hlen hdown h1 h2 h3 hr hk
  constructor
  ·intro hnone
   exact hend listed β F H w a w' (hnon listed hsz hdown hnone) h3 hr hk
  ·intro i hi
   obtain ⟨hi1, hi2, hi3⟩ := mem_ready.1 hi
   have ho := Array.getElem?_eq_getElem hi1
   generalize full[i] = o at ho
   have hL := Live.of hr hk
   have hset : (listed.setIfInBounds i true).getD i true = true := by simp [Array.getD_eq_getD_getElem?, Array.getElem?_setIfInBounds, hsz, hi1]
   have hmono : ∀ z, listed.getD z true = true → (listed.setIfInBounds i true).getD z true = true := fun z hz => by
    by_cases e : z = i
    ·rw [e]; exact hset
    ·rw [getD_set e]; exact hz
   -- one step, by an order that may be taken
   have hone : one C (some ml) full o (fun F' H' w' => (vcOps C (some ml) full ((left (listed.setIfInBounds i true) σ).filterMap (full[·]?)) K F' H' w' ∨ (listed.setIfInBounds i true).getD y true = true) ∧ (vcOps C (some ml) full ((left (listed.setIfInBounds i true) τ).filterMap (full[·]?)) K F' H' w' ∨ (listed.setIfInBounds i true).getD x true = true) ∧ (vcOps C (some ml) full ((left (listed.setIfInBounds i true) σ).filterMap (full[·]?)) K F' H' w' ∨ vcOps C (some ml) full ((left (listed.setIfInBounds i true) τ).filterMap (full[·]?)) K F' H' w')) F H w := by
    have hnc : noCall C.SU ml o = true := List.all_eq_true.1 hcall o (List.mem_of_getElem? (by simpa using ho))
    have s1 : ∀ h : vcOps C (some ml) full ((left listed σ).filterMap (full[·]?)) K F H w, (i = y → listed.getD x true = true) → one C (some ml) full o (vcOps C (some ml) full ((left (listed.setIfInBounds i true) σ).filterMap (full[·]?)) K) F H w :=
     fun h hno => take_one hC hback hσ hσn hsz hdown hL ho hi1 hi2 hi3 (hσa i hi1) hno h
    have s2 : ∀ h : vcOps C (some ml) full ((left listed τ).filterMap (full[·]?)) K F H w, (i = x → listed.getD y true = true) → one C (some ml) full o (vcOps C (some ml) full ((left (listed.setIfInBounds i true) τ).filterMap (full[·]?)) K) F H w :=
     fun h hno => take_one hC hback hτ hτn hsz hdown hL ho hi1 hi2 hi3 (hτa i hi1) hno h
    have f1 : (listed.setIfInBounds i true).getD y true = true → one C (some ml) full o (vcOps C (some ml) full ((left (listed.setIfInBounds i true) τ).filterMap (full[·]?)) K) F H w → one C (some ml) full o (fun F' H' w' => (vcOps C (some ml) full ((left (listed.setIfInBounds i true) σ).filterMap (full[·]?)) K F' H' w' ∨ (listed.setIfInBounds i true).getD y true = true) ∧ (vcOps C (some ml) full ((left (listed.setIfInBounds i true) τ).filterMap (full[·]?)) K F' H' w' ∨ (listed.setIfInBounds i true).getD x true = true) ∧ (vcOps C (some ml) full ((left (listed.setIfInBounds i true) σ).filterMap (full[·]?)) K F' H' w' ∨ vcOps C (some ml) full ((left (listed.setIfInBounds i true) τ).filterMap (full[·]?)) K F' H' w')) F H w :=
     fun e h => one_mono hC hL h fun F' H' w' _ hv => ⟨.inr e, .inl hv, .inr hv⟩
    have f2 : (listed.setIfInBounds i true).getD x true = true → one C (some ml) full o (vcOps C (some ml) full ((left (listed.setIfInBounds i true) σ).filterMap (full[·]?)) K) F H w → one C (some ml) full o (fun F' H' w' => (vcOps C (some ml) full ((left (listed.setIfInBounds i true) σ).filterMap (full[·]?)) K F' H' w' ∨ (listed.setIfInBounds i true).getD y true = true) ∧ (vcOps C (some ml) full ((left (listed.setIfInBounds i true) τ).filterMap (full[·]?)) K F' H' w' ∨ (listed.setIfInBounds i true).getD x true = true) ∧ (vcOps C (some ml) full ((left (listed.setIfInBounds i true) σ).filterMap (full[·]?)) K F' H' w' ∨ vcOps C (some ml) full ((left (listed.setIfInBounds i true) τ).filterMap (full[·]?)) K F' H' w')) F H w :=
     fun e h => one_mono hC hL h fun F' H' w' _ hv => ⟨.inl hv, .inr e, .inl hv⟩
    by_cases hy : listed.getD y true = true
    ·by_cases hx : listed.getD x true = true
     ·rcases h3 with h3 | h3
      ·exact f2 (hmono x hx) (s1 h3 fun _ => hx)
      ·exact f1 (hmono y hy) (s2 h3 fun _ => hy)
     ·exact f1 (hmono y hy) (s2 (h2.resolve_right hx) fun _ => hy)
    ·have g1 := h1.resolve_right hy
     by_cases hx : listed.getD x true = true
     ·exact f2 (hmono x hx) (s1 g1 fun _ => hx)
     ·have g2 := h2.resolve_right hx
      by_cases ey : i = y
      ·subst ey
       exact f1 hset (s2 g2 fun e => absurd e.symm hxy)
      ·by_cases ex : i = x
       ·subst ex
        exact f2 hset (s1 g1 fun e => absurd e hxy)
       ·refine one_mono hC hL (one_both hnc (s1 g1 fun e => absurd e ey) (s2 g2 fun e => absurd e ex)) fun F' H' w' _ hv => ⟨.inl hv.1, .inl hv.2, .inl hv.1⟩
   have := one_sound (Q := Q) (next := wpAny C.P .any full Q fuel (listed.setIfInBounds i true)) hC hone hr hk fun β' F' H' w1 a' w1' g1 g2 g3 => by
    refine ih (listed.setIfInBounds i true) β' F' H' w1 a' w1' (by simp [hsz]) ?_ ?_ g1.1 g1.2.1 g1.2.2 g2 g3
    ·obtain ⟨pre, post, e⟩ := List.append_of_mem (List.mem_range.2 hi1)
     have hnd : (pre ++ i :: post).Nodup := e ▸ List.nodup_range
     obtain ⟨e1, e2⟩ := left_take hnd hi2 (by omega)
     rw [e, e1] at hlen
     rw [e, e2]
     simp at hlen ⊢; omega
    ·intro j hj hl d hd
     have hdl : listed.getD d false = true → (listed.setIfInBounds i true).getD d false = true := fun e => by
      by_cases hx : d = i
      ·subst hx
       simp [Array.getD_eq_getD_getElem?, Array.getElem?_setIfInBounds, hsz, hi1]
      ·rw [getD_set hx]; exact e
     by_cases hx : j = i
     ·subst hx; exact hdl (hi3 d hd)
     ·rw [getD_set hx] at hl
      exact hdl (hdown j hj hl d hd)
   unfold wpOp
   rw [ho]
   simp only
   split
   ·rename_i hw; rw [if_pos hw] at this; exact .inl this
   ·rename_i hw; rw [if_neg hw] at this; exact this
theorem left_none {n : Nat} {σ : List Nat} (h : ∀ i ∈ σ, i < n) : left (Array.replicate n false) σ = σ := by
 unfold left
 rw [List.filter_eq_self]
 intro i hi
 simp [Array.getD_eq_getD_getElem?, Array.getElem?_replicate, h i hi]
def twoOk (su : TypeId → Bool) (ml : List FuncId) (full : Array Oper) (x y : Nat) (τ : List Nat) : Bool :=
 backOk full && (ordOk su ml full x y [] (List.range full.size) && ordOk su ml full y x [] τ) && (full.toList.all (noCall su ml) && !Nat.beq x y) && (decide τ.Nodup && (τ.all (fun i => Nat.blt i full.size) && (List.range full.size).all (fun i => τ.contains i)))
theorem VS.draw2 {Q : Exit → Act → World → Prop} {k : List It} {F : Fr} {H : Hp} {w : World} (hC : C.Ok) (hm : C.P.follows .mixedOrders = true) {id : Nat} {ops : Array Oper} (x y : Nat) (τ : List Nat) (hchk : twoOk C.SU [] ops x y τ = true)
  (L : List (Nat × AV)) (M : List (Nat × (TypeId × List AV))) (h3 : closedL L M = true) (h4 : ClosedM M M)
  (h1 : vcOps C (some []) ops ops.toList (fun F' H' w' => AllAt F' L ∧ AllAtH H' M ∧ w' = w) F H w) (h2 : vcOps C (some []) ops (τ.filterMap (ops[·]?)) (fun F' H' w' => AllAt F' L ∧ AllAtH H' M ∧ w' = w) F H w) (h : VS C Q k (Fr.of L) (Hp.of M) w) : VS C Q (.code (.region id ops true) :: k) F H w := fun β a w' hr hk => by
 unfold twoOk at hchk
 simp only [Bool.and_eq_true, Bool.not_eq_true', decide_eq_true_iff] at hchk
 obtain ⟨⟨⟨hb, hs, ht⟩, hc, hxy⟩, hn, hl, ha⟩ := hchk
 have hback : ∀ j, j < ops.size → ∀ d ∈ directOf ops j, d < j := fun j hj d hd => Nat.le_of_ble_eq_true (List.all_eq_true.1 (List.all_eq_true.1 hb j (List.mem_range.2 hj)) d hd)
 have hlt : ∀ i ∈ τ, i < ops.size := fun i hi => Nat.le_of_ble_eq_true (List.all_eq_true.1 hl i hi)
 have hr' : (List.range ops.size).filterMap (ops[·]?) = ops.toList := by
  rw [List.range_eq_range', ← Array.length_toList]
  exact range_all ops.toList 0 (fun j => by simp)
 refine wp_region_any hm ?_
 refine drawn_two (K := fun F' H' w' => AllAt F' L ∧ AllAtH H' M ∧ w' = w) hC hback hs ht List.nodup_range hn (fun i hi => List.mem_range.2 hi) (fun i hi => by simpa using List.all_eq_true.1 ha i (List.mem_range.2 hi)) (fun i hi => List.mem_range.1 hi) hlt (fun e => by rw [e, Nat.beq_refl] at hxy; cases hxy) hc (fun β F' H' w1 a w' h' hr hk => VS.narrow L M h'.1 h'.2.1 h3 h4 h β a w' hr (h'.2.2 ▸ hk))
  ops.size (Array.replicate ops.size false) β F H w a w'.drew (by simp) ?_ ?_ ?_ ?_ ?_ hr.drew hk.drew
 ·rw [left_none (fun i hi => List.mem_range.1 hi), List.length_range]; exact Nat.le_refl _
 ·intro j hj hl
  simp [Array.getD_eq_getD_getElem?, Array.getElem?_replicate, hj] at hl
 ·rw [left_none (fun i hi => List.mem_range.1 hi), hr']; exact .inl h1
 ·rw [left_none hlt]; exact .inl h2
 ·rw [left_none hlt]; exact .inr h2
end
end Go.Proofs.YtofdiijioejljaaGreat
