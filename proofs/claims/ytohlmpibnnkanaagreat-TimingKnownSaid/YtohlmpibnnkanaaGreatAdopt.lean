/- Some blocks, handed in by the address of the first, that a call may change, all of them adopted as own variables. No function of the program in sight. -/
import Derived.Test.YtohlmpibnnkanaaGreatCalmI
set_option linter.all false
namespace Go.Proofs.YtohlmpibnnkanaaGreat
open Go.RowKit

def Hp.ads : Nat → List (TypeId × List AV) → Hp
 | _, [] => fun _ => none
 | i, c :: r => fun n => bif Nat.beq n i then some c else Hp.ads (i + 1) r n
theorem Hp.ads_at : ∀ (l : List (TypeId × List AV)) (i n : Nat), Hp.ads i l n = if i ≤ n then l[n - i]? else none
 | [], i, n => by unfold Hp.ads; simp
 | c :: r, i, n => by
  unfold Hp.ads
  rw [Hp.ads_at r (i + 1) n]
  by_cases h : n = i
  ·subst h; simp
  ·have hb : Nat.beq n i = false := by rw [← Bool.not_eq_true, Nat.beq_eq]; exact h
   rw [hb, cond_false]
   by_cases h1 : i ≤ n
   ·rw [if_pos h1, if_pos (by omega), show n - i = (n - (i + 1)) + 1 by omega]; rfl
   ·rw [if_neg h1, if_neg (by omega)]
def adB (N : Nat) (ad : List Nat) : Nat → Nat := fun i => ad.getD (i - 2 * N) 0
structure AdsOk (K : KC) (N : Nat) (ad : List Nat) (l : List (TypeId × List AV)) (w : World) : Prop where
 len : ad.length = l.length
 nodup : ad.Nodup
 cls : ∀ (j : Nat) (g : Nat) (c : TypeId × List AV), ad[j]? = some g → l[j]? = some c → Cls w g c.1 (c.2.map (AV.leaf (adB N ad))).toArray
 ok : ∀ c ∈ l, K.fz c.1 = false ∧ c.2.all okLeaf = true
 ids : ∀ c ∈ l, ∀ k ∈ lidsOf c.2, 2 * N ≤ k ∧ k < 2 * N + l.length
theorem AdsOk.ad {K : KC} {N : Nat} {ad : List Nat} {l : List (TypeId × List AV)} {w : World} (h : AdsOk K N ad l w) : AdOk K ad w := fun g hg => by
 obtain ⟨j, hj⟩ := List.mem_iff_getElem?.1 hg
 have hlt := (List.getElem?_eq_some_iff.1 hj).1
 obtain ⟨c, hc⟩ : ∃ c, l[j]? = some c := ⟨_, List.getElem?_eq_getElem (by rw [← h.len]; exact hlt)⟩
 obtain ⟨h1, h2⟩ := h.ok c (List.mem_of_getElem? hc)
 exact ⟨c.1, _, h.cls j g c hj hc, h1, okLeafs h2⟩
theorem calm_enterN (P : Program) (w : World) (N : Nat) (K : KC) (SU : TypeId → Bool) (ti : TypeId → Option TI) (keep : ∀ b, b < w.heap.size → K.S b) {ad : List Nat} {l : List (TypeId × List AV)} {us : List Value} {f : FuncId} {fn : Func} {c : Code} {R : Ending → World → Prop} (hf : P.funcs[f]? = some fn) (hb : fn.body = some c) (hN : fn.ntmps = N) (ha : us.length + 1 ≤ N)
  (hl : AdsOk K N ad l w) (h0 : 0 < l.length)
  (h : VS (adCx P w N K SU ti keep ad hl.nodup hl.ad) (bodyPost P fn R) [.code c] (Fr.argA 0 (.box (2 * N) 0 :: us.map .val)) (Hp.ads (2 * N) l) w) : Calls P f (Value.pointer (some ⟨ad.getD 0 0, 0, none⟩) :: us).toArray w R := by
 have hat : ∀ i c, Hp.ads (2 * N) l i = some c → 2 * N ≤ i ∧ l[i - 2 * N]? = some c := fun i c hi => by
  rw [Hp.ads_at] at hi
  split at hi
  ·exact ⟨by assumption, hi⟩
  ·cases hi
 have hsome : ∀ i, Hp.ads (2 * N) l i ≠ none → 2 * N ≤ i ∧ i - 2 * N < l.length := fun i hi => by
  cases hh : Hp.ads (2 * N) l i with
  | none => exact absurd hh hi
  | some c =>
   obtain ⟨h1, h2⟩ := hat i c hh
   exact ⟨h1, (List.getElem?_eq_some_iff.1 h2).1⟩
 have hval : ∀ k, k < ad.length → ad[k]? = some (ad.getD k 0) := fun k hk => by simp [List.getD_eq_getElem?_getD, hk]
 have := calm_enterA (C := adCx P w N K SU ti keep ad hl.nodup hl.ad) (R := R) (args := .box (2 * N) 0 :: us.map .val) (β := adB N ad) (H := Hp.ads (2 * N) l) hf hb hN (by simpa using ha) (fun i t cs hi => ?_) (fun i j hi hj e => ?_) ⟨fun i t cs hi => ?_, fun i t cs hi => ?_, fun i hi => ?_⟩ (fun v hv i hi => ?_) h
 ·have e : (AV.box (2 * N) 0 :: us.map AV.val).map (AV.conc (adB N ad)) = Value.pointer (some ⟨ad.getD 0 0, 0, none⟩) :: us := by
   rw [List.map_cons, conc_vals]
   show Value.pointer (some ⟨ad.getD (2 * N - 2 * N) 0, 0, none⟩) :: us = _
   rw [Nat.sub_self]
  rw [e] at this
  exact this
 ·obtain ⟨h1, h2⟩ := hat i _ hi
  have hlt := (List.getElem?_eq_some_iff.1 h2).1
  obtain ⟨g1, g2⟩ := hl.ok _ (List.mem_of_getElem? h2)
  have hv := hval (i - 2 * N) (by rw [hl.len]; exact hlt)
  refine ⟨?_, g1, hl.cls _ _ _ hv h2, g2⟩
  show NewA N ad w i (adB N ad i)
  unfold NewA
  rw [if_pos h1]
  exact hv
 ·obtain ⟨h1, h2⟩ := hsome i hi
  obtain ⟨h3, h4⟩ := hsome j hj
  have e1 := hval (i - 2 * N) (by rw [hl.len]; exact h2)
  have e2 := hval (j - 2 * N) (by rw [hl.len]; exact h4)
  have e' : ad.getD (i - 2 * N) 0 = ad.getD (j - 2 * N) 0 := e
  rw [← e'] at e2
  have := (List.getElem?_inj (by rw [hl.len]; exact h2) hl.nodup).1 (e1.trans e2.symm)
  omega
 ·obtain ⟨h1, h2⟩ := hat i _ hi
  exact hl.ok _ (List.mem_of_getElem? h2)
 ·obtain ⟨h1, h2⟩ := hat i _ hi
  intro j hj
  obtain ⟨h3, h4⟩ := hl.ids _ (List.mem_of_getElem? h2) j hj
  rw [Hp.ads_at, if_pos h3, List.getElem?_eq_getElem (by omega)]
  simp
 ·have hi' : 2 * N + ad.length ≤ i := hi
  rw [Hp.ads_at]
  split
  ·exact List.getElem?_eq_none (by rw [← hl.len]; omega)
  ·rfl
 ·rcases List.mem_cons.1 hv with rfl | hv
  ·have : i = 2 * N := by simpa [AV.ids] using hi
   rw [this, Hp.ads_at, if_pos (Nat.le_refl _), Nat.sub_self, List.getElem?_eq_getElem h0]; simp
  ·obtain ⟨u, _, rfl⟩ := List.mem_map.1 hv
   cases hi
theorem ownN {P : Program} {w w' : World} {N : Nat} {K : KC} {SU : TypeId → Bool} {ti : TypeId → Option TI} {keep : ∀ b, b < w.heap.size → K.S b} {ad : List Nat} {hd : ad.Nodup} {ha : AdOk K ad w} {β : Nat → Nat} {i : Nat} {t : TypeId} {cs : List AV} (h : OwnV (adCx P w N K SU ti keep ad hd ha) β w' i t cs) (j g : Nat) (hi : i = 2 * N + j) (hj : ad[j]? = some g) : β i = g ∧ Cls w' g t (cs.map (AV.leaf β)).toArray := by
 have h1 : NewA N ad w i (β i) := h.new
 unfold NewA at h1
 rw [if_pos (by omega), hi, Nat.add_sub_cancel_left, hj] at h1
 have h2 : g = β i := by rw [hi]; simpa using h1
 exact ⟨h2.symm, h2 ▸ h.cls⟩
end Go.Proofs.YtohlmpibnnkanaaGreat
