/- Contracts of the fractions' calls with answers that are told; rows of fractions of a call's own; which one is greater. -/
import Derived.Test.YtofdiijioejljaaGreatRef04B
set_option linter.all false
namespace Go.Proofs.YtofdiijioejljaaGreat
open Go.RowKit
attribute [local irreducible] vcOps VS

theorem ratCmp_ok (v u : Value) (q r : Rat) (k l : Nat) (w : World) (hv : RatIn w v q k) (hu : RatIn w u r l) (hk : k ≤ 67108864) (hl : l ≤ 67108864) (c : Int) (hc : rcmp q r = c) :
  Calls Tryz.prog 27 #[v, u] w fun e w' => e = .returned (.int .i64 c) ∧ Beh w w' := hc ▸ ratCmp_any v u q r k l w hv hu hk hl
theorem RSz.of {n d : Int} (hn : n.natAbs < 4294967296) (hd : d.natAbs < 4294967296) : RSz (Rat.divInt n d) 1 := by
 by_cases h : d = 0
 ·rw [h, Rat.divInt_zero]; exact RSz.zero
 ·exact divInt_sz (Sz.small hn) (Sz.small hd) h

theorem RatRd.cast {w : World} {v : Value} {q q' : Rat} (h : RatRd w v q) (e : q' = q) : RatRd w v q' := e ▸ h
inductive RatRow (w : World) (k : Nat) : List Rat → List (List Value) → Prop
 | nil : RatRow w k [] []
 | cons {s : Bool} {p : Option Addr} {n c : Nat} {t : Bool} {r : Option Addr} {m d : Nat} {q : Rat} {qs : List Rat} {vs : List (List Value)} : RatIn w (.agg #[.bool s, .slice p n c, .bool t, .slice r m d]) q k → RatRow w k qs vs → RatRow w k (q :: qs) ([.bool s, .slice p n c, .bool t, .slice r m d] :: vs)
theorem RatRow.len {w : World} {k : Nat} {qs : List Rat} {vs : List (List Value)} (h : RatRow w k qs vs) : vs.length = qs.length := by
 induction h with
 | nil => rfl
 | cons _ _ ih => simp [ih]
theorem RatRow.four {w : World} {k : Nat} {qs : List Rat} {vs : List (List Value)} (h : RatRow w k qs vs) : ∀ v ∈ vs, v.length = 4 := by
 induction h with
 | nil => intro v hv; cases hv
 | cons _ _ ih =>
  intro v hv
  rcases List.mem_cons.1 hv with rfl | e
  ·rfl
  ·exact ih v e
theorem RatRow.kp {U : TypeId} {T : TypeId → Bool} {w w' : World} {k : Nat} {qs : List Rat} {vs : List (List Value)} (h : RatRow w k qs vs) (kp : KpS ⟨U, fun _ => True, T⟩ w w') : RatRow w' k qs vs := by
 induction h with
 | nil => exact .nil
 | cons h1 _ ih => exact .cons (h1.kp kp) ih
theorem RatRow.at {w : World} {k : Nat} {qs : List Rat} {vs : List (List Value)} (h : RatRow w k qs vs) : ∀ (j : Nat) (q : Rat), qs[j]? = some q → ∃ s p' n' c' t r m d, vs[j]? = some [Value.bool s, .slice p' n' c', .bool t, .slice r m d] ∧ RatIn w (.agg #[.bool s, .slice p' n' c', .bool t, .slice r m d]) q k := by
 induction h with
 | nil => intro j q hq; simp at hq
 | cons h1 _ ih =>
  intro j q hq
  cases j with
  | zero => cases hq; exact ⟨_, _, _, _, _, _, _, _, rfl, h1⟩
  | succ j => exact ih j q (by simpa using hq)
theorem RatRow.append {w : World} {k : Nat} {qs qs' : List Rat} {vs vs' : List (List Value)} (h : RatRow w k qs vs) (h' : RatRow w k qs' vs') : RatRow w k (qs ++ qs') (vs ++ vs') := by
 induction h with
 | nil => exact h'
 | cons h1 _ ih => exact .cons h1 ih
theorem flat_at : ∀ (vs : List (List Value)) (j : Nat) (v : List Value), (∀ v ∈ vs, v.length = 4) → vs[j]? = some v → ∀ (o : Nat) (u : Value), v[o]? = some u → vs.flatten[j * 4 + o]? = some u := by
 intro vs
 induction vs with
 | nil => intro j v _ h; simp at h
 | cons x r ih =>
  intro j v hl h o u hu
  have hx : x.length = 4 := hl x (by simp)
  cases j with
  | zero =>
   simp at h
   subst h
   have ho : o < 4 := by have := (List.getElem?_eq_some_iff.1 hu).1; omega
   rw [List.flatten_cons, List.getElem?_append_left (by omega)]
   simpa using hu
  | succ j =>
   have h' : r[j]? = some v := by simpa using h
   rw [List.flatten_cons, List.getElem?_append_right (by omega), hx, show (j + 1) * 4 + o - 4 = j * 4 + o by omega]
   exact ih j v (fun v hv => hl v (by simp [hv])) h' o u hu
theorem ownV_rats {C : Cx} {β : Nat → Nat} {w : World} {i : Nat} {t : TypeId} {cs : List AV} {qs : List Rat} {k : Nat} {vs : List (List Value)} {n c : Nat} (h : OwnV C β w i t cs) (spare : List AV) (hcs : cs = vs.flatten.map .val ++ spare) (hn : n = qs.length) (hq : RatRow w k qs vs) (hc : n ≤ c) (hcm : c ≤ maxLen) :
  RatsIn w (.slice (some ⟨β i, 0, none⟩) n c) qs k := by
 subst hn
 refine ⟨_, _, rfl, hc, hcm, fun j q hj => ?_⟩
 obtain ⟨s, p', n', c', t', r, m, d, hvj, hin⟩ := hq.at j q hj
 refine ⟨β i, 0, s, p', n', c', t', r, m, d, rfl, fun o u hu => ?_, hin⟩
 refine h.cls.cell ?_
 have := flat_at vs j _ hq.four hvj o u hu
 rw [hcs, List.map_append, leaf_vals, List.getElem?_toArray, Nat.zero_add, List.getElem?_append_left (List.getElem?_eq_some_iff.1 this).1]
 exact this
theorem ratSign_ok (v : Value) (q : Rat) (k : Nat) (w : World) (hv : RatIn w v q k) (hk : k ≤ 536870912) (c : Int) (hc : rcmp q 0 = c) :
  Calls Tryz.prog 21 #[v] w fun e w' => e = .returned (.int .i64 c) ∧ Beh w w' := hc ▸ ratSign_any v q k w hv hk
theorem RatRaw.in {w : World} {v : Value} {s t : Bool} {xs ys : List Nat} {k : Nat} (h : RatRaw w v s xs t ys) (hx : xs.length ≤ k) (hy : ys.length ≤ k) : RatIn w v (rq s xs t ys) k := ⟨s, xs, t, ys, h, rfl, hx, hy⟩
theorem RatRaw.form' {w : World} {v : Value} {s t : Bool} {xs ys : List Nat} (h : RatRaw w v s xs t ys) : ∃ p c r d, v = .agg #[.bool s, .slice p xs.length c, .bool t, .slice r ys.length d] ∧ True := by
 obtain ⟨p, c, r, d, rfl, _⟩ := h
 exact ⟨_, _, _, _, rfl, trivial⟩
theorem rcmp_le {a b : Rat} : rcmp a b ≤ 0 ↔ a ≤ b := by
 unfold rcmp
 split
 ·rename_i h; exact ⟨fun _ => Rat.le_of_lt h, fun _ => by omega⟩
 ·split
  ·rename_i h; exact ⟨fun _ => by rw [h]; exact Rat.le_refl, fun _ => by omega⟩
  ·rename_i h1 h2; exact ⟨fun h => by omega, fun h => absurd (Rat.not_lt.1 h1) (fun h3 => h2 (Rat.le_antisymm h h3))⟩
theorem rcmp_ge {a b : Rat} : rcmp a b ≥ 0 ↔ b ≤ a := by
 unfold rcmp
 split
 ·rename_i h; exact ⟨fun _ => by omega, fun h' => absurd h (Rat.not_lt.2 h')⟩
 ·rename_i h
  split
  ·exact ⟨fun _ => Rat.not_lt.1 h, fun _ => by omega⟩
  ·exact ⟨fun _ => Rat.not_lt.1 h, fun _ => by omega⟩
theorem rcmp_eq {a b : Rat} (h : a = b) : rcmp a b = 0 := by subst h; unfold rcmp; rw [if_neg (by exact Rat.lt_irrefl), if_pos rfl]
theorem rcmp_ne {b : Rat} (h : b ≠ 0) : rcmp b 0 ≠ 0 := by
 unfold rcmp
 split
 ·omega
 ·first | omega | (rw [if_neg h]; omega)
theorem rless_iff {y x : Rat} : rless y x = true ↔ y < x := by
 unfold rless rcmp
 by_cases h : y < x
 ·simp [h]
 ·simp only [h, if_false, iff_false]; split <;> simp
theorem rmore_iff {y x : Rat} : rmore y x = true ↔ x < y := by
 unfold rmore
 rw [decide_eq_true_iff]
 constructor
 ·intro h
  exact Rat.not_le.1 (fun e => by have := rcmp_le.2 e; omega)
 ·intro h
  have := mt rcmp_le.1 (Rat.not_le.2 h)
  omega
theorem RatRow.ok {w : World} {k : Nat} {qs : List Rat} {vs : List (List Value)} (h : RatRow w k qs vs) : vs.flatten.all okCell = true ∧ vs.flatten.length = qs.length * 4 := by
 induction h with
 | nil => exact ⟨rfl, rfl⟩
 | cons _ _ ih =>
  refine ⟨?_, ?_⟩
  ·rw [List.flatten_cons, List.all_append, ih.1]; rfl
  ·rw [List.flatten_cons, List.length_append, ih.2]; simp; omega
def RatsUp (w : World) (p : Option Addr) (qs : List Rat) (i : Nat) : Prop := ∀ (j : Nat) (q : Rat), j < i → qs[j]? = some q → ∃ b off s p' n' c' t r m d, p = some ⟨b, off, none⟩ ∧
  (∀ j' u, [Value.bool s, .slice p' n' c', .bool t, .slice r m d][j']? = some u → w.cell? ⟨b, off + j * 4 + j', none⟩ = some u) ∧ RatIn w (.agg #[.bool s, .slice p' n' c', .bool t, .slice r m d]) q 2
theorem RatsUp.all {w : World} {p : Option Addr} {qs : List Rat} {n c : Nat} (h : RatsUp w p qs n) (hn : n = qs.length) (hc : n ≤ c) (hm : c ≤ maxLen) : RatsIn w (.slice p n c) qs 2 := by
 subst hn
 exact ⟨p, c, rfl, hc, hm, fun i q hq => h i q (List.getElem?_eq_some_iff.1 hq).1 hq⟩
theorem RatsIn.nil (w : World) (k : Nat) : RatsIn w (.slice none 0 0) [] k := ⟨none, 0, rfl, Nat.le_refl _, by decide, fun i q hq => by simp at hq⟩
theorem RatRow.snoc {w : World} {k : Nat} {qs : List Rat} {vs : List (List Value)} (h : RatRow w k qs vs) {s : Bool} {p : Option Addr} {n c : Nat} {t : Bool} {r : Option Addr} {m d : Nat} {q : Rat} (hq : RatIn w (.agg #[.bool s, .slice p n c, .bool t, .slice r m d]) q k) : RatRow w k (qs ++ [q]) (vs ++ [[.bool s, .slice p n c, .bool t, .slice r m d]]) := h.append (.cons hq .nil)
theorem RatRd.len {w : World} {s t : Bool} {p r : Option Addr} {n c m d : Nat} {q : Rat} {k : Nat} (h : RatRd w (.agg #[.bool s, .slice p n c, .bool t, .slice r m d]) q) (hs : RSz q k) : n ≤ k ∧ m ≤ k := by
 obtain ⟨h1, h2⟩ := h.parts
 exact ⟨by rw [h1.len4.2]; exact hs.1, by rw [h2.len4.2]; exact hs.2⟩
end Go.Proofs.YtofdiijioejljaaGreat
