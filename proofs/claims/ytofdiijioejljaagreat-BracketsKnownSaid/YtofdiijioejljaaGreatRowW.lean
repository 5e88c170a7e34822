/- Rows of elements of some cells each: slices that read as such rows, rows of a call's own, rows that a call answers. No function of the program in sight. -/
import Derived.Test.YtofdiijioejljaaGreatRatMore
set_option linter.all false
namespace Go.Proofs.YtofdiijioejljaaGreat
open Go.RowKit

abbrev KpT (T : TypeId → Bool) (w w' : World) : Prop := KpS ⟨UU, fun _ => True, T⟩ w w'
structure ElOk {α : Type} (E : World → List Value → α → Prop) (sz : Nat) : Prop where
 kp : ∀ {w w' : World} {cs : List Value} {a : α}, E w cs a → Kp UU w w' → E w' cs a
 len : ∀ {w : World} {cs : List Value} {a : α}, E w cs a → cs.length = sz
 ok : ∀ {w : World} {cs : List Value} {a : α}, E w cs a → cs.all okCell = true
theorem KpT.plain {T : TypeId → Bool} {w w' : World} (h : KpT T w w') : Kp UU w w' := h.weak
inductive RowE {α : Type} (E : World → List Value → α → Prop) (w : World) : List α → List (List Value) → Prop
 | nil : RowE E w [] []
 | cons {a : α} {es : List α} {cs : List Value} {vs : List (List Value)} : E w cs a → RowE E w es vs → RowE E w (a :: es) (cs :: vs)
section
variable {α : Type} {E : World → List Value → α → Prop} {sz : Nat} {w w' : World} {es : List α} {vs : List (List Value)}
theorem RowE.len (h : RowE E w es vs) : vs.length = es.length := by
 induction h with
 | nil => rfl
 | cons _ _ ih => simp [ih]
theorem RowE.kp (hE : ElOk E sz) (h : RowE E w es vs) (k : Kp UU w w') : RowE E w' es vs := by
 induction h with
 | nil => exact .nil
 | cons h1 _ ih => exact .cons (hE.kp h1 k) ih
theorem RowE.at (h : RowE E w es vs) : ∀ (j : Nat) (a : α), es[j]? = some a → ∃ cs, vs[j]? = some cs ∧ E w cs a := by
 induction h with
 | nil => intro j q hq; simp at hq
 | cons h1 _ ih =>
  intro j q hq
  cases j with
  | zero => cases hq; exact ⟨_, rfl, h1⟩
  | succ j => exact ih j q (by simpa using hq)
theorem RowE.append {es' : List α} {vs' : List (List Value)} (h : RowE E w es vs) (h' : RowE E w es' vs') : RowE E w (es ++ es') (vs ++ vs') := by
 induction h with
 | nil => exact h'
 | cons h1 _ ih => exact .cons h1 ih
theorem RowE.snoc {a : α} {cs : List Value} (h : RowE E w es vs) (h' : E w cs a) : RowE E w (es ++ [a]) (vs ++ [cs]) := h.append (.cons h' .nil)
theorem RowE.ok (hE : ElOk E sz) (h : RowE E w es vs) : vs.flatten.all okCell = true ∧ vs.flatten.length = es.length * sz := by
 induction h with
 | nil => exact ⟨rfl, by simp⟩
 | cons h1 _ ih =>
  refine ⟨?_, ?_⟩
  ·rw [List.flatten_cons, List.all_append, ih.1, hE.ok h1]; rfl
  ·rw [List.flatten_cons, List.length_append, ih.2, hE.len h1, List.length_cons, Nat.add_mul, Nat.one_mul, Nat.add_comm]
theorem RowE.cell (hE : ElOk E sz) (h : RowE E w es vs) : ∀ (j : Nat) (cs : List Value), vs[j]? = some cs → ∀ (o : Nat) (u : Value), cs[o]? = some u → vs.flatten[j * sz + o]? = some u := by
 induction h with
 | nil => intro j v h; simp at h
 | @cons a es cs vs h1 _ ih =>
  intro j v h o u hu
  have hx := hE.len h1
  cases j with
  | zero =>
   simp at h
   subst h
   have ho : o < sz := by have := (List.getElem?_eq_some_iff.1 hu).1; omega
   rw [List.flatten_cons, Nat.zero_mul, Nat.zero_add, List.getElem?_append_left (by omega)]
   exact hu
  | succ j =>
   rw [List.flatten_cons, List.getElem?_append_right (by rw [Nat.add_mul]; omega)]
   have := ih j v (by simpa using h) o u hu
   rw [← this]
   congr 1
   rw [Nat.add_mul]
   omega
def SlIn (E : World → List Value → α → Prop) (sz : Nat) (w : World) (v : Value) (es : List α) : Prop :=
 ∃ p c, v = .slice p es.length c ∧ es.length ≤ c ∧ c ≤ maxLen ∧ ∀ (i : Nat) (a : α), es[i]? = some a → ∃ b off cs, p = some ⟨b, off, none⟩ ∧ (∀ (j : Nat) (u : Value), cs[j]? = some u → w.cell? ⟨b, off + i * sz + j, none⟩ = some u) ∧ E w cs a
theorem SlIn.form {v : Value} (h : SlIn E sz w v es) : ∃ p c, v = .slice p es.length c ∧ es.length ≤ c ∧ c ≤ 9223372036854775807 := by
 obtain ⟨p, c, hv, h1, h2, _⟩ := h
 exact ⟨p, c, hv, h1, by simpa [maxLen] using h2⟩
theorem SlIn.at {p : Option Addr} {n c i : Nat} {a : α} (h : SlIn E sz w (.slice p n c) es) (hq : es[i]? = some a) : ∃ b off cs, p = some ⟨b, off, none⟩ ∧ (∀ (j : Nat) (u : Value), cs[j]? = some u → w.cell? ⟨b, off + i * sz + j, none⟩ = some u) ∧ E w cs a := by
 obtain ⟨p', c', hv, h1, h2, h3⟩ := h
 cases hv
 exact h3 i a hq
theorem SlIn.beh (hE : ElOk E sz) {v : Value} (h : SlIn E sz w v es) (hb : Beh w w') : SlIn E sz w' v es := by
 obtain ⟨p, c, hv, h1, h2, h3⟩ := h
 refine ⟨p, c, hv, h1, h2, fun i q hq => ?_⟩
 obtain ⟨b, off, cs, hp, hc, hr⟩ := h3 i q hq
 exact ⟨b, off, cs, hp, fun j u hj => hb.cell (hc j u hj), hE.kp hr (Kp.of hb)⟩
theorem SlIn.mono {E' : World → List Value → α → Prop} {v : Value} (h : SlIn E sz w v es) (hm : ∀ (i : Nat) (a : α) (cs : List Value), es[i]? = some a → E w cs a → E' w cs a) : SlIn E' sz w v es := by
 obtain ⟨p, c, hv, h1, h2, h3⟩ := h
 refine ⟨p, c, hv, h1, h2, fun i q hq => ?_⟩
 obtain ⟨b, off, cs, hp, hc, hr⟩ := h3 i q hq
 exact ⟨b, off, cs, hp, hc, hm i q cs hq hr⟩
theorem SlIn.nil (w : World) (E : World → List Value → α → Prop) (sz : Nat) : SlIn E sz w (.slice none 0 0) [] := ⟨none, 0, rfl, Nat.le_refl _, by decide, fun i q hq => by simp at hq⟩
theorem SlIn.row {p : Option Addr} {n c : Nat} (h : SlIn E sz w (.slice p n c) es) : ∃ vs, RowE E w es vs ∧ (n = 0 ∨ ∃ b off, p = some ⟨b, off, none⟩ ∧ ∀ (i : Nat) cs, vs[i]? = some cs → ∀ (j : Nat) (u : Value), cs[j]? = some u → w.cell? ⟨b, off + i * sz + j, none⟩ = some u) := by
 obtain ⟨p', c', hv, h1, h2, h3⟩ := h
 cases hv
 have key : ∀ (l : List α) (k : Nat), (∀ (i : Nat) (a : α), l[i]? = some a → ∃ b off cs, p = some ⟨b, off, none⟩ ∧ (∀ (j : Nat) (u : Value), cs[j]? = some u → w.cell? ⟨b, off + (k + i) * sz + j, none⟩ = some u) ∧ E w cs a) →
   ∃ vs, RowE E w l vs ∧ (l = [] ∨ ∃ b off, p = some ⟨b, off, none⟩ ∧ ∀ (i : Nat) cs, vs[i]? = some cs → ∀ (j : Nat) (u : Value), cs[j]? = some u → w.cell? ⟨b, off + (k + i) * sz + j, none⟩ = some u) := by
  intro l
  induction l with
  | nil => intro k _; exact ⟨[], .nil, .inl rfl⟩
  | cons a r ih =>
   intro k hk
   obtain ⟨b, off, cs, hp, hc, he⟩ := hk 0 a rfl
   obtain ⟨vs, hr, hx⟩ := ih (k + 1) fun i a' ha => by
    obtain ⟨b', off', cs', q1, q2, q3⟩ := hk (i + 1) a' (by simpa using ha)
    exact ⟨b', off', cs', q1, fun j u hj => by rw [show k + 1 + i = k + (i + 1) by omega]; exact q2 j u hj, q3⟩
   refine ⟨cs :: vs, .cons he hr, .inr ⟨b, off, hp, fun i cs' hi j u hj => ?_⟩⟩
   cases i with
   | zero => simp at hi; subst hi; exact hc j u hj
   | succ i =>
    simp at hi
    rcases hx with rfl | ⟨b', off', hp', hx⟩
    ·cases hr; simp at hi
    ·rw [hp] at hp'
     cases hp'
     rw [show k + (i + 1) = k + 1 + i by omega]
     exact hx i cs' hi j u hj
 obtain ⟨vs, hr, hx⟩ := key es 0 fun i a ha => by rw [Nat.zero_add]; exact h3 i a ha
 refine ⟨vs, hr, ?_⟩
 rcases hx with rfl | ⟨b, off, hp, hx⟩
 ·exact .inl rfl
 ·exact .inr ⟨b, off, hp, fun i cs hi => by have := hx i cs hi; rw [Nat.zero_add] at this; exact this⟩
theorem flat_inv : ∀ (vs : List (List Value)) (sz : Nat), (∀ v ∈ vs, v.length = sz) → ∀ (k : Nat) (u : Value), vs.flatten[k]? = some u → ∃ i cs j, vs[i]? = some cs ∧ cs[j]? = some u ∧ k = i * sz + j
 | [], _, _, k, u, h => by simp at h
 | x :: r, sz, hl, k, u, h => by
  have hx : x.length = sz := hl x (by simp)
  by_cases hk : k < sz
  ·rw [List.flatten_cons, List.getElem?_append_left (by omega)] at h
   exact ⟨0, x, k, rfl, h, by omega⟩
  ·rw [List.flatten_cons, List.getElem?_append_right (by omega)] at h
   obtain ⟨i, cs, j, h1, h2, h3⟩ := flat_inv r sz (fun v hv => hl v (by simp [hv])) _ u h
   exact ⟨i + 1, cs, j, by simpa using h1, h2, by rw [Nat.add_mul]; omega⟩
theorem RowE.lens (hE : ElOk E sz) (h : RowE E w es vs) : ∀ v ∈ vs, v.length = sz := by
 induction h with
 | nil => intro v hv; cases hv
 | cons h1 _ ih =>
  intro v hv
  rcases List.mem_cons.1 hv with rfl | e
  ·exact hE.len h1
  ·exact ih v e
theorem SlIn.src (hE : ElOk E sz) {p : Option Addr} {n c : Nat} (h : SlIn E sz w (.slice p n c) es) : ∃ vs, RowE E w es vs ∧ n = es.length ∧ ((n = 0) ∨ ∃ b off, p = some ⟨b, off, none⟩ ∧ ∀ (j : Nat) (u : Value), vs.flatten[j]? = some u → w.cell? ⟨b, off + j, none⟩ = some u) := by
 obtain ⟨vs, hr, hx⟩ := h.row
 obtain ⟨p', c', hv, _⟩ := h
 refine ⟨vs, hr, by cases hv; rfl, ?_⟩
 rcases hx with hx | ⟨b, off, hp, hx⟩
 ·exact .inl hx
 ·refine .inr ⟨b, off, hp, fun j u hj => ?_⟩
  obtain ⟨i, cs, o, h1, h2, h3⟩ := flat_inv vs sz (hr.lens hE) j u hj
  rw [h3, ← Nat.add_assoc]
  exact hx i cs h1 o u h2
theorem sl_of_cls (hE : ElOk E sz) {b n c : Nat} {t : TypeId} {spare : List Value} (h : Cls w b t (vs.flatten ++ spare).toArray) (hr : RowE E w es vs) (hn : n = es.length) (hc : n ≤ c) (hm : c ≤ 9223372036854775807) : SlIn E sz w (.slice (some ⟨b, 0, none⟩) n c) es := by
 subst hn
 refine ⟨_, _, rfl, hc, by simpa [maxLen] using hm, fun i a ha => ?_⟩
 obtain ⟨cs, h1, h2⟩ := hr.at i a ha
 refine ⟨b, 0, cs, rfl, fun j u hj => ?_, h2⟩
 have := hr.cell hE i cs h1 j u hj
 refine h.cell ?_
 rw [List.getElem?_toArray, Nat.zero_add, List.getElem?_append_left (List.getElem?_eq_some_iff.1 this).1]
 exact this
theorem ownV_sl (hE : ElOk E sz) {C : Cx} {β : Nat → Nat} {i n c : Nat} {t : TypeId} {cs : List AV} (h : OwnV C β w i t cs) (spare : List AV) (hcs : cs = vs.flatten.map .val ++ spare) (hr : RowE E w es vs) (hn : n = es.length) (hc : n ≤ c) (hm : c ≤ 9223372036854775807) :
  SlIn E sz w (.slice (some ⟨β i, 0, none⟩) n c) es := by
 refine sl_of_cls hE (spare := spare.map (AV.leaf β)) (t := t) ?_ hr hn hc hm
 have := h.cls
 rw [hcs, List.map_append, leaf_vals] at this
 exact this
def RowNew (E : World → List Value → α → Prop) (sz : Nat) (t : TypeId) (B : Nat) (w : World) (v : Value) (es : List α) : Prop :=
 (v = .slice none 0 0 ∧ es = []) ∨ ∃ b c vs spare, v = .slice (some ⟨b, 0, none⟩) es.length c ∧ B ≤ b ∧ Cls w b t (vs.flatten ++ spare).toArray ∧ RowE E w es vs ∧ spare.all okCell = true ∧ es.length ≤ c ∧ c ≤ 9223372036854775807 ∧ (vs.flatten ++ spare).length = c * sz
theorem RowNew.sl (hE : ElOk E sz) {t : TypeId} {B : Nat} {v : Value} (h : RowNew E sz t B w v es) : SlIn E sz w v es := by
 rcases h with ⟨rfl, rfl⟩ | ⟨b, c, vs, spare, rfl, _, h1, h2, _, h3, h4, _⟩
 ·exact SlIn.nil _ _ _
 ·exact sl_of_cls hE h1 h2 rfl h3 h4
theorem RowNew.form {t : TypeId} {B : Nat} {v : Value} (h : RowNew E sz t B w v es) : ∃ p c, v = .slice p es.length c := by
 rcases h with ⟨rfl, rfl⟩ | ⟨b, c, vs, spare, rfl, _⟩
 ·exact ⟨_, _, rfl⟩
 ·exact ⟨_, _, rfl⟩
theorem RowNew.kp (hE : ElOk E sz) {t : TypeId} {B : Nat} {v : Value} {T : TypeId → Bool} (h : RowNew E sz t B w v es) (k : KpT T w w') (ht : T t = true) : RowNew E sz t B w' v es := by
 rcases h with ⟨rfl, rfl⟩ | ⟨b, c, vs, spare, rfl, h0, h1, h2, h3⟩
 ·exact .inl ⟨rfl, rfl⟩
 ·refine .inr ⟨b, c, vs, spare, rfl, h0, k.block t b _ ?_ trivial h1, h2.kp hE k.plain, h3⟩
  show (Nat.beq t UU || T t) = true
  rw [ht]
  simp
theorem RowNew.mono {t : TypeId} {B B' : Nat} {v : Value} (h : RowNew E sz t B w v es) (hB : B' ≤ B) : RowNew E sz t B' w v es := by
 rcases h with h | ⟨b, c, vs, spare, hv, h0, h1⟩
 ·exact .inl h
 ·exact .inr ⟨b, c, vs, spare, hv, Nat.le_trans hB h0, h1⟩
end
section
variable {C : Cx} {F : Fr} {H : Hp} {w : World} {m : Option (List FuncId)} {full : Array Oper} {K : Fr → Hp → World → Prop} {o : Oper} {r : List Oper}
end
def SlUp {α : Type} (E : World → List Value → α → Prop) (sz : Nat) (w : World) (p : Option Addr) (es : List α) (n : Nat) : Prop :=
 ∀ (i : Nat) (a : α), i < n → es[i]? = some a → ∃ b off cs, p = some ⟨b, off, none⟩ ∧ (∀ (j : Nat) (u : Value), cs[j]? = some u → w.cell? ⟨b, off + i * sz + j, none⟩ = some u) ∧ E w cs a
theorem SlUp.zero {α : Type} {E : World → List Value → α → Prop} {sz : Nat} {w : World} {p : Option Addr} {es : List α} : SlUp E sz w p es 0 := fun i a hi => absurd hi (Nat.not_lt_zero i)
theorem SlUp.snoc {α : Type} {E : World → List Value → α → Prop} {sz : Nat} {w : World} {b off : Nat} {es : List α} {n : Nat} {a : α} {cs : List Value} (h : SlUp E sz w (some ⟨b, off, none⟩) es n) (ha : es[n]? = some a) (hc : ∀ (j : Nat) (u : Value), cs[j]? = some u → w.cell? ⟨b, off + n * sz + j, none⟩ = some u) (he : E w cs a) : SlUp E sz w (some ⟨b, off, none⟩) es (n + 1) := fun i x hi hx => by
 rcases Nat.lt_succ_iff_lt_or_eq.1 hi with h' | h'
 ·exact h i x h' hx
 ·subst h'; rw [ha] at hx; cases hx; exact ⟨b, off, cs, rfl, hc, he⟩
theorem SlUp.all {α : Type} {E E' : World → List Value → α → Prop} {sz : Nat} {w : World} {p : Option Addr} {es : List α} {n c : Nat} (h : SlUp E sz w p es n) (h' : SlIn E' sz w (.slice p n c) es) : SlIn E sz w (.slice p n c) es := by
 obtain ⟨p', c', hv, h1, h2, _⟩ := h'
 cases hv
 exact ⟨p, c, rfl, h1, h2, fun i a ha => h i a (List.getElem?_eq_some_iff.1 ha).1 ha⟩
theorem rowNew_own {α : Type} {E : World → List Value → α → Prop} {sz : Nat} {C : Cx} {β : Nat → Nat} {w : World} {i n c : Nat} {t : TypeId} {es : List α} {vs : List (List Value)} {spare : List AV} (h : OwnV C β w i t (vs.flatten.map .val ++ spare)) (hr : RowE E w es vs) (hn : n = es.length) (hc : n ≤ c) (hm : c ≤ 9223372036854775807) (hl : (vs.flatten.map AV.val ++ spare).length = c * sz)
  (hnw : ∀ i g, C.New i g → C.w0.heap.size ≤ g := by exact fun _ _ h => h) : RowNew E sz t C.w0.heap.size w (.slice (some ⟨β i, 0, none⟩) n c) es := by
 subst hn
 have hk := h.ok
 rw [List.all_append, Bool.and_eq_true] at hk
 refine .inr ⟨β i, c, vs, spare.map (AV.leaf β), rfl, hnw _ _ h.new, ?_, hr, okLeafs hk.2, hc, hm, by rw [← hl]; simp only [List.length_append, List.length_map]⟩
 have := h.cls
 rw [List.map_append, leaf_vals] at this
 exact this
theorem row_peek {α : Type} {E : World → List Value → α → Prop} {sz : Nat} (hE : ElOk E sz) {w : World} {es : List α} {vs : List (List Value)} (h : RowE E w es vs) (spare : List AV) {i : Nat} {cs : List Value} (hv : vs[i]? = some cs) : ∀ (j : Nat) (u : AV), (cs.map AV.val)[j]? = some u → (vs.flatten.map AV.val ++ spare)[0 + ((i : Nat) : Int).toNat * sz + j]? = some u := by
 intro j u hj
 rw [List.getElem?_map] at hj
 obtain ⟨x, hx, rfl⟩ := Option.map_eq_some_iff.1 hj
 have := h.cell hE i cs hv j x hx
 rw [Int.toNat_natCast, Nat.zero_add, List.getElem?_append_left (by rw [List.length_map]; exact (List.getElem?_eq_some_iff.1 this).1), List.getElem?_map, this]
 rfl
theorem i64_rsz {n d : Int} (h0 : -9223372036854775808 ≤ n) (h1 : n ≤ 9223372036854775807) (g0 : -9223372036854775808 ≤ d) (g1 : d ≤ 9223372036854775807) : RSz (Rat.divInt n d) 2 := by
 by_cases hd : d = 0
 ·rw [hd, Rat.divInt_zero]; exact RSz.zero.mono (by omega)
 ·exact divInt_sz (Sz.of_lt (by omega)) (Sz.of_lt (by omega)) hd
end Go.Proofs.YtofdiijioejljaaGreat
