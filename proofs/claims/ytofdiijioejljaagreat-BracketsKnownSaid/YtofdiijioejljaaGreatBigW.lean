/- Words for whole numbers: a number value reads as a sign and limbs; as an integer; a number of the call's own. No function of the program in sight. -/
import Derived.Test.YtofdiijioejljaaGreatNatAll
import Derived.RangeFuncBox
set_option linter.all false
namespace Go.Proofs.YtofdiijioejljaaGreat
open Go.RowKit

def ival (neg : Bool) (xs : List Nat) : Int := if neg = true then -(nval xs : Int) else (nval xs : Int)
def nright (neg : Bool) (xs : List Nat) : Bool := match xs.getLast? with | none => !neg | some x => decide (x ≠ 0)
def numOf (neg : Bool) (xs : List Nat) : Int := if nright neg xs = true then ival neg xs else 0

theorem nright_nil (neg : Bool) : nright neg [] = !neg := rfl
theorem nright_last {neg : Bool} {xs : List Nat} {x : Nat} (h : xs[xs.length - 1]? = some x) : nright neg xs = decide (x ≠ 0) := by
 unfold nright
 rw [List.getLast?_eq_getElem?, h]
theorem last_ne {neg : Bool} {xs : List Nat} (h : nright neg xs = true) : ∀ x, xs.getLast? = some x → x ≠ 0 := by
 intro x hx
 unfold nright at h
 rw [hx] at h
 simpa using h
theorem nval_pos_of_right {neg : Bool} {xs : List Nat} (hl : Lim xs) (h : nright neg xs = true) (hx : xs ≠ []) : nval xs ≠ 0 := by
 intro h0
 have := limbs_nval hl (last_ne h)
 rw [h0, limbs_zero] at this
 exact hx this.symm
theorem canon {neg : Bool} {xs : List Nat} (hl : Lim xs) (h : nright neg xs = true) : neg = decide (ival neg xs < 0) ∧ xs = limbs (ival neg xs).natAbs := by
 have h1 := limbs_nval hl (last_ne h)
 have h2 : (ival neg xs).natAbs = nval xs := by unfold ival; split <;> simp
 refine ⟨?_, by rw [h2, h1]⟩
 by_cases hx : xs = []
 ·subst hx
  rw [nright_nil] at h
  cases neg
  ·simp [ival, nval_nil]
  ·cases h
 ·have := nval_pos_of_right hl h hx
  cases neg
  ·simp [ival]
  ·simp [ival]; omega
theorem nright_canon (X : Int) : nright (decide (X < 0)) (limbs X.natAbs) = true := by
 by_cases h : X = 0
 ·subst h; simp [limbs_zero, nright]
 ·unfold nright
  cases hl : (limbs X.natAbs).getLast? with
  | none => rw [List.getLast?_eq_none_iff, limbs_nil_iff] at hl; omega
  | some x => simpa using limbs_last _ _ hl
theorem ival_canon (X : Int) : ival (decide (X < 0)) (limbs X.natAbs) = X := by
 unfold ival
 rw [nval_limbs]
 by_cases h : X < 0
 ·rw [if_pos (by simpa using h)]; omega
 ·rw [if_neg (by simpa using h)]; omega
theorem numOf_canon (X : Int) : numOf (decide (X < 0)) (limbs X.natAbs) = X := by
 unfold numOf; rw [if_pos (nright_canon X), ival_canon]
theorem numOf_len {neg : Bool} {xs : List Nat} (hl : Lim xs) : (limbs (numOf neg xs).natAbs).length ≤ xs.length := by
 unfold numOf
 split
 ·rename_i h
  rw [← (canon hl h).2]; exact Nat.le_refl _
 ·rw [show (0 : Int).natAbs = 0 from rfl, limbs_zero]; exact Nat.zero_le _

def NumAt (w : World) (v : Value) (neg : Bool) (xs : List Nat) : Prop := ∃ p c, v = .agg #[.bool neg, .slice p xs.length c] ∧ Rd w 1 (.slice p xs.length c) xs.length (ints .u32 xs) ∧ Lim xs
def IntIn (w : World) (v : Value) (X : Int) (k : Nat) : Prop := ∃ neg xs, NumAt w v neg xs ∧ X = numOf neg xs ∧ xs.length ≤ k
def IntRd (w : World) (v : Value) (X : Int) : Prop := NumAt w v (decide (X < 0)) (limbs X.natAbs)
def IntOwn (w : World) (B : Nat) (v : Value) (X : Int) : Prop := ∃ p c, v = .agg #[.bool (decide (X < 0)), .slice p (limbs X.natAbs).length c] ∧ w.ownsRow B 107 1 (.slice p (limbs X.natAbs).length c) (limbs X.natAbs).length (ints .u32 (limbs X.natAbs))

def Beh (w w' : World) : Prop := Below w.heap.size w w'
theorem Beh.refl (w : World) : Beh w w := Below.refl _ _
theorem Beh.alloc {w w' : World} (h : Beh w w') (o : Obj) : Beh w (w'.alloc o) := Below.alloc h h.size o
theorem Beh.drew {w w' : World} (h : Beh w w') : Beh w w'.drew := Below.drew h
theorem Beh.drewN {w w' : World} (h : Beh w w') (n : Nat) : Beh w (w'.drewN n) := Below.drewN h n
theorem Beh.thn {a b c : World} (h : Beh a b) (k : Beh b c) : Beh a c := Below.thn h k
theorem Beh.setCell {w w' : World} (h : Beh w w') {p : Addr} (hp : w.heap.size ≤ p.block) (v : Value) : Beh w (w'.setCell p v) := Below.setCell h hp v
theorem Beh.cell {w w' : World} (h : Beh w w') {a : Addr} {u : Value} (hc : w.cell? a = some u) : w'.cell? a = some u := Below.keeps h _ _ hc
theorem Beh.size {w w' : World} (h : Beh w w') : w.heap.size ≤ w'.heap.size := Below.size h

theorem NumAt.beh {w w' : World} {v : Value} {neg : Bool} {xs : List Nat} (h : NumAt w v neg xs) (hb : Beh w w') : NumAt w' v neg xs := by
 obtain ⟨p, c, hv, hr, hl⟩ := h
 exact ⟨p, c, hv, hr.below hb, hl⟩
theorem IntIn.beh {w w' : World} {v : Value} {X : Int} {k : Nat} (h : IntIn w v X k) (hb : Beh w w') : IntIn w' v X k := by
 obtain ⟨neg, xs, hn, hx, hk⟩ := h
 exact ⟨neg, xs, hn.beh hb, hx, hk⟩
theorem IntIn.mono {w : World} {v : Value} {X : Int} {k l : Nat} (h : IntIn w v X k) (hkl : k ≤ l) : IntIn w v X l := by
 obtain ⟨neg, xs, hn, hx, hk⟩ := h
 exact ⟨neg, xs, hn, hx, Nat.le_trans hk hkl⟩
theorem IntRd.beh {w w' : World} {v : Value} {X : Int} (h : IntRd w v X) (hb : Beh w w') : IntRd w' v X := NumAt.beh h hb
theorem IntOwn.rd {w : World} {B : Nat} {v : Value} {X : Int} (h : IntOwn w B v X) : IntRd w v X := by
 obtain ⟨p, c, hv, ho⟩ := h
 exact ⟨p, c, hv, Rd.own ho, limbs_lim _⟩
theorem IntOwn.beh {w w' : World} {B : Nat} {v : Value} {X : Int} (h : IntOwn w B v X) (hb : Beh w w') : IntOwn w' B v X := by
 obtain ⟨p, c, hv, ho⟩ := h
 exact ⟨p, c, hv, Own.below ho hb⟩
theorem IntOwn.mono {w : World} {B B' : Nat} {v : Value} {X : Int} (h : IntOwn w B v X) (hB : B' ≤ B) : IntOwn w B' v X := by
 obtain ⟨p, c, hv, ho⟩ := h
 exact ⟨p, c, hv, Own.mono ho hB⟩
theorem IntRd.to {w : World} {v : Value} {X : Int} {k : Nat} (h : IntRd w v X) (hk : (limbs X.natAbs).length ≤ k) : IntIn w v X k := ⟨_, _, h, (numOf_canon X).symm, hk⟩
theorem IntIn.len {w : World} {v : Value} {X : Int} {k : Nat} (h : IntIn w v X k) : (limbs X.natAbs).length ≤ k := by
 obtain ⟨neg, xs, ⟨_, _, _, _, hl⟩, rfl, hk⟩ := h
 exact Nat.le_trans (numOf_len hl) hk
theorem IntRd.form {w : World} {v : Value} {X : Int} (h : IntRd w v X) : ∃ p c, v = .agg #[.bool (decide (X < 0)), .slice p (limbs X.natAbs).length c] ∧ Rd w 1 (.slice p (limbs X.natAbs).length c) (limbs X.natAbs).length (ints .u32 (limbs X.natAbs)) := by
 obtain ⟨p, c, hv, hr, _⟩ := h
 exact ⟨p, c, hv, hr⟩
theorem IntRd.zero (w : World) : IntRd w (.agg #[.bool false, .slice none 0 0]) 0 := by
 refine ⟨none, 0, ?_, ?_, limbs_lim _⟩
 ·simp [limbs_zero]
 ·simp only [show (0 : Int).natAbs = 0 from rfl, limbs_zero]; exact Rd.nil w 1
theorem IntOwn.zero (w : World) (B : Nat) : IntOwn w B (.agg #[.bool false, .slice none 0 0]) 0 := by
 refine ⟨none, 0, ?_, ?_⟩
 ·simp [limbs_zero]
 ·simp only [show (0 : Int).natAbs = 0 from rfl, limbs_zero]; exact World.ownsRow_nil _ _ _ _
theorem IntOwn.of {w : World} {B : Nat} {neg : Bool} {p : Option Addr} {n c m : Nat} (h : w.ownsRow B 107 1 (.slice p n c) (limbs m).length (ints .u32 (limbs m))) (hn : n = (limbs m).length) (X : Int) (hX : X = if neg = true then -(m : Int) else m) :
  IntOwn w B (.agg #[.bool (neg && decide (0 < n)), .slice p n c]) X := by
 subst hn
 have h1 : X.natAbs = m := by rw [hX]; split <;> simp
 refine ⟨p, c, ?_, by rw [h1]; exact h⟩
 rw [h1]
 congr 3
 by_cases hm : m = 0
 ·subst hm
  have : X = 0 := by omega
  rw [this]; simp [limbs_zero]
 ·have := limbs_len_pos hm
  cases neg
  ·simp at hX; simp [hX]
  ·simp at hX; simp [hX]; omega
theorem IntRd.of {w : World} {neg : Bool} {p : Option Addr} {n c m : Nat} (h : Rd w 1 (.slice p n c) (limbs m).length (ints .u32 (limbs m))) (hn : n = (limbs m).length) (X : Int) (hX : X = if neg = true then -(m : Int) else m) :
  IntRd w (.agg #[.bool (neg && decide (0 < n)), .slice p n c]) X := by
 subst hn
 have h1 : X.natAbs = m := by rw [hX]; split <;> simp
 refine ⟨p, c, ?_, by rw [h1]; exact h, limbs_lim _⟩
 rw [h1]
 congr 3
 by_cases hm : m = 0
 ·subst hm
  have : X = 0 := by omega
  rw [this]; simp [limbs_zero]
 ·have := limbs_len_pos hm
  cases neg
  ·simp at hX; simp [hX]
  ·simp at hX; simp [hX]; omega

def Sz (X : Int) (k : Nat) : Prop := (limbs X.natAbs).length ≤ k
theorem Sz.lt {X : Int} {k : Nat} (h : Sz X k) : X.natAbs < 4294967296 ^ k := Nat.lt_of_lt_of_le (lt_pow_limbs _) (Nat.pow_le_pow_right (by omega) h)
theorem Sz.of_lt {X : Int} {k : Nat} (h : X.natAbs < 4294967296 ^ k) : Sz X k := limbs_length_le k _ h
theorem Sz.mono {X : Int} {k l : Nat} (h : Sz X k) (hkl : k ≤ l) : Sz X l := Nat.le_trans h hkl
theorem Sz.le {X Y : Int} {k : Nat} (h : Sz Y k) (hxy : X.natAbs ≤ Y.natAbs) : Sz X k := Nat.le_trans (limbs_len_mono hxy) h
theorem Sz.neg {X : Int} {k : Nat} (h : Sz X k) : Sz (-X) k := Sz.le h (by rw [Int.natAbs_neg]; exact Nat.le_refl _)
theorem Sz.add {X Y : Int} {k l m : Nat} (hx : Sz X k) (hy : Sz Y l) (hk : k ≤ m) (hl : l ≤ m) : Sz (X + Y) (m + 1) := by
 refine Sz.of_lt ?_
 have h1 := Nat.lt_of_lt_of_le hx.lt (Nat.pow_le_pow_right (by omega) hk)
 have h2 := Nat.lt_of_lt_of_le hy.lt (Nat.pow_le_pow_right (by omega) hl)
 have h3 : (X + Y).natAbs ≤ X.natAbs + Y.natAbs := Int.natAbs_add_le X Y
 rw [Nat.pow_succ]; omega
theorem Sz.mul {X Y : Int} {k l : Nat} (hx : Sz X k) (hy : Sz Y l) : Sz (X * Y) (k + l) := by
 refine Sz.of_lt ?_
 rw [Int.natAbs_mul, Nat.pow_add]
 exact Nat.mul_lt_mul'' hx.lt hy.lt
theorem Sz.zero : Sz 0 0 := by show (limbs 0).length ≤ 0; rw [limbs_zero]; exact Nat.le_refl _
theorem Sz.small {X : Int} (h : X.natAbs < 4294967296) : Sz X 1 := Sz.of_lt (by simpa using h)

def Cls (w : World) (b : Nat) (t : TypeId) (cs : Array Value) : Prop := w.heap[b]? = some (.cells cs t (0, 0))
theorem Cls.lt {w : World} {b : Nat} {t : TypeId} {cs : Array Value} (h : Cls w b t cs) : b < w.heap.size := (Array.getElem?_eq_some_iff.1 h).1
theorem Cls.new (w : World) (t : TypeId) (cs : Array Value) : Cls (w.alloc (.cells cs t)) w.heap.size t cs := World.alloc_heap_new w _
theorem Cls.newAt {w : World} {b : Nat} (hb : b = w.heap.size) (t : TypeId) (cs : Array Value) : Cls (w.alloc (.cells cs t)) b t cs := hb ▸ Cls.new w t cs
theorem Cls.beh {w w' : World} {b : Nat} {t : TypeId} {cs : Array Value} (h : Cls w b t cs) (hb : Beh w w') : Cls w' b t cs := (Below.block hb b h.lt).trans h
theorem Cls.alloc {w : World} {b : Nat} {t : TypeId} {cs : Array Value} (h : Cls w b t cs) (o : Obj) : Cls (w.alloc o) b t cs := h.beh ((Beh.refl w).alloc o)
theorem Cls.drew {w : World} {b : Nat} {t : TypeId} {cs : Array Value} (h : Cls w b t cs) : Cls w.drew b t cs := h
theorem Cls.drewN {w : World} {b : Nat} {t : TypeId} {cs : Array Value} (h : Cls w b t cs) (n : Nat) : Cls (w.drewN n) b t cs := h
theorem Cls.cell {w : World} {b j : Nat} {t : TypeId} {cs : Array Value} {u : Value} (h : Cls w b t cs) (hj : cs[j]? = some u) : w.cell? ⟨b, j, none⟩ = some u := by
 simp [World.cell?, show w.heap[b]? = _ from h, hj]
theorem Cls.frozen {w : World} {b : Nat} {t : TypeId} {cs : Array Value} (h : Cls w b t cs) (j : Nat) : w.frozen? ⟨b, j, none⟩ = false := by
 simp [World.frozen?, show w.heap[b]? = _ from h]
theorem Cls.set {w : World} {b j : Nat} {t : TypeId} {cs : Array Value} (h : Cls w b t cs) (v : Value) : Cls (w.setCell ⟨b, j, none⟩ v) b t (cs.setIfInBounds j v) := by
 obtain ⟨hlt, hk⟩ := Array.getElem?_eq_some_iff.1 h
 show (w.heap.modify b _)[b]? = _
 rw [Array.getElem?_eq_getElem (by rw [Array.size_modify]; exact hlt), Array.getElem_modify_self, hk]
 rfl
theorem Cls.other {w : World} {b b' j : Nat} {t : TypeId} {cs : Array Value} (h : Cls w b t cs) (hne : b ≠ b') (v : Value) : Cls (w.setCell ⟨b', j, none⟩ v) b t cs :=
 (Below.heap_setCell _ _ _ b hne).trans h
theorem Cls.two {w : World} {b : Nat} {t : TypeId} {u v : Value} (h : Cls w b t #[u, v]) : w.cell? ⟨b, 0, none⟩ = some u ∧ w.cell? ⟨b, 1, none⟩ = some v ∧ w.frozen? ⟨b, 0, none⟩ = false ∧ w.frozen? ⟨b, 1, none⟩ = false :=
 ⟨h.cell rfl, h.cell rfl, h.frozen 0, h.frozen 1⟩
theorem Cls.set2 {w : World} {b : Nat} {t : TypeId} {u v : Value} (h : Cls w b t #[u, v]) (u' v' : Value) : Cls ((w.setCell ⟨b, 0, none⟩ u').setCell ⟨b, 1, none⟩ v') b t #[u', v'] := (h.set (j := 0) u').set (j := 1) v'
theorem Beh.set2 {w w' : World} (h : Beh w w') {b : Nat} (hb : w.heap.size ≤ b) (u v : Value) : Beh w ((w'.setCell ⟨b, 0, none⟩ u).setCell ⟨b, 1, none⟩ v) := (h.setCell (p := ⟨b, 0, none⟩) hb u).setCell (p := ⟨b, 1, none⟩) hb v
theorem boxes2 (w : World) (t t' : TypeId) (cs cs' : Array Value) : Cls ((w.alloc (.cells cs t)).alloc (.cells cs' t')) w.heap.size t cs ∧ Cls ((w.alloc (.cells cs t)).alloc (.cells cs' t')) (w.heap.size + 1) t' cs' ∧ Beh w ((w.alloc (.cells cs t)).alloc (.cells cs' t')) :=
 ⟨(Cls.new _ _ _).alloc _, Cls.newAt (by simp) _ _, ((Beh.refl w).alloc _).alloc _⟩
theorem boxes3 (w : World) (t t' t'' : TypeId) (cs cs' cs'' : Array Value) : Cls (((w.alloc (.cells cs t)).alloc (.cells cs' t')).alloc (.cells cs'' t'')) w.heap.size t cs ∧ Cls (((w.alloc (.cells cs t)).alloc (.cells cs' t')).alloc (.cells cs'' t'')) (w.heap.size + 1) t' cs' ∧
  Cls (((w.alloc (.cells cs t)).alloc (.cells cs' t')).alloc (.cells cs'' t'')) (w.heap.size + 2) t'' cs'' ∧ Beh w (((w.alloc (.cells cs t)).alloc (.cells cs' t')).alloc (.cells cs'' t'')) :=
 ⟨(boxes2 w t t' cs cs').1.alloc _, (boxes2 w t t' cs cs').2.1.alloc _, Cls.newAt (by simp) _ _, (boxes2 w t t' cs cs').2.2.alloc _⟩

def KeepBut (W : World) (r : Nat) (w' : World) : Prop := W.heap.size ≤ w'.heap.size ∧ ∀ b, b < W.heap.size → b ≠ r → w'.heap[b]? = W.heap[b]?
theorem KeepBut.refl (W : World) (r : Nat) : KeepBut W r W := ⟨Nat.le_refl _, fun _ _ _ => rfl⟩
theorem KeepBut.drew {W w' : World} {r : Nat} (h : KeepBut W r w') : KeepBut W r w'.drew := h
theorem KeepBut.drewN {W w' : World} {r : Nat} (h : KeepBut W r w') (n : Nat) : KeepBut W r (w'.drewN n) := h
theorem KeepBut.thn {W a b : World} {r : Nat} (h : KeepBut W r a) (k : Beh a b) : KeepBut W r b :=
 ⟨Nat.le_trans h.1 k.size, fun j hj hr => (Below.block k j (Nat.lt_of_lt_of_le hj h.1)).trans (h.2 j hj hr)⟩
theorem KeepBut.alloc {W a : World} {r : Nat} (h : KeepBut W r a) (o : Obj) : KeepBut W r (a.alloc o) := h.thn ((Beh.refl a).alloc o)
theorem KeepBut.set {W a : World} {r j : Nat} (h : KeepBut W r a) (v : Value) : KeepBut W r (a.setCell ⟨r, j, none⟩ v) :=
 ⟨Nat.le_trans h.1 (by simp), fun b hb hr => (Below.heap_setCell _ _ _ b hr).trans (h.2 b hb hr)⟩
theorem KeepBut.cls {W w' : World} {r b : Nat} {t : TypeId} {cs : Array Value} (h : KeepBut W r w') (hc : Cls W b t cs) (hr : b ≠ r) : Cls w' b t cs := (h.2 b hc.lt hr).trans hc
theorem KeepBut.cells {W w' : World} {r b : Nat} {t : TypeId} {u v : Value} (h : KeepBut W r w') (hc : Cls W b t #[u, v]) (hr : b ≠ r) : w'.cell? ⟨b, 0, none⟩ = some u ∧ w'.cell? ⟨b, 1, none⟩ = some v :=
 ⟨(h.cls hc hr).cell rfl, (h.cls hc hr).cell rfl⟩

theorem Cls.notRow {w : World} {b base e sz n : Nat} {t : TypeId} {cs : Array Value} {v : Value} {xs : List Value} (h : Cls w b t cs) (hte : t ≠ e) (hr : w.ownsRow base e sz v n xs) : some b ≠ v.ownBlock := by
 rcases hr.2 with ⟨rfl, rfl⟩ | ⟨g, cap, cur, rfl, _, hg, _⟩
 ·simp [Value.ownBlock]
 ·intro e'
  obtain rfl : b = g := by simpa [Value.ownBlock] using e'
  have := (show w.heap[b]? = _ from h).symm.trans hg
  simp at this
  exact hte this.2
theorem Own.setBox {w : World} {b base e sz n j : Nat} {t : TypeId} {cs : Array Value} {v : Value} {xs : List Value} (hr : w.ownsRow base e sz v n xs) (h : Cls w b t cs) (hte : t ≠ e) (u : Value) : (w.setCell ⟨b, j, none⟩ u).ownsRow base e sz v n xs := by
 refine ⟨hr.1, ?_⟩
 rcases hr.2 with h2 | ⟨g, cap, cur, hv, hb, hg, r⟩
 ·exact .inl h2
 ·refine .inr ⟨g, cap, cur, hv, hb, ?_, r⟩
  have hne : g ≠ b := fun e' => by
   have := h.notRow hte hr
   rw [hv] at this
   simp [Value.ownBlock, e'] at this
  exact (Below.heap_setCell _ _ _ g hne).trans hg
theorem Own.set2 {w : World} {b base e sz n : Nat} {t : TypeId} {x y : Value} {v : Value} {xs : List Value} (hr : w.ownsRow base e sz v n xs) (h : Cls w b t #[x, y]) (hte : t ≠ e) (u u' : Value) : ((w.setCell ⟨b, 0, none⟩ u).setCell ⟨b, 1, none⟩ u').ownsRow base e sz v n xs :=
 Own.setBox (Own.setBox hr h hte u) (h.set (j := 0) u) hte u'
theorem Cls.other2 {w : World} {b b' : Nat} {t : TypeId} {cs : Array Value} (h : Cls w b t cs) (hne : b ≠ b') (u v : Value) : Cls ((w.setCell ⟨b', 0, none⟩ u).setCell ⟨b', 1, none⟩ v) b t cs := (h.other hne u).other hne v
theorem IntOwn.set2 {w : World} {B b : Nat} {t : TypeId} {x y v : Value} {X : Int} (h : IntOwn w B v X) (hc : Cls w b t #[x, y]) (ht : t ≠ 107) (u u' : Value) : IntOwn ((w.setCell ⟨b, 0, none⟩ u).setCell ⟨b, 1, none⟩ u') B v X := by
 obtain ⟨p, c, hv, ho⟩ := h
 exact ⟨p, c, hv, Own.set2 ho hc ht u u'⟩
theorem IntOwn.form {w : World} {B : Nat} {v : Value} {X : Int} (h : IntOwn w B v X) : ∃ s p n c, v = .agg #[.bool s, .slice p n c] := by
 obtain ⟨p, c, hv, _⟩ := h
 exact ⟨_, _, _, _, hv⟩
theorem IntRd.form4 {w : World} {v : Value} {X : Int} (h : IntRd w v X) : ∃ s p n c, v = .agg #[.bool s, .slice p n c] := by
 obtain ⟨p, c, hv, _⟩ := h
 exact ⟨_, _, _, _, hv⟩
theorem IntIn.form {w : World} {v : Value} {X : Int} {k : Nat} (h : IntIn w v X k) : ∃ s p n c, v = .agg #[.bool s, .slice p n c] := by
 obtain ⟨neg, xs, ⟨p, c, hv, _⟩, _⟩ := h
 exact ⟨_, _, _, _, hv⟩
theorem Beh.cells {a b : World} (h : Beh a b) : ∀ g j, g < a.heap.size → b.cell? ⟨g, j, none⟩ = a.cell? ⟨g, j, none⟩ := fun g j hg => Below.cell (p := ⟨g, j, none⟩) h hg
theorem KeepBut.setNew {W a : World} {r b j : Nat} (h : KeepBut W r a) (hb : W.heap.size ≤ b) (v : Value) : KeepBut W r (a.setCell ⟨b, j, none⟩ v) :=
 ⟨Nat.le_trans h.1 (by simp), fun k hk hr => (Below.heap_setCell _ _ _ k (by show k ≠ b; omega)).trans (h.2 k hk hr)⟩
theorem IntRd.parts {w : World} {s : Bool} {p : Option Addr} {n c : Nat} {X : Int} (h : IntRd w (.agg #[.bool s, .slice p n c]) X) : n = (limbs X.natAbs).length ∧ Rd w 1 (.slice p n c) n (ints .u32 (limbs X.natAbs)) ∧ X = if s = true then -(X.natAbs : Int) else (X.natAbs : Int) := by
 obtain ⟨p', c', hv, hr, _⟩ := h
 simp only [Value.agg.injEq, Array.mk.injEq, List.cons.injEq, Value.bool.injEq, Value.slice.injEq, and_true] at hv
 obtain ⟨rfl, rfl, rfl, rfl⟩ := hv
 refine ⟨rfl, hr, ?_⟩
 split
 ·rename_i h; have := of_decide_eq_true h; omega
 ·rename_i h; have : ¬ X < 0 := fun h' => h (decide_eq_true h'); omega
theorem IntRd.own {w w' : World} {B : Nat} {s : Bool} {p p' : Option Addr} {n c c' : Nat} {X : Int} (h : IntRd w (.agg #[.bool s, .slice p n c]) X) (ho : w'.ownsRow B 107 1 (.slice p' n c') n (ints .u32 (limbs X.natAbs))) :
  IntOwn w' B (.agg #[.bool s, .slice p' n c']) X := by
 obtain ⟨p1, c1, hv, hr, _⟩ := h
 simp only [Value.agg.injEq, Array.mk.injEq, List.cons.injEq, Value.bool.injEq, Value.slice.injEq, and_true] at hv
 obtain ⟨rfl, rfl, rfl, rfl⟩ := hv
 exact ⟨p', c', rfl, ho⟩
theorem IntOwn.ofNat {w : World} {B : Nat} {p : Option Addr} {n c m : Nat} (h : w.ownsRow B 107 1 (.slice p n c) n (ints .u32 (limbs m))) (hn : n = (limbs m).length) : IntOwn w B (.agg #[.bool false, .slice p n c]) (m : Int) := by
 subst hn
 refine ⟨p, c, ?_, by simpa using h⟩
 congr 3
theorem sign_neg {X : Int} (h : X < 0) : X.sign = -1 := Int.sign_eq_neg_one_of_neg h
theorem sign_pos {X : Int} (h : 0 < X) : X.sign = 1 := Int.sign_eq_one_of_pos h
theorem IntRd.sgn {w : World} {s : Bool} {p : Option Addr} {n c : Nat} {X : Int} (h : IntRd w (.agg #[.bool s, .slice p n c]) X) : s = decide (X < 0) := by
 obtain ⟨p', c', hv, hr, _⟩ := h
 simp only [Value.agg.injEq, Array.mk.injEq, List.cons.injEq, Value.bool.injEq, Value.slice.injEq, and_true] at hv
 exact hv.1
def KeepBut2 (W : World) (r q : Nat) (w' : World) : Prop := W.heap.size ≤ w'.heap.size ∧ ∀ b, b < W.heap.size → b ≠ r → b ≠ q → w'.heap[b]? = W.heap[b]?
theorem KeepBut2.refl (W : World) (r q : Nat) : KeepBut2 W r q W := ⟨Nat.le_refl _, fun _ _ _ _ => rfl⟩
theorem KeepBut2.drew {W w' : World} {r q : Nat} (h : KeepBut2 W r q w') : KeepBut2 W r q w'.drew := h
theorem KeepBut2.thn {W a b : World} {r q : Nat} (h : KeepBut2 W r q a) (k : Beh a b) : KeepBut2 W r q b :=
 ⟨Nat.le_trans h.1 k.size, fun j hj hr hq => (Below.block k j (Nat.lt_of_lt_of_le hj h.1)).trans (h.2 j hj hr hq)⟩
theorem KeepBut2.setA {W a : World} {r q j : Nat} (h : KeepBut2 W r q a) (v : Value) : KeepBut2 W r q (a.setCell ⟨r, j, none⟩ v) :=
 ⟨Nat.le_trans h.1 (by simp), fun b hb hr hq => (Below.heap_setCell _ _ _ b hr).trans (h.2 b hb hr hq)⟩
theorem KeepBut2.setB {W a : World} {r q j : Nat} (h : KeepBut2 W r q a) (v : Value) : KeepBut2 W r q (a.setCell ⟨q, j, none⟩ v) :=
 ⟨Nat.le_trans h.1 (by simp), fun b hb hr hq => (Below.heap_setCell _ _ _ b hq).trans (h.2 b hb hr hq)⟩
theorem KeepBut2.cls {W w' : World} {r q b : Nat} {t : TypeId} {cs : Array Value} (h : KeepBut2 W r q w') (hc : Cls W b t cs) (hr : b ≠ r) (hq : b ≠ q) : Cls w' b t cs := (h.2 b hc.lt hr hq).trans hc
theorem Cls.apart {w : World} {a b : Nat} {t t' : TypeId} {cs cs' : Array Value} (h : Cls w a t cs) (h' : Cls w b t' cs') (ht : t ≠ t') : a ≠ b := fun e => by
 subst e
 have := (show w.heap[_]? = _ from h).symm.trans h'
 simp at this
 exact ht this.2
theorem IntOwn.cast {w : World} {B : Nat} {v : Value} {X Y : Int} (h : IntOwn w B v X) (e : X = Y) : IntOwn w B v Y := e ▸ h
theorem sum_len {a b n m : Nat} (hn : n = (limbs a).length) (hm : m = (limbs b).length) : (limbs (a + b)).length ≤ n + m + 1 := by
 have := Sz.add (X := (a : Int)) (Y := (b : Int)) (k := n) (l := m) (m := n + m) (by show (limbs _).length ≤ _; rw [Int.natAbs_natCast]; omega) (by show (limbs _).length ≤ _; rw [Int.natAbs_natCast]; omega) (by omega) (by omega)
 have e : ((a : Int) + (b : Int)).natAbs = a + b := by omega
 unfold Sz at this
 rwa [e] at this
end Go.Proofs.YtofdiijioejljaaGreat
