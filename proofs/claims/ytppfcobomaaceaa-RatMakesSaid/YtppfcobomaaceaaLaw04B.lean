/- Fractions that are written over: what a call of spoil keeps, and how a walk goes over such a call. -/
import Derived.Test.YtppfcobomaaceaaLaw04A
namespace Go.Proofs.Ytppfcobomaaceaa
open Go.RowKit

/-- a row of limbs that may be written over -/
def HuskRow (w : World) (B : Nat) (p : Option Addr) (n : Nat) : Prop := n = 0 ∨ ∃ g cur, p = some ⟨g, 0, none⟩ ∧ B ≤ g ∧ w.heap[g]? = some (Obj.cells cur UU (0, 0)) ∧ n ≤ cur.size
def Husk (w : World) (B : Nat) (v : Value) : Prop := ∃ s p n c t r m d, v = .agg #[.bool s, .slice p n c, .bool t, .slice r m d] ∧ HuskRow w B p n ∧ n ≤ 9223372036854775807 ∧ HuskRow w B r m ∧ m ≤ 9223372036854775807
/-- blocks of limbs may have been written over, from a block on -/
structure Spo (B : Nat) (w w' : World) : Prop where
  os : w'.os = w.os
  tape : w'.tape = w.tape
  output : w'.output = w.output
  size : w.heap.size ≤ w'.heap.size
  blk : ∀ b : Nat, b < w.heap.size → (b < B ∨ ∀ cur : Array Value, w.heap[b]? ≠ some (Obj.cells cur UU (0, 0))) → w'.heap[b]? = w.heap[b]?
  shp : ∀ (g : Nat) (cur : Array Value), w.heap[g]? = some (Obj.cells cur UU (0, 0)) → ∃ cur', w'.heap[g]? = some (Obj.cells cur' UU (0, 0)) ∧ cur'.size = cur.size
theorem Spo.refl (B : Nat) (w : World) : Spo B w w := ⟨rfl, rfl, rfl, Nat.le_refl _, fun _ _ _ => rfl, fun _ cur h => ⟨cur, h, rfl⟩⟩
theorem Spo.beh {B : Nat} {w w' : World} (h : Beh w w') : Spo B w w' :=
  ⟨h.os, h.tape, h.output, h.size, fun b hb _ => Below.block h b hb, fun g cur hg => ⟨cur, (Below.block h g (Array.getElem?_eq_some_iff.1 hg).1).trans hg, rfl⟩⟩
theorem Spo.thn {B : Nat} {a b c : World} (h : Spo B a b) (k : Spo B b c) : Spo B a c :=
  ⟨k.os.trans h.os, k.tape.trans h.tape, k.output.trans h.output, Nat.le_trans h.size k.size, fun x hx hd => by
      rw [k.blk x (Nat.lt_of_lt_of_le hx h.size) (hd.imp id fun e cur => by rw [h.blk x hx (.inr e)]; exact e cur)]
      exact h.blk x hx hd,
    fun g cur hg => by
      obtain ⟨c1, h1, e1⟩ := h.shp g cur hg
      obtain ⟨c2, h2, e2⟩ := k.shp g c1 h1
      exact ⟨c2, h2, e2.trans e1⟩⟩
theorem setCell_block {w : World} {g j : Nat} {cur : Array Value} {t : TypeId} {v : Value} (hg : w.heap[g]? = some (Obj.cells cur t (0, 0))) : (w.setCell ⟨g, j, none⟩ v).heap[g]? = some (Obj.cells (cur.setIfInBounds j v) t (0, 0)) :=
  Cls.set (b := g) (t := t) (cs := cur) hg v
theorem Spo.set {B : Nat} {w : World} {g j : Nat} {cur : Array Value} (hg : w.heap[g]? = some (Obj.cells cur UU (0, 0))) (hB : B ≤ g) (v : Value) : Spo B w (w.setCell ⟨g, j, none⟩ v) :=
  ⟨rfl, rfl, rfl, by simp [World.setCell], fun b hb hd => Below.heap_setCell w ⟨g, j, none⟩ v b (fun e => by
      subst e
      rcases hd with e | e
      · exact absurd e (Nat.not_lt.2 hB)
      · exact e cur hg),
    fun x c hx => by
      by_cases e : x = g
      · subst e
        rw [hg] at hx
        cases hx
        exact ⟨_, setCell_block hg, by simp⟩
      · exact ⟨c, (Below.heap_setCell w ⟨g, j, none⟩ v x e).trans hx, rfl⟩⟩
theorem HuskRow.spo {B : Nat} {w w' : World} {p : Option Addr} {n : Nat} (h : HuskRow w B p n) (k : Spo B w w') : HuskRow w' B p n := by
  rcases h with h | ⟨g, cur, hp, hb, hg, hn⟩
  · exact .inl h
  · obtain ⟨c1, h1, e1⟩ := k.shp g cur hg
    exact .inr ⟨g, c1, hp, hb, h1, by omega⟩
theorem Husk.spo {B : Nat} {w w' : World} {v : Value} (h : Husk w B v) (k : Spo B w w') : Husk w' B v := by
  obtain ⟨s, p, n, c, t, r, m, d, hv, h1, h2, h3, h4⟩ := h
  exact ⟨s, p, n, c, t, r, m, d, hv, h1.spo k, h2, h3.spo k, h4⟩
theorem HuskRow.own {w : World} {B n : Nat} {p : Option Addr} {c : Nat} {xs : List Value} (h : w.ownsRow B UU 1 (.slice p n c) n xs) : HuskRow w B p n := by
  rcases h.2 with ⟨h1, _⟩ | ⟨g, cap, cur, hv, hb, hg, h1, h2, h3, _⟩
  · simp only [Value.slice.injEq] at h1
    exact .inl h1.2.1
  · simp only [Value.slice.injEq, true_and] at hv
    obtain ⟨hv1, _⟩ := hv
    exact .inr ⟨g, cur, hv1, hb, hg, by omega⟩
theorem IntOwn.row {w : World} {B : Nat} {s : Bool} {p : Option Addr} {n c : Nat} {X : Int} (h : IntOwn w B (.agg #[.bool s, .slice p n c]) X) : HuskRow w B p n ∧ n ≤ 9223372036854775807 := by
  obtain ⟨p', c', hv, ho⟩ := h
  simp only [Value.agg.injEq, Array.mk.injEq, List.cons.injEq, and_true, Value.slice.injEq] at hv
  obtain ⟨_, rfl, rfl, rfl⟩ := hv
  obtain ⟨_, _, hv, h1, h2, _⟩ := (Rd.own ho).u32
  exact ⟨.own ho, by omega⟩
theorem RatOwn.husk {w : World} {B : Nat} {v : Value} {q : Rat} (h : RatOwn w B v q) : Husk w B v := by
  obtain ⟨s, p, n, c, t, r, m, d, rfl, h1, h2⟩ := h
  exact ⟨s, p, n, c, t, r, m, d, rfl, h1.row.1, h1.row.2, h2.row.1, h2.row.2⟩
theorem HuskRow.cell {w : World} {B n j : Nat} {p : Option Addr} (h : HuskRow w B p n) (hj : j < n) : ∃ g cur u, p = some ⟨g, 0, none⟩ ∧ B ≤ g ∧ w.heap[g]? = some (Obj.cells cur UU (0, 0)) ∧ w.cell? ⟨g, j, none⟩ = some u ∧ w.frozen? ⟨g, j, none⟩ = false := by
  rcases h with h | ⟨g, cur, hp, hb, hg, hn⟩
  · omega
  · exact ⟨g, cur, _, hp, hb, hg, Cls.cell (b := g) hg (Array.getElem?_eq_getElem (show j < cur.size by omega)), Cls.frozen (b := g) hg j⟩
theorem Cls.spo {B : Nat} {w w' : World} {b : Nat} {t : TypeId} {cs : Array Value} (h : Cls w b t cs) (ht : t ≠ UU) (k : Spo B w w') : Cls w' b t cs :=
  (k.blk b h.lt (.inr fun cur e => ht (by have := (h.symm.trans e); cases this; rfl))).trans h
theorem Cls.four {w : World} {b : Nat} {t : TypeId} {x y z u : Value} (h : Cls w b t #[x, y, z, u]) : w.cell? ⟨b, 0, none⟩ = some x ∧ w.cell? ⟨b, 1, none⟩ = some y ∧ w.cell? ⟨b, 2, none⟩ = some z ∧ w.cell? ⟨b, 3, none⟩ = some u :=
  ⟨h.cell rfl, h.cell rfl, h.cell rfl, h.cell rfl⟩

def SpoInv (W : World) (B n : Nat) (iv : Value) (wr : World) : Prop := ∃ k : Nat, k ≤ n ∧ iv = .int .i64 (k : Int) ∧ Spo B W wr
/-! a region whose last operation is a call that writes over blocks of limbs -/
section
variable {C : Cx} {Q : Exit → Act → World → Prop} {k : List It} {F : Fr} {H : Hp} {w : World}
theorem OwnV.spo {β : Nat → Nat} {B : Nat} {i : Nat} {t : TypeId} {cs : List AV} {w w' : World} (hU : C.K.U = UU) (h : OwnV C β w i t cs) (k : Spo B w w') : OwnV C β w' i t cs :=
  ⟨h.new, h.ty, h.cls.spo (fun e => by have := h.ty; unfold KC.fz at this; rw [e, hU, Nat.beq_refl] at this; cases this) k, h.ok⟩
theorem Rel.spo {β : Nat → Nat} {B : Nat} {a : Act} {w w' : World} (hU : C.K.U = UU) (hr : Rel C β F H a w) (hB : C.w0.heap.size ≤ B) (k : Spo B w w') : Rel C β F H a w' :=
  ⟨hr.defers, hr.size, hr.tmp, fun i t cs h => (hr.own i t cs h).spo hU k, hr.apart, hr.closed, hr.fits, hr.hp,
    Below.trans hr.old ⟨k.os, k.tape, k.output, k.size, fun b hb => k.blk b (Nat.lt_of_lt_of_le hb hr.old.size) (.inl (by omega))⟩⟩
theorem vcOps_tail (hC : C.Ok) {m : Option (List FuncId)} {full : Array Oper} {K : Fr → Hp → World → Prop} {q : Act → World → Prop} {tl : List Oper} (hQ : ∀ β F H w a w', K F H w → Rel C β F H a w' → KpS C.K w w' → wpList C.P full Q tl a w') :
    ∀ (l : List Oper) (β : Nat → Nat) (F : Fr) (H : Hp) (w : World) (a : Act) (w' : World), vcOps C m full l K F H w → Rel C β F H a w' → KpS C.K w w' → wpList C.P full Q (l ++ tl) a w'
  | [], β, F, H, w, a, w', h, hr, hk => hQ β F H w a w' h hr hk
  | o :: r, β, F, H, w, a, w', h, hr, hk => by
    refine wpList_step fun K' hK' => ?_
    exact one_sound hC (k := vcOps C m full r K) h hr hk fun β F' H' w1 a' w1' h1 h2 h3 => hK' _ _ (vcOps_tail hC (q := q) hQ r β F' H' w1 a' w1' h1 h2 h3)
/-- the call of a function that spoils -/
def SpoK (C : Cx) (Q : Exit → Act → World → Prop) (k : List It) (full : Array Oper) (o : Oper) (F : Fr) (H : Hp) (w : World) : Prop :=
  ∃ g v B, stepOf C full F H o = .call (.fn g [.val v]) ∧ C.w0.heap.size ≤ B ∧ FnOk C.P g ∧ ∀ w1, KpS C.K w w1 → Beh C.w0 w1 → Calls C.P g #[v] w1 fun e w2 => e = .returned (.tuple #[]) ∧ Spo B w1 w2 ∧ (Beh C.w0 w2 → VS C Q k (F.puto o.dst (.val (.tuple #[]))) H w2)
theorem VS.regionS (hC : C.Ok) (hU : C.K.U = UU) {id : Nat} {ops : Array Oper} (pre : List Oper) (o : Oper) (hops : ops.toList = pre ++ [o]) (h : vcOps C none ops pre (SpoK C Q k ops o) F H w) : VS C Q (.code (.region id ops false) :: k) F H w := fun β a w' hr hk => by
  refine wp_region_list ?_
  rw [hops]
  refine vcOps_tail hC (q := fun _ _ => True) (fun β F H w a w' h hr hk => ?_) pre β F H w a w' h hr hk
  obtain ⟨g, v, B, hst, hB, hfn, hc⟩ := h
  refine wpList_step fun K' hK' => ?_
  have hb : stepOf C ops F H o ≠ .bad := fun e => by rw [e] at hst; cases hst
  obtain ⟨hd, ⟨hw, hs⟩ | ⟨hw, hs⟩⟩ := stepOf_inv hb
  · rw [hs] at hst; cases hst
  · rw [wants_sound hr hw, if_pos rfl]
    rw [hs] at hst
    refine does_wp (β := β) hr hst ⟨hfn, (hc w' hk hr.old).mono ?_⟩
    rintro e w2 ⟨rfl, hsp, hv⟩
    have hr2 := hr.spo hU hB hsp
    exact ⟨_, rfl, hK' _ _ (hv hr2.old β _ w2 (hr2.put hd (v := .val (.tuple #[])) (fun _ hi => by cases hi)) (KpS.refl _ _))⟩
end
end Go.Proofs.Ytppfcobomaaceaa
