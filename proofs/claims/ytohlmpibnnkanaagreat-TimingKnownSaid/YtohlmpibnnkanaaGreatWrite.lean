/- Memory that is written over: rows that calls have answered, written by the walk itself. What was there before the row's making is kept; of what was made beside it, what lies in other blocks. -/
import Derived.Test.YtohlmpibnnkanaaGreatRowW
import Derived.Test.YtohlmpibnnkanaaGreatKeep
set_option linter.all false
namespace Go.Proofs.YtohlmpibnnkanaaGreat
open Go.RowKit

section
variable {C : Cx} {β : Nat → Nat} {F : Fr} {H : Hp} {a : Act} {w : World} {Q : Exit → Act → World → Prop} {k : List It}
theorem vcOps_tailW (hC : C.Ok) {m : Option (List FuncId)} {full : Array Oper} {K : Fr → Hp → World → Prop} {q : Act → World → Prop} {tl : List Oper} (hQ : ∀ β F H w a w', K F H w → Rel C β F H a w' → KpS C.K w w' → wpList C.P full Q tl a w') :
  ∀ (l : List Oper) (β : Nat → Nat) (F : Fr) (H : Hp) (w : World) (a : Act) (w' : World), vcOps C m full l K F H w → Rel C β F H a w' → KpS C.K w w' → wpList C.P full Q (l ++ tl) a w'
 | [], β, F, H, w, a, w', h, hr, hk => hQ β F H w a w' h hr hk
 | o :: r, β, F, H, w, a, w', h, hr, hk => by
  refine wpList_step fun K' hK' => ?_
  exact one_sound hC (k := vcOps C m full r K) h hr hk fun β' F' H' w1 a' w1' h1 h2 h3 => hK' _ _ (vcOps_tailW hC (q := q) hQ r β' F' H' w1 a' w1' h1 h2 h3)
theorem Rel.over (hO : ∀ w, C.Old w ↔ Beh C.w0 w) (hr : Rel C β F H a w) {b o : Nat} {vs : List Value} {cur : Array Value} {ty : TypeId} (hB : C.w0.heap.size ≤ b) (hc : w.heap[b]? = some (Obj.cells cur ty (0, 0))) (ht : C.K.fz ty = true) : Rel C β F H a (w.setCells b o vs) := by
 obtain ⟨e1, e2, e3, e4⟩ := setCells_same (b := b) vs o w
 refine ⟨hr.defers, hr.size, hr.tmp, fun i t cs h => ?_, hr.apart, hr.closed, hr.fits, hr.hp, (hO _).2 (Below.trans ((hO _).1 hr.old) ⟨e1, e2, e3, e4, fun g hg => setCells_block vs o w g (by omega)⟩)⟩
 obtain ⟨h1, h2, h3, h4⟩ := hr.own i t cs h
 refine ⟨h1, h2, (setCells_block vs o w _ (fun e => ?_)).trans h3, h4⟩
 rw [e] at h3
 have := hc.symm.trans h3
 cases this
 rw [h2] at ht
 cases ht
def StoK (C : Cx) (Q : Exit → Act → World → Prop) (k : List It) (full : Array Oper) (o : Oper) (F : Fr) (H : Hp) (w : World) : Prop :=
 ∃ t x y b off i v, o.op = .store t x y ∧ dstOk C.N o.dst = true ∧ wants full F o = some true ∧ ev F x = some (.val (.pointer (some ⟨b, off, none⟩))) ∧ evv F y = some v ∧ C.ti t = some i ∧ v.cells.size = i.size ∧ v.cells.toList.all Value.oneCell' = true ∧ C.w0.heap.size ≤ b ∧
  ∀ w1, KpS C.K w w1 → Beh C.w0 w1 → ∃ cur ty, w1.heap[b]? = some (Obj.cells cur ty (0, 0)) ∧ off + i.size ≤ cur.size ∧ C.K.fz ty = true ∧ (Beh C.w0 (w1.setCells b off v.cells.toList) → VS C Q k (F.puto o.dst (.val undef)) H (w1.setCells b off v.cells.toList))
theorem VS.regionW (hC : C.Ok) (hO : ∀ w, C.Old w ↔ Beh C.w0 w) {id : Nat} {ops : Array Oper} (pre : List Oper) (o : Oper) (hops : ops.toList = pre ++ [o]) (h : vcOps C none ops pre (StoK C Q k ops o) F H w) : VS C Q (.code (.region id ops false) :: k) F H w := fun β a w' hr hk => by
 refine wp_region_list ?_
 rw [hops]
 refine vcOps_tailW hC (q := fun _ _ => True) (fun β F H w a w' h hr hk => ?_) pre β F H w a w' h hr hk
 obtain ⟨t, x, y, b, off, i, v, hop, hd, hw, hx, hy, hi, hsz, hone, hB, hc⟩ := h
 obtain ⟨cur, ty, h1, h2, h3, h4⟩ := hc w' hk ((hO _).1 hr.old)
 refine wpList_step fun K' hK' => ?_
 rw [wants_sound hr hw, if_pos rfl]
 have hr2 := hr.over hO (o := off) (vs := v.cells.toList) hB h1 h3
 have hb2 := (hO _).1 hr2.old
 have hx' : a.eval x = .pointer (some ⟨b, off, none⟩) := hr.ev hx
 have hy' : a.eval y = v := hr.evv hy
 have hz := (hC t i hi).size
 refine Oper.wp_skip (w' := w'.setCells b off v.cells.toList) ?_ (hK' _ _ (h4 hb2 β _ _ (hr2.put hd (v := .val undef) (fun _ hi => by cases hi)) (KpS.refl _ _)))
 cases hq : C.P.info? t with
 | none => rw [hq] at hz; simp at hz
 | some ti =>
  rw [hq] at hz
  simp at hz
  have := run_storeCells_cells (P := C.P) b off v.cells.toList 0 w' (fun j hj => by
    obtain ⟨z, hz⟩ : ∃ z, cur[off + j]? = some z := ⟨_, Array.getElem?_eq_getElem (by rw [Array.length_toList] at hj; omega)⟩
    rw [Nat.add_zero, Cls.cell (b := b) h1 hz]; rfl)
   (fun j _ => Cls.frozen (b := b) h1 _) (fun z hz => List.all_eq_true.1 hone z hz)
  rw [Nat.add_zero] at this
  have hst : (Instr.storeAt t (.pointer (some ⟨b, off, none⟩)) v).run C.P w' = .ok () (w'.setCells b off v.cells.toList) := by
   simp only [Instr.storeAt, Instr.sureAddr, storeVar, sizeOf, typeInfo, Sem.run_bind, Sem.run_pure, Result.andThen_ok]
   simp [hq, hz, hsz, this]
  simp [execOp, hop, hx', hy', hst]
theorem VS.regionWn (hC : C.Ok) (hO : ∀ w, C.Old w ↔ Beh C.w0 w) {id : Nat} {ops : Array Oper} {o : Oper} (hl : ops.toList.getLast? = some o) (h : vcOps C none ops ops.toList.dropLast (StoK C Q k ops o) F H w) : VS C Q (.code (.region id ops false) :: k) F H w :=
 VS.regionW hC hO ops.toList.dropLast o (by
  obtain ⟨l, hl⟩ := List.getLast?_eq_some_iff.1 hl
  rw [hl]; simp) h
end

theorem cell_eq {w w' : World} {a : Addr} (h : w'.heap[a.block]? = w.heap[a.block]?) : w'.cell? a = w.cell? a := by
 unfold World.cell?
 rw [h]
theorem setCells_kp {K : KC} {w : World} {b o : Nat} {vs : List Value} {cur : Array Value} {ty : TypeId} (hc : w.heap[b]? = some (Obj.cells cur ty (0, 0))) : KpS ⟨K.U, fun g => g ≠ b, K.T⟩ w (w.setCells b o vs) :=
 ⟨(setCells_same vs o w).2.2.2, fun a x s h => by rw [cell_eq (setCells_block vs o w _ s)]; exact h, fun t g c _ s h => (setCells_block vs o w _ s).trans h, fun g es c h => (setCells_block vs o w _ (fun e => by subst e; rw [hc] at h; cases h)).trans h⟩
theorem setCells_shape {b : Nat} {ty : TypeId} : ∀ (vs : List Value) (o : Nat) (w : World) (cur : Array Value), w.heap[b]? = some (Obj.cells cur ty (0, 0)) → ∃ cur', (w.setCells b o vs).heap[b]? = some (Obj.cells cur' ty (0, 0)) ∧ cur'.size = cur.size
 | [], _, _, cur, h => ⟨cur, h, rfl⟩
 | v :: r, o, w, cur, h => by
  obtain ⟨c, h1, h2⟩ := setCells_shape r (o + 1) (w.setCell ⟨b, o, none⟩ v) (cur.setIfInBounds o v) (Cls.set (b := b) (t := ty) (cs := cur) h v)
  exact ⟨c, h1, by rw [h2]; simp⟩
structure Over (T : TypeId → Bool) (b : Nat) (w w' : World) : Prop where
 kp : KpS ⟨UU, fun g => g ≠ b, T⟩ w w'
 shp : ∀ (cur : Array Value) (ty : TypeId), w.heap[b]? = some (Obj.cells cur ty (0, 0)) → (Nat.beq ty UU || T ty) = true → ∃ cur', w'.heap[b]? = some (Obj.cells cur' ty (0, 0)) ∧ cur'.size = cur.size
theorem Over.refl (T : TypeId → Bool) (b : Nat) (w : World) : Over T b w w := ⟨KpS.refl _ _, fun cur _ h _ => ⟨cur, h, rfl⟩⟩
theorem Over.of {T : TypeId → Bool} {b : Nat} {w w' : World} (h : KpS ⟨UU, fun _ => True, T⟩ w w') : Over T b w w' := ⟨h.less (fun _ _ => trivial) (fun _ h => h), fun cur ty hc ht => ⟨cur, h.block ty b cur ht trivial hc, rfl⟩⟩
theorem Over.thn {T : TypeId → Bool} {b : Nat} {x y z : World} (h : Over T b x y) (k : Over T b y z) : Over T b x z :=
 ⟨h.kp.thn k.kp, fun cur ty hc ht => by
  obtain ⟨c1, h1, e1⟩ := h.shp cur ty hc ht
  obtain ⟨c2, h2, e2⟩ := k.shp c1 ty h1 ht
  exact ⟨c2, h2, e2.trans e1⟩⟩
theorem Over.set {T : TypeId → Bool} {b o : Nat} {w : World} {vs : List Value} {cur : Array Value} {ty : TypeId} (hc : w.heap[b]? = some (Obj.cells cur ty (0, 0))) : Over T b w (w.setCells b o vs) :=
 ⟨setCells_kp (K := ⟨UU, fun _ => True, T⟩) hc, fun c t h _ => setCells_shape vs o w c h⟩
theorem Over.old {T : TypeId → Bool} {b : Nat} {W w w' : World} (h0 : KpS ⟨UU, fun _ => True, T⟩ W w) (h : Over T b w w') (hb : W.heap.size ≤ b) : KpS ⟨UU, fun _ => True, T⟩ W w' :=
 KpS.all (K := ⟨UU, fun g => g < W.heap.size, T⟩) ((h0.less (fun _ _ => trivial) (fun _ h => h)).thn (h.kp.less (fun g hg => by omega) (fun _ h => h))) (fun _ h => h)

def Lies (S : Nat → Prop) (p : Option Addr) (n : Nat) : Prop := 0 < n → ∀ b off sp, p = some ⟨b, off, sp⟩ → S b
theorem Lies.imp {S S' : Nat → Prop} {p : Option Addr} {n : Nat} (h : Lies S p n) (hs : ∀ b, S b → S' b) : Lies S' p n := fun h0 b off sp e => hs b (h h0 b off sp e)
theorem Lies.rd {w : World} {n c : Nat} {p : Option Addr} {xs : List Nat} (h : Rd w 1 (.slice p n c) n (ints .u32 xs)) : Lies (fun b => b < w.heap.size) p n := fun h0 b off sp e => by
 obtain ⟨b', o', x, hp, _, _, hc⟩ := h.cellAt h0
 rw [e] at hp
 cases hp
 exact World.block_lt_of_cell? w _ hc
theorem Lies.own {w : World} {B n c : Nat} {p : Option Addr} {xs : List Value} (h : w.ownsRow B UU 1 (.slice p n c) n xs) : Lies (fun b => B ≤ b) p n := fun h0 b off sp e => by
 rcases h.2 with ⟨h1, _⟩ | ⟨g, cap, cur, hv, hb, _⟩
 ·simp only [Value.slice.injEq] at h1; omega
 ·simp only [Value.slice.injEq] at hv
  rw [e] at hv
  obtain ⟨hv, _⟩ := hv
  cases hv
  exact hb
theorem IntRd.lies {w : World} {s : Bool} {p : Option Addr} {n c : Nat} {X : Int} (h : IntRd w (.agg #[.bool s, .slice p n c]) X) : Lies (fun b => b < w.heap.size) p n := by
 obtain ⟨h1, h2, _⟩ := h.parts
 exact Lies.rd h2
theorem IntOwn.lies {w : World} {B : Nat} {s : Bool} {p : Option Addr} {n c : Nat} {X : Int} (h : IntOwn w B (.agg #[.bool s, .slice p n c]) X) : Lies (fun b => B ≤ b) p n := by
 obtain ⟨p', c', hv, ho⟩ := h
 simp only [Value.agg.injEq, Array.mk.injEq, List.cons.injEq, and_true, Value.slice.injEq] at hv
 obtain ⟨_, rfl, rfl, rfl⟩ := hv
 exact Lies.own ho
def Huk (w : World) (p : Option Addr) (n : Nat) : Prop := 0 < n → ∃ g cur, p = some ⟨g, 0, none⟩ ∧ w.heap[g]? = some (Obj.cells cur UU (0, 0)) ∧ n ≤ cur.size
theorem Huk.own {w : World} {B n c : Nat} {p : Option Addr} {xs : List Value} (h : w.ownsRow B UU 1 (.slice p n c) n xs) : Huk w p n := fun h0 => by
 rcases h.2 with ⟨h1, _⟩ | ⟨g, cap, cur, hv, hb, hg, h1, h2, h3, _⟩
 ·simp only [Value.slice.injEq] at h1; omega
 ·simp only [Value.slice.injEq, true_and] at hv
  obtain ⟨hv1, _⟩ := hv
  exact ⟨g, cur, hv1, hg, by omega⟩
theorem IntOwn.huk {w : World} {B : Nat} {s : Bool} {p : Option Addr} {n c : Nat} {X : Int} (h : IntOwn w B (.agg #[.bool s, .slice p n c]) X) : Huk w p n := by
 obtain ⟨p', c', hv, ho⟩ := h
 simp only [Value.agg.injEq, Array.mk.injEq, List.cons.injEq, and_true, Value.slice.injEq] at hv
 obtain ⟨_, rfl, rfl, rfl⟩ := hv
 exact Huk.own ho
theorem Huk.over {T : TypeId → Bool} {w w' : World} {b off : Nat} {n : Nat} (h : Huk w (some ⟨b, off, none⟩) n) (k : Over T b w w') : Huk w' (some ⟨b, off, none⟩) n := fun h0 => by
 obtain ⟨g, cur, hp, hg, hn⟩ := h h0
 cases hp
 obtain ⟨c, h1, h2⟩ := k.shp cur UU hg (by simp)
 exact ⟨b, c, rfl, h1, by omega⟩
end Go.Proofs.YtohlmpibnnkanaaGreat
