/- Words for memory: a slice value that reads as flat cells; rows of the call's own; what is kept. No function of the program in sight. -/
import Derived.Test.YtofdiijioejljaaGreatLimbMath
import Derived.WalkKit
import Derived.WalkSpells
import Derived.WalkLawsBesides
import Derived.Lib.Hide
import Derived.Outline
set_option linter.all false
namespace Go.Proofs.YtofdiijioejljaaGreat
open Go.RowKit

def Rd (w : World) (sz : Nat) (v : Value) (n : Nat) (cs : List Value) : Prop :=
 ∃ p c, v = .slice p n c ∧ n ≤ c ∧ c ≤ maxLen ∧ cs.length = n * sz ∧ (0 < n * sz → ∃ b off, p = some ⟨b, off, none⟩ ∧ ∀ j u, cs[j]? = some u → w.cell? ⟨b, off + j, none⟩ = some u)

theorem Rd.nil (w : World) (sz : Nat) : Rd w sz (.slice none 0 0) 0 [] := ⟨none, 0, rfl, Nat.le_refl _, by simp [maxLen], by simp, fun h => by omega⟩

theorem Rd.keep {w w' : World} {sz n : Nat} {v : Value} {cs : List Value} (h : Rd w sz v n cs) (hk : ∀ a u, w.cell? a = some u → w'.cell? a = some u) : Rd w' sz v n cs := by
 obtain ⟨p, c, rfl, h1, h2, h3, h4⟩ := h
 refine ⟨p, c, rfl, h1, h2, h3, fun hn => ?_⟩
 obtain ⟨b, off, hp, hc⟩ := h4 hn
 exact ⟨b, off, hp, fun j u hj => hk _ _ (hc j u hj)⟩

theorem cell_lt {w : World} {a : Addr} {u : Value} (h : w.cell? a = some u) : a.block < w.heap.size := World.block_lt_of_cell? w a h

theorem Below.keeps {w w' : World} (h : Below w.heap.size w w') : ∀ a u, w.cell? a = some u → w'.cell? a = some u :=
 fun _ _ hu => (h.cell (cell_lt hu)).trans hu

theorem Rd.below {w w' : World} {sz n : Nat} {v : Value} {cs : List Value} (h : Rd w sz v n cs) (hb : Below w.heap.size w w') : Rd w' sz v n cs := h.keep (Below.keeps hb)
theorem Rd.alloc {w : World} {sz n : Nat} {v : Value} {cs : List Value} (h : Rd w sz v n cs) (o : Obj) : Rd (w.alloc o) sz v n cs :=
 h.below ((Below.refl _ _).alloc (Nat.le_refl _) o)
theorem Rd.drew {w : World} {sz n : Nat} {v : Value} {cs : List Value} (h : Rd w sz v n cs) : Rd w.drew sz v n cs := h

theorem Rd.drewN {w : World} {sz n : Nat} {v : Value} {cs : List Value} (h : Rd w sz v n cs) (k : Nat) : Rd (w.drewN k) sz v n cs := h
theorem Rd.lit {w : World} {cs : Array Value} {e n : Nat} (hn : cs.size = n) (hm : n ≤ 9223372036854775807) : Rd (w.alloc (.cells cs e)) 1 (.slice (some ⟨w.heap.size, 0, none⟩) n n) n cs.toList :=
 ⟨_, n, rfl, Nat.le_refl _, by unfold maxLen; omega, by simp [hn], fun _ => ⟨w.heap.size, 0, rfl, fun j u hj => by
  rw [Nat.zero_add, World.cell?_alloc_new]; simpa using hj⟩⟩
theorem Rd.from {B : Nat} {w w' : World} {sz n : Nat} {v : Value} {cs : List Value} (h : Rd w sz v n cs) (hb : Below B w w') (ho : ∀ p c, v = .slice p n c → 0 < n * sz → ∀ a, p = some a → a.block < B) : Rd w' sz v n cs := by
 obtain ⟨p, c, rfl, h1, h2, h3, h4⟩ := h
 refine ⟨p, c, rfl, h1, h2, h3, fun hn => ?_⟩
 obtain ⟨b, off, hp, hc⟩ := h4 hn
 exact ⟨b, off, hp, fun j u hj => (hb.cell (p := ⟨b, off + j, none⟩) (show b < B from ho p c rfl hn _ hp)).trans (hc j u hj)⟩

theorem Rd.belowB {B : Nat} {w w' : World} {sz n : Nat} {v : Value} {cs : List Value} (h : Rd w sz v n cs) (hB : B = w.heap.size) (hb : Below B w w') : Rd w' sz v n cs := h.below (hB ▸ hb)
theorem Rd.own {w : World} {B e sz n : Nat} {v : Value} {cs : List Value} (h : w.ownsRow B e sz v n cs) : Rd w sz v n cs := by
 rcases h.2 with ⟨rfl, rfl⟩ | ⟨g, cap, cur, rfl, _, hg, hnc, hcm, _, htake⟩
 ·have hx : cs = [] := List.eq_nil_of_length_eq_zero (by simpa using h.1)
  subst hx; exact Rd.nil w sz
 ·refine ⟨_, cap, rfl, hnc, hcm, h.1, fun _ => ⟨g, 0, rfl, fun j u hj => ?_⟩⟩
  have := h.cells (g := g) rfl j u hj
  rwa [show (⟨g, 0, none⟩ : Addr).add j = ⟨g, 0 + j, none⟩ by unfold Addr.add; split <;> simp_all] at this

theorem Own.mono {w : World} {B B' e sz n : Nat} {v : Value} {cs : List Value} (h : w.ownsRow B e sz v n cs) (hB : B' ≤ B) : w.ownsRow B' e sz v n cs := by
 refine ⟨h.1, ?_⟩
 rcases h.2 with h2 | ⟨g, cap, cur, hv, hb, r⟩
 ·exact .inl h2
 ·exact .inr ⟨g, cap, cur, hv, by omega, r⟩

theorem Own.below {w w' : World} {B e sz n : Nat} {v : Value} {cs : List Value} (h : w.ownsRow B e sz v n cs) (hb : Below w.heap.size w w') : w'.ownsRow B e sz v n cs := by
 refine ⟨h.1, ?_⟩
 rcases h.2 with h2 | ⟨g, cap, cur, hv, hg, hh, r⟩
 ·exact .inl h2
 ·exact .inr ⟨g, cap, cur, hv, hg, (hb.block g (Array.getElem?_eq_some_iff.1 hh).1).trans hh, r⟩

theorem Own.formPos {w : World} {B e sz n : Nat} {v : Value} {cs : List Value} (h : w.ownsRow B e sz v n cs) (hn : 0 < n) : ∃ g c, v = .slice (some ⟨g, 0, none⟩) n c ∧ B ≤ g ∧ g < w.heap.size := by
 rcases h.2 with ⟨_, h0⟩ | ⟨g, cap, cur, rfl, hb, hg, _⟩
 ·omega
 ·exact ⟨g, cap, rfl, hb, (Array.getElem?_eq_some_iff.1 hg).1⟩
theorem Own.drewN {w : World} {B e sz n : Nat} {v : Value} {cs : List Value} (h : w.ownsRow B e sz v n cs) (k : Nat) : (w.drewN k).ownsRow B e sz v n cs := h
theorem Below.drewN {B : Nat} {a w : World} (h : Below B a w) (n : Nat) : Below B a (w.drewN n) := ⟨h.os, h.tape, h.output, h.size, h.block⟩
theorem Own.take {w : World} {B e sz n c : Nat} {p : Option Addr} {cs : List Value} (h : w.ownsRow B e sz (.slice p n c) n cs) {m : Nat} (hm : m ≤ n) : w.ownsRow B e sz (.slice p m c) m (cs.take (m * sz)) := by
 have hle : m * sz ≤ n * sz := Nat.mul_le_mul_right _ hm
 refine ⟨by rw [List.length_take, h.1]; omega, ?_⟩
 rcases h.2 with ⟨hv, rfl⟩ | ⟨g, cap, cur, hv, hb, hg, hnc, hcm, hcs, htake⟩
 ·left
  simp only [Value.slice.injEq] at hv
  obtain ⟨rfl, _, rfl⟩ := hv
  exact ⟨by rw [show m = 0 by omega], by omega⟩
 ·right
  simp only [Value.slice.injEq, true_and] at hv
  obtain ⟨rfl, rfl⟩ := hv
  exact ⟨g, c, cur, rfl, hb, hg, by omega, hcm, hcs, by rw [← htake, List.take_take, Nat.min_eq_left hle]⟩

theorem Rd.take {w : World} {sz n c : Nat} {p : Option Addr} {cs : List Value} (h : Rd w sz (.slice p n c) n cs) {m : Nat} (hm : m ≤ n) : Rd w sz (.slice p m c) m (cs.take (m * sz)) := by
 obtain ⟨p', c', hv, h1, h2, h3, h4⟩ := h
 simp only [Value.slice.injEq, true_and] at hv
 obtain ⟨rfl, rfl⟩ := hv
 have hle : m * sz ≤ n * sz := Nat.mul_le_mul_right _ hm
 refine ⟨p, c, rfl, by omega, h2, by rw [List.length_take, h3]; omega, fun hn => ?_⟩
 obtain ⟨b, off, hp, hc⟩ := h4 (by omega)
 exact ⟨b, off, hp, fun j u hj => hc j u (by rw [List.getElem?_take] at hj; split at hj; exact hj; cases hj)⟩

def ints (k : IntKind) (xs : List Nat) : List Value := xs.map fun (x : Nat) => Value.int k (x : Int)
@[simp] theorem ints_length (k : IntKind) (xs : List Nat) : (ints k xs).length = xs.length := by simp [ints]
theorem ints_get {k : IntKind} {xs : List Nat} {j x : Nat} (h : xs[j]? = some x) : (ints k xs)[j]? = some (.int k (x : Int)) := by simp [ints, h]
theorem ints_take (k : IntKind) (xs : List Nat) (m : Nat) : (ints k xs).take m = ints k (xs.take m) := by simp [ints, List.map_take]
theorem ints_drop (k : IntKind) (xs : List Nat) (m : Nat) : (ints k xs).drop m = ints k (xs.drop m) := by simp [ints, List.map_drop]
theorem ints_append (k : IntKind) (xs ys : List Nat) : ints k (xs ++ ys) = ints k xs ++ ints k ys := by simp [ints]
theorem ints_set (k : IntKind) (xs : List Nat) (j x : Nat) : (ints k xs).set j (.int k (x : Int)) = ints k (xs.set j x) := by simp [ints, List.map_set]
theorem ints_one (k : IntKind) (xs : List Nat) : ∀ u ∈ ints k xs, u.oneCell' = true := by
 intro u hu; obtain ⟨_, _, rfl⟩ := List.mem_map.1 hu; rfl

theorem Rd.lit1 {w : World} {k : IntKind} {e a : Nat} {x : Int} (hx : x = (a : Int)) : Rd (w.alloc (.cells #[.int k x] e)) 1 (.slice (some ⟨w.heap.size, 0, none⟩) 1 1) 1 (ints k [a]) := by
 subst hx; exact Rd.lit rfl (by omega)
theorem Rd.lit2 {w : World} {k : IntKind} {e a b : Nat} {x y : Int} (hx : x = (a : Int)) (hy : y = (b : Int)) : Rd (w.alloc (.cells #[.int k x, .int k y] e)) 1 (.slice (some ⟨w.heap.size, 0, none⟩) 2 2) 2 (ints k [a, b]) := by
 subst hx; subst hy; exact Rd.lit rfl (by omega)
theorem Rd.cellAt {w : World} {n : Nat} {p : Option Addr} {c k : Nat} {ki : IntKind} {xs : List Nat} (h : Rd w 1 (.slice p n c) n (ints ki xs)) (hk : k < n) :
  ∃ b off x, p = some ⟨b, off, none⟩ ∧ b < w.heap.size ∧ xs[k]? = some x ∧ w.cell? ⟨b, off + k, none⟩ = some (.int ki (x : Int)) := by
 obtain ⟨p', c', hv, h1, h2, h3, h4⟩ := h
 simp only [Value.slice.injEq, true_and] at hv
 obtain ⟨rfl, rfl⟩ := hv
 obtain ⟨b, off, hp, hc⟩ := h4 (by omega)
 rw [ints_length] at h3
 have hx := List.getElem?_eq_getElem (show k < xs.length by omega)
 have hcell := hc k _ (ints_get hx)
 exact ⟨b, off, _, hp, cell_lt hcell, hx, hcell⟩

theorem Rd.form {w : World} {sz n : Nat} {v : Value} {cs : List Value} (h : Rd w sz v n cs) : ∃ p c, v = .slice p n c ∧ n ≤ c ∧ c ≤ maxLen ∧ cs.length = n * sz := by
 obtain ⟨p, c, hv, h1, h2, h3, _⟩ := h
 exact ⟨p, c, hv, h1, h2, h3⟩

theorem Own.form {w : World} {B e sz n : Nat} {v : Value} {cs : List Value} (h : w.ownsRow B e sz v n cs) : ∃ p c, v = .slice p n c ∧ n ≤ c ∧ c ≤ maxLen ∧ cs.length = n * sz := (Rd.own h).form

theorem run_append_rd {P : Program} (w : World) (base t ty e : Nat) (i : TypeInfo) (z : Value) (size bytes : Nat) (ht : P.underlying t = some (.slice e)) (hi : P.info? e = some i) (hz : i.zero = some z)
  (hsize : i.size = size) (hby : i.bytes = bytes) (hzs : z.cells.size = size) (hsz : 0 < size)
  (v : Value) (n : Nat) (xs : List Value) (hown : w.ownsRow base e size v n xs) (x : Value) (m : Nat) (news : List Value) (hx : Rd w size x m news) (h1 : ∀ u ∈ news, u.oneCell' = true)
  (h63 : n + m ≤ maxLen) (hbytes : (n + m) * bytes ≤ 140737488355328) (hbase : base ≤ w.heap.size) :
  ∃ v' w', (Builtin.append_ #[t, t] ty #[v, x]).run P w = .ok v' w' ∧ w'.ownsRow base e size v' (n + m) (xs ++ news) ∧ w.grownBy w' v.ownBlock := by
 obtain ⟨p, c, rfl, hmc, hcm, hl, hp⟩ := hx
 by_cases hm : m = 0
 ·subst hm
  have hn : news = [] := List.eq_nil_of_length_eq_zero (by simpa using hl)
  subst hn
  refine ⟨v, w, ?_, by simpa using hown, ⟨rfl, rfl, rfl, Nat.le_refl _, fun _ _ _ => rfl⟩⟩
  subst hsize
  rcases hown.2 with ⟨rfl, rfl⟩ | ⟨g, cap, cur, rfl, _, hg, hnc, hcm', hcs, htake⟩
  ·cases p <;> simp [Builtin.append_, run_underlying ht, sizeOf, typeInfo, hi, Builtin.lenOf, Builtin.firstCells, loadCells, loadCellsFrom]
  ·cases p <;> simp [Builtin.append_, run_underlying ht, sizeOf, typeInfo, hi, Builtin.lenOf, Builtin.firstCells, loadCells, loadCellsFrom, hnc, storeCells]
 ·obtain ⟨b, off, rfl, hc⟩ := hp (Nat.mul_pos (by omega) hsz)
  obtain ⟨v', w', hr, h2, h3, _⟩ := run_append_own (P := P) w base t ty e i z size bytes ht hi hz hsize hby hzs hsz v n xs hown ⟨b, off, none⟩ m c news hl
   (fun j u hj => by
    have := hc j u hj
    rwa [show (⟨b, off, none⟩ : Addr).add j = ⟨b, off + j, none⟩ by unfold Addr.add; split <;> simp_all]) h1 h63 hbytes hbase
  exact ⟨v', w', hr, h2, h3⟩

theorem wpList_append_rd {P : Program} (w : World) {ops : Array Oper} {rest : List Oper} {o : Oper} {a : Act} {Q : Exit → Act → World → Prop} (hgd : o.guard = none) (s x : Operand) (t : TypeId)
  (ho : o.op = .call { callee := .builtin .append, args := #[s, x], argTypes := #[t, t] })
  (base : Nat) (e : TypeId) (i : TypeInfo) (z : Value) (size bytes : Nat) (ht : P.underlying t = some (.slice e)) (hi : P.info? e = some i) (hz : i.zero = some z)
  (hsize : i.size = size) (hby : i.bytes = bytes) (hzs : z.cells.size = size) (hsz : 0 < size)
  (v : Value) (n : Nat) (xs : List Value) (hs : a.eval s = v) (hown : w.ownsRow base e size v n xs)
  (xv : Value) (m : Nat) (news : List Value) (hx : a.eval x = xv) (hrd : Rd w size xv m news) (h1 : ∀ u ∈ news, u.oneCell' = true)
  (h63 : n + m ≤ maxLen) (hbytes : (n + m) * bytes ≤ 140737488355328) (hbase : base ≤ w.heap.size)
  (h : ∀ v' w', w'.ownsRow base e size v' (n + m) (xs ++ news) → w.grownBy w' v.ownBlock → wpList P ops Q rest (a.put o.dst v') w') : wpList P ops Q (o :: rest) a w := by
 refine wpList_plain hgd fun _ hK => ?_
 obtain ⟨v', w', hr, h2, h3⟩ := run_append_rd (P := P) w base t o.type e i z size bytes ht hi hz hsize hby hzs hsz v n xs hown xv m news hrd h1 h63 hbytes hbase
 unfold Oper.wp execOp
 simp only [ho, resolve, invoke, builtin, Sem.run_bind, Sem.run_pure, Result.andThen_ok, List.map_toArray, List.map_cons, List.map_nil, hs, hx, hr]
 exact hK _ _ (h v' w' h2 h3)

theorem step_append_rd {P : Program} {w : World} {ops : Array Oper} {o : Oper} {a : Act} {K : Act → World → Prop} {Q : Exit → Act → World → Prop} {E : Prop} (hgd : o.guard = none) (s x : Operand) (t : TypeId)
  (ho : o.op = .call { callee := .builtin .append, args := #[s, x], argTypes := #[t, t] })
  (base : Nat) (e : TypeId) (i : TypeInfo) (z : Value) (size bytes : Nat) (ht : P.underlying t = some (.slice e)) (hi : P.info? e = some i) (hz : i.zero = some z)
  (hsize : i.size = size) (hby : i.bytes = bytes) (hzs : z.cells.size = size) (hsz : 0 < size)
  (v : Value) (n : Nat) (xs : List Value) (hs : a.eval s = v) (hown : w.ownsRow base e size v n xs)
  (xv : Value) (m : Nat) (news : List Value) (hx : a.eval x = xv) (hrd : Rd w size xv m news) (h1 : ∀ u ∈ news, u.oneCell' = true)
  (h63 : n + m ≤ maxLen) (hbytes : (n + m) * bytes ≤ 140737488355328) (hbase : base ≤ w.heap.size)
  (h : ∀ v' w', w'.ownsRow base e size v' (n + m) (xs ++ news) → w.grownBy w' v.ownBlock → K (a.put o.dst v') w') :
  if Region.wanted o (yielded ops a.tmps) = true then Oper.wp P o a w K Q else E := by
 have hw : Region.wanted o (yielded ops a.tmps) = true := by simp [Region.wanted, hgd]
 rw [if_pos hw]
 obtain ⟨v', w', hr, h2, h3⟩ := run_append_rd (P := P) w base t o.type e i z size bytes ht hi hz hsize hby hzs hsz v n xs hown xv m news hrd h1 h63 hbytes hbase
 unfold Oper.wp execOp
 simp only [ho, resolve, invoke, builtin, Sem.run_bind, Sem.run_pure, Result.andThen_ok, List.map_toArray, List.map_cons, List.map_nil, hs, hx, hr]
 exact h v' w' h2 h3
theorem keep_cell {w w1 : World} {o : Obj} {a : Addr} {v : Value} {row : Option Nat} (hg : (w.alloc o).drew.grownBy w1 row) (hc : w.cell? a = some v) (hne : some a.block ≠ row) : w1.cell? a = some v :=
 hg.cell ((World.cell?_alloc_lt w o a (cell_lt hc)).trans hc) hne
theorem own_ne {w : World} {B e sz n b : Nat} {v : Value} {cs : List Value} (h : w.ownsRow B e sz v n cs) (hb : b < B) : some b ≠ v.ownBlock := by
 intro he
 have := (h.lt b he.symm).1
 omega
theorem Below.behind {B B' e sz n : Nat} {w0 w w1 : World} {o : Obj} {v : Value} {cs : List Value} (h : Below B w0 w) (hB : B ≤ w.heap.size) (hg : (w.alloc o).drew.grownBy w1 v.ownBlock) (ho : w.ownsRow B' e sz v n cs) (hBB : B ≤ B') : Below B w0 w1 :=
 ((h.alloc hB o).drew).grown hg (by simp; omega) fun k hk => by have := (ho.lt k hk).1; omega
theorem Below.thn {a b c : World} (h : Below a.heap.size a b) (k : Below b.heap.size b c) : Below a.heap.size a c := h.trans (k.mono h.size)
theorem wpList_append_run {P : Program} {w : World} {ops : Array Oper} {rest : List Oper} {o : Oper} {a : Act} {Q : Exit → Act → World → Prop} (hgd : o.guard = none) (s x : Operand) (t t' : TypeId)
  (ho : o.op = .call { callee := .builtin .append, args := #[s, x], argTypes := #[t, t'] }) (v xv : Value) (hs : a.eval s = v) (hx : a.eval x = xv) (v' : Value) (w' : World)
  (hr : (Builtin.append_ #[t, t'] o.type #[v, xv]).run P w = .ok v' w') (h : wpList P ops Q rest (a.put o.dst v') w') : wpList P ops Q (o :: rest) a w := by
 refine wpList_plain hgd fun _ hK => ?_
 unfold Oper.wp execOp
 simp only [ho, resolve, invoke, builtin, Sem.run_bind, Sem.run_pure, Result.andThen_ok, List.map_toArray, List.map_cons, List.map_nil, hs, hx, hr]
 exact hK _ _ h
theorem Below.grownOwn {B B' : Nat} {w0 w w' : World} {e sz n : Nat} {v : Value} {cs : List Value} (h : Below B w0 w) (hg : w.grownBy w' v.ownBlock) (ho : w.ownsRow B' e sz v n cs) (hB : B ≤ w.heap.size) (hBB : B ≤ B') : Below B w0 w' :=
 h.grown hg hB fun k hk => by have := (ho.lt k hk).1; omega

theorem walk_q {P : Program} {f : FuncId} {args : Array Value} {w : World} {R : Ending → World → Prop} (h : ∀ R' : Ending → World → Prop, Hid (∀ e w', R e w' → R' e w') → Calls P f args w R') : Calls P f args w R := h R fun _ _ h => h
theorem ret1 {k : IntKind} {a a' : Int} (h : a = a') : Ending.returned (.int k a) = .returned (.int k a') := by rw [h]
theorem ret2 {k l : IntKind} {a a' b b' : Int} (h : a = a') (h' : b = b') : Ending.returned (.tuple #[.int k a, .int l b]) = .returned (.tuple #[.int k a', .int l b']) := by rw [h, h']
theorem Own.made {w : World} {B e n : Nat} {v : Value} {k : IntKind} (h : w.ownsRow B e 1 v n (madeCells (Value.int k 0).cells (n * 1)).toList) : w.ownsRow B e 1 v n (ints k ([] ++ List.replicate n 0)) := by
 have : (madeCells (Value.int k 0).cells (n * 1)).toList = ints k ([] ++ List.replicate n 0) := by
  rw [show (Value.int k 0).cells = #[Value.int k 0] from rfl, toList_madeCells_one]; simp [ints]
 rwa [this] at h
theorem Own.midCell {w : World} {B e g n cap r : Nat} {k : IntKind} {ds : List Nat} (h : w.ownsRow B e 1 (.slice (some ⟨g, 0, none⟩) n cap) n (ints k (ds ++ List.replicate (r + 1) 0))) :
  w.cell? ⟨g, ds.length, none⟩ = some (.int k 0) ∧ w.frozen? ⟨g, ds.length, none⟩ = false := by
 have hl := h.1
 simp at hl
 refine ⟨?_, h.frozenAt _⟩
 rw [h.cellAt _ (by omega)]
 have := ints_get (k := k) (xs := ds ++ List.replicate (r + 1) 0) (j := ds.length) (x := 0) (by simp [List.replicate_succ])
 simpa using this
theorem Own.midStore {w : World} {B e g n cap r x : Nat} {k : IntKind} {ds : List Nat} (h : w.ownsRow B e 1 (.slice (some ⟨g, 0, none⟩) n cap) n (ints k (ds ++ List.replicate (r + 1) 0))) :
  (w.setCell ⟨g, ds.length, none⟩ (.int k (x : Int))).ownsRow B e 1 (.slice (some ⟨g, 0, none⟩) n cap) n (ints k ((ds ++ [x]) ++ List.replicate r 0)) := by
 have h1 := (h.stored ds.length (.int k (x : Int))).1
 rw [ints_set] at h1
 have : (ds ++ List.replicate (r + 1) 0).set ds.length x = (ds ++ [x]) ++ List.replicate r 0 := by
  rw [List.set_append_right _ _ (Nat.le_refl _), Nat.sub_self, List.replicate_succ, List.set_cons_zero, List.append_assoc]; rfl
 rwa [this] at h1
theorem Own.elemCell {w : World} {B e g n cap : Nat} {k : IntKind} {xs : List Nat} (h : w.ownsRow B e 1 (.slice (some ⟨g, 0, none⟩) n cap) n (ints k xs)) {j : Nat} (hj : j < n) :
  ∃ x, xs[j]? = some x ∧ w.cell? ⟨g, j, none⟩ = some (.int k (x : Int)) ∧ w.frozen? ⟨g, j, none⟩ = false := by
 have hl := h.1
 simp at hl
 have hx := List.getElem?_eq_getElem (show j < xs.length by omega)
 refine ⟨_, hx, ?_, h.frozenAt _⟩
 rw [h.cellAt _ (by omega), ints_get hx]
theorem Own.elemStore {w : World} {B e g n cap j x : Nat} {k : IntKind} {xs : List Nat} (h : w.ownsRow B e 1 (.slice (some ⟨g, 0, none⟩) n cap) n (ints k xs)) :
  (w.setCell ⟨g, j, none⟩ (.int k (x : Int))).ownsRow B e 1 (.slice (some ⟨g, 0, none⟩) n cap) n (ints k (xs.set j x)) := by
 have h1 := (h.stored j (.int k (x : Int))).1
 rwa [ints_set] at h1
theorem Own.lt {w : World} {B e sz g n cap : Nat} {p : Nat} {cs : List Value} (h : w.ownsRow B e sz (.slice (some ⟨g, p, none⟩) n cap) n cs) : B ≤ g ∧ g < w.heap.size := World.ownsRow.lt h g rfl
theorem quiet_pure {P : Program} {f : FuncId} {args : Array Value} {W : World} {X : Nat → World} {v : Value} (h : Calls P f args W fun e w' => e = .returned v ∧ W = w') (hW : ∃ n, W = X n) :
  Calls P f args W fun e w'' => e = .returned v ∧ ∃ m, w'' = X m :=
 h.mono fun _ _ ⟨he, hm⟩ => ⟨he, hW.imp fun _ hn => hm ▸ hn⟩
theorem wpList_append_one {P : Program} {w : World} {ops : Array Oper} {rest : List Oper} {o : Oper} {a : Act} {Q : Exit → Act → World → Prop} (hgd : o.guard = none) (s x : Operand) (t : TypeId)
  (ho : o.op = .call { callee := .builtin .append, args := #[s, x], argTypes := #[t, t] })
  (base : Nat) (e : TypeId) (i : TypeInfo) (z : Value) (bytes : Nat) (ht : P.underlying t = some (.slice e)) (hi : P.info? e = some i) (hz : i.zero = some z)
  (hsize : i.size = 1) (hby : i.bytes = bytes) (hzs : z.cells.size = 1)
  {v : Value} {n : Nat} {k : IntKind} {ds : List Nat} {y : Int} {d : Nat} {e' : TypeId} (hown : w.ownsRow base e 1 v n (ints k ds)) (hs : a.eval s = v) (hx : a.eval x = .slice (some ⟨w.heap.size, 0, none⟩) 1 1) (hy : y = (d : Int))
  (h63 : n + 1 ≤ 9223372036854775807) (hbytes : (n + 1) * bytes ≤ 140737488355328) (hbase : base ≤ w.heap.size)
  (h : ∀ v' w', w'.ownsRow base e 1 v' (n + 1) (ints k (ds ++ [d])) → (∀ w0, Below base w0 w → Below base w0 w') → wpList P ops Q rest (a.put o.dst v') w') : wpList P ops Q (o :: rest) a (w.alloc (.cells #[.int k y] e')) := by
 refine wpList_append_rd _ hgd s x t ho base e i z 1 bytes ht hi hz hsize hby hzs (by omega) v n _ hs (hown.alloc _) _ 1 (ints k [d]) hx (Rd.lit1 hy) (ints_one k [d]) (by unfold maxLen; omega) hbytes (by simp; omega) ?_
 intro v' w' h1 h2
 refine h v' w' (by rw [ints_append]; exact h1) fun w0 hb => ?_
 exact (hb.alloc hbase _).grown h2 (by simp; omega) fun j hj => (hown.lt j hj).1

end Go.Proofs.YtofdiijioejljaaGreat
