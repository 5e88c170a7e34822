/- Calm walks: the ways through a function's text, its beginning and its end. -/
import Derived.Test.YtofdiijioejljaaGreatCalmF
import Derived.Deep.LoopGhost
import Derived.Scope
set_option linter.all false
namespace Go.Proofs.YtofdiijioejljaaGreat
open Go.RowKit

inductive It where
 | code (c : Code)
 | blk (id : Nat)
 | back (Φ : Act → World → Prop)
 | scope

def post (P : Program) (Q : Exit → Act → World → Prop) : List It → Exit → Act → World → Prop
 | [] => Q
 | .code c :: k => Exit.then (fun a w => c.wp P (post P Q k) a w) (post P Q k)
 | .blk id :: k => Exit.inBlock id (post P Q k)
 | .back Φ :: k => Exit.then Φ (post P Q k)
 | .scope :: k => Exit.noGoto (post P Q k)

def VS (C : Cx) (Q : Exit → Act → World → Prop) (stk : List It) (F : Fr) (H : Hp) (w : World) : Prop :=
 ∀ β a w', Rel C β F H a w' → KpS C.K w w' → post C.P Q stk .normal a w'

def pop (id : Nat) : List It → Option (List It)
 | [] => none
 | .code _ :: k => pop id k
 | .back _ :: k => pop id k
 | .scope :: k => pop id k
 | .blk i :: k => bif Nat.beq id i then some k else pop id k

def Fr.of (L : List (Nat × AV)) : Fr := fun n => match L with
 | [] => none
 | (d, v) :: r => bif Nat.beq n d then some v else Fr.of r n
def Hp.of (L : List (Nat × (TypeId × List AV))) : Hp := fun n => match L with
 | [] => none
 | (d, v) :: r => bif Nat.beq n d then some v else Hp.of r n
def AllAt (F : Fr) : List (Nat × AV) → Prop
 | [] => True
 | p :: r => F p.1 = some p.2 ∧ AllAt F r
def AllAtH (H : Hp) : List (Nat × (TypeId × List AV)) → Prop
 | [] => True
 | p :: r => H p.1 = some p.2 ∧ AllAtH H r
def inM (M : List (Nat × (TypeId × List AV))) (i : Nat) : Bool := M.any fun q => Nat.beq i q.1
def closedL (L : List (Nat × AV)) (M : List (Nat × (TypeId × List AV))) : Bool := L.all fun p => p.2.ids.all fun i => inM M i
def ClosedC (M : List (Nat × (TypeId × List AV))) (cs : List AV) : Prop := ∀ j ∈ lidsOf cs, inM M j = true
def ClosedM (M : List (Nat × (TypeId × List AV))) : List (Nat × (TypeId × List AV)) → Prop
 | [] => True
 | p :: r => ClosedC M p.2.2 ∧ ClosedM M r
theorem ClosedC.lit {M : List (Nat × (TypeId × List AV))} {cs : List AV} (h : (lidsOf cs).all (inM M) = true) : ClosedC M cs := fun j hj => List.all_eq_true.1 h j hj
theorem ClosedC.none {M : List (Nat × (TypeId × List AV))} {cs : List AV} (h : lidsOf cs = []) : ClosedC M cs := fun j hj => by rw [h] at hj; cases hj
theorem ClosedC.vals {M : List (Nat × (TypeId × List AV))} (vs : List Value) : ClosedC M (vs.map .val) := .none (lidsOf_vals vs)
theorem ClosedC.append {M : List (Nat × (TypeId × List AV))} {cs ds : List AV} (h : ClosedC M cs) (k : ClosedC M ds) : ClosedC M (cs ++ ds) := fun j hj => by
 rw [lidsOf_append] at hj
 exact (List.mem_append.1 hj).elim (h j) (k j)
theorem ClosedM.mem {M : List (Nat × (TypeId × List AV))} : ∀ {r : List (Nat × (TypeId × List AV))}, ClosedM M r → ∀ p ∈ r, ClosedC M p.2.2
 | [], _, p, hp => by cases hp
 | q :: r, h, p, hp => by
  rcases List.mem_cons.1 hp with rfl | e
  ·exact h.1
  ·exact ClosedM.mem h.2 p e

section
variable {C : Cx} {Q : Exit → Act → World → Prop} {k : List It} {F : Fr} {H : Hp} {w : World}

theorem Fr.of_mem : ∀ {L : List (Nat × AV)} {d : Nat} {v : AV}, Fr.of L d = some v → (d, v) ∈ L
 | [], d, v, h => by unfold Fr.of at h; cases h
 | (e, u) :: r, d, v, h => by
  unfold Fr.of at h
  cases hb : Nat.beq d e with
  | true =>
   rw [hb] at h
   cases h
   rw [Nat.eq_of_beq_eq_true hb]; simp
  | false =>
   rw [hb] at h
   exact List.mem_cons_of_mem _ (Fr.of_mem h)
theorem Hp.of_mem : ∀ {L : List (Nat × (TypeId × List AV))} {d : Nat} {v : TypeId × List AV}, Hp.of L d = some v → (d, v) ∈ L
 | [], d, v, h => by unfold Hp.of at h; cases h
 | (e, u) :: r, d, v, h => by
  unfold Hp.of at h
  cases hb : Nat.beq d e with
  | true =>
   rw [hb] at h
   cases h
   rw [Nat.eq_of_beq_eq_true hb]; simp
  | false =>
   rw [hb] at h
   exact List.mem_cons_of_mem _ (Hp.of_mem h)
theorem AllAt.mem : ∀ {L : List (Nat × AV)}, AllAt F L → ∀ d v, (d, v) ∈ L → F d = some v
 | p :: r, h, d, v, hm => by
  rcases List.mem_cons.1 hm with e | e
  ·have := h.1; rw [← e] at this; exact this
  ·exact AllAt.mem h.2 d v e
theorem AllAtH.mem : ∀ {L : List (Nat × (TypeId × List AV))}, AllAtH H L → ∀ d v, (d, v) ∈ L → H d = some v
 | p :: r, h, d, v, hm => by
  rcases List.mem_cons.1 hm with e | e
  ·have := h.1; rw [← e] at this; exact this
  ·exact AllAtH.mem h.2 d v e
theorem Hp.of_some : ∀ {M : List (Nat × (TypeId × List AV))} {i : Nat}, inM M i = true → Hp.of M i ≠ none
 | (e, u) :: r, i, h => by
  unfold Hp.of
  cases hb : Nat.beq i e with
  | true => simp
  | false =>
   unfold inM at h
   rw [List.any_cons, hb] at h
   exact Hp.of_some h
theorem Rel.narrow {β : Nat → Nat} {a : Act} (hr : Rel C β F H a w) {L : List (Nat × AV)} {M : List (Nat × (TypeId × List AV))} (h1 : AllAt F L) (h2 : AllAtH H M) (h3 : closedL L M = true) (h4 : ClosedM M M) : Rel C β (Fr.of L) (Hp.of M) a w := by
 have key : ∀ i, Hp.of M i ≠ none → H i ≠ none := fun i hi => by
  cases hh : Hp.of M i with
  | none => exact absurd hh hi
  | some c => rw [h2.mem i c (Hp.of_mem hh)]; simp
 refine ⟨hr.defers, hr.size, fun d v h => hr.tmp d v (h1.mem d v (Fr.of_mem h)), fun i t cs h => hr.own i t cs (h2.mem i _ (Hp.of_mem h)), fun i j hi hj e => hr.apart i j (key i hi) (key j hj) e, fun d v h i hi => ?_, fun d v h => hr.fits d v (h1.mem d v (Fr.of_mem h)),
  ⟨fun i t cs h => hr.hp.ok i t cs (h2.mem i _ (Hp.of_mem h)), fun i t cs h j hj => Hp.of_some (h4.mem _ (Hp.of_mem h) j hj), fun i hi => ?_⟩, hr.old⟩
 ·have := List.all_eq_true.1 h3 _ (Fr.of_mem h)
  exact Hp.of_some (List.all_eq_true.1 this i hi)
 ·cases hh : Hp.of M i with
  | none => rfl
  | some c => exact absurd (hr.hp.few i hi) (key i (by rw [hh]; simp))

theorem VS.narrow (L : List (Nat × AV)) (M : List (Nat × (TypeId × List AV))) (h1 : AllAt F L) (h2 : AllAtH H M) (h3 : closedL L M = true) (h4 : ClosedM M M) (h : VS C Q k (Fr.of L) (Hp.of M) w) : VS C Q k F H w :=
 fun β a w' hr hk => h β a w' (hr.narrow h1 h2 h3 h4) hk
theorem VS.skip (h : VS C Q k F H w) : VS C Q (.code .skip :: k) F H w := fun β a w' hr hk => wp_skip (h β a w' hr hk)
theorem VS.seq {x y : Code} (h : VS C Q (.code x :: .code y :: k) F H w) : VS C Q (.code (.seq x y) :: k) F H w := fun β a w' hr hk => wp_seq (h β a w' hr hk)
theorem VS.block {id : Nat} {c : Code} (h : VS C Q (.code c :: .blk id :: k) F H w) : VS C Q (.code (.block id c) :: k) F H w := fun β a w' hr hk => wp_block (h β a w' hr hk)
theorem VS.blk {id : Nat} (h : VS C Q k F H w) : VS C Q (.blk id :: k) F H w := h
theorem VS.scope {c : Code} (h : VS C Q (.code c :: .scope :: k) F H w) : VS C Q (.code (.scope c) :: k) F H w := fun β a w' hr hk => wp_scope_straight (h β a w' hr hk)
theorem VS.cond {c : Operand} {x y : Code} {b : Bool} (hc : evv F c = some (.bool b)) (h : VS C Q (.code (bif b then x else y) :: k) F H w) : VS C Q (.code (.cond c x y) :: k) F H w := fun β a w' hr hk =>
 wp_cond (t := b) (hr.evv hc) (by cases b <;> exact h β a w' hr hk)
theorem VS.condT {c : Operand} {x y : Code} (hc : evv F c = some (.bool true)) (h : VS C Q (.code x :: k) F H w) : VS C Q (.code (.cond c x y) :: k) F H w := VS.cond hc h
theorem VS.condF {c : Operand} {x y : Code} (hc : evv F c = some (.bool false)) (h : VS C Q (.code y :: k) F H w) : VS C Q (.code (.cond c x y) :: k) F H w := VS.cond hc h
theorem VS.condB {c : Operand} {x y : Code} {b : Bool} (b' : Bool) (hc : evv F c = some (.bool b)) (hb : b = b') (h : VS C Q (.code (bif b' then x else y) :: k) F H w) : VS C Q (.code (.cond c x y) :: k) F H w := VS.cond hc (hb ▸ h)
theorem VS.condY {c : Operand} {x y : Code} {b : Bool} (hc : evv F c = some (.bool b)) (hb : b = true) (h : VS C Q (.code x :: k) F H w) : VS C Q (.code (.cond c x y) :: k) F H w := VS.condB true hc hb h
theorem VS.condN {c : Operand} {x y : Code} {b : Bool} (hc : evv F c = some (.bool b)) (hb : b = false) (h : VS C Q (.code y :: k) F H w) : VS C Q (.code (.cond c x y) :: k) F H w := VS.condB false hc hb h
theorem pop_post {P : Program} {id : Nat} : ∀ {stk k : List It} {a : Act} {w : World}, pop id stk = some k → post P Q k .normal a w → post P Q stk (.exit id) a w
 | .code _ :: s, k, a, w, h, hp => pop_post (stk := s) h hp
 | .back _ :: s, k, a, w, h, hp => pop_post (stk := s) h hp
 | .scope :: s, k, a, w, h, hp => pop_post (stk := s) h hp
 | .blk i :: s, k, a, w, h, hp => by
  unfold pop at h
  show Exit.inBlock i _ (.exit id) a w
  unfold Exit.inBlock
  cases hb : Nat.beq id i with
  | true =>
   rw [hb] at h
   cases h
   simp only
   rw [if_pos (Nat.eq_of_beq_eq_true hb)]
   exact hp
  | false =>
   rw [hb] at h
   simp only
   rw [if_neg (fun e => by rw [e, Nat.beq_refl] at hb; cases hb)]
   exact pop_post (stk := s) h hp
theorem VS.exit {id : Nat} {k' : List It} (hp : pop id k = some k') (h : VS C Q k' F H w) : VS C Q (.code (.exit id) :: k) F H w := fun β a w' hr hk => wp_exit (pop_post hp (h β a w' hr hk))
theorem VS.region (hC : C.Ok) {id : Nat} {ops : Array Oper} (h : vcOps C none ops ops.toList (VS C Q k) F H w) : VS C Q (.code (.region id ops false) :: k) F H w := fun β a w' hr hk =>
 wp_region_list (vcOps_list hC (fun β F H w a w' h hr hk => h β a w' hr hk) ops.toList β F H w a w' h hr hk)
theorem VS.draw (hC : C.Ok) (hm : C.P.follows .mixedOrders = true) {id : Nat} {ops : Array Oper} (ml : List FuncId) (hchk : drawOk C.SU ml ops = true) (h : vcOps C (some ml) ops ops.toList (VS C Q k) F H w) : VS C Q (.code (.region id ops true) :: k) F H w := fun β a w' hr hk =>
 region_drawn hC hm hchk (fun β F H w a w' h hr hk => h β a w' hr hk) h hr hk

theorem VS.drawA (hC : C.Ok) (hm : C.P.follows .mixedOrders = true) {id : Nat} {ops : Array Oper} (n : Nat) (hn : ops.size = n) (h : vcAll C [] ops n [] (VS C Q k) F H w) : VS C Q (.code (.region id ops true) :: k) F H w := fun β a w' hr hk =>
 region_all (ml := []) (K := VS C Q k) hC hm (fun β F H w a w' h hr hk => h β a w' hr hk) (by rw [hn]; exact h) hr hk

def Entry (J : Nat → List (Nat × AV) → List (Nat × (TypeId × List AV)) → World → Prop) (n : Nat) (F : Fr) (H : Hp) (w : World) : Prop :=
 ∃ L M, AllAt F L ∧ AllAtH H M ∧ closedL L M = true ∧ ClosedM M M ∧ J n L M w
def Held (C : Cx) (J : Nat → List (Nat × AV) → List (Nat × (TypeId × List AV)) → World → Prop) (n : Nat) (a : Act) (w : World) : Prop :=
 ∃ β L M w1, J n L M w1 ∧ Rel C β (Fr.of L) (Hp.of M) a w ∧ KpS C.K w1 w
theorem VS.loop {J : Nat → List (Nat × AV) → List (Nat × (TypeId × List AV)) → World → Prop} {body : Code} (n0 : Nat) (h0 : Entry J n0 F H w)
  (round : ∀ n L M w, J n L M w → VS C Q (.code body :: .back (fun a w => ∃ m, m < n ∧ Held C J m a w) :: k) (Fr.of L) (Hp.of M) w) : VS C Q (.code (.loop body) :: k) F H w := fun β a w' hr hk => by
 obtain ⟨L, M, h1, h2, h3, h4, h5⟩ := h0
 refine wp_loop_ghost (Held C J) n0 ⟨β, L, M, w, h5, hr.narrow h1 h2 h3 h4, hk⟩ ?_
 rintro n a1 w1 ⟨β1, L1, M1, wl, hJ, hr1, hk1⟩
 exact round n L1 M1 wl hJ β1 a1 w1 hr1 hk1
theorem VS.back {J : Nat → List (Nat × AV) → List (Nat × (TypeId × List AV)) → World → Prop} {n : Nat} (m : Nat) (hm : m < n) (h : Entry J m F H w) : VS C Q (.back (fun a w => ∃ m, m < n ∧ Held C J m a w) :: k) F H w := fun β a w' hr hk => by
 obtain ⟨L, M, h1, h2, h3, h4, h5⟩ := h
 exact ⟨m, hm, β, L, M, w, h5, hr.narrow h1 h2 h3 h4, hk⟩

def resOf (C : Cx) (F : Fr) (H : Hp) : List ResultVar → Option (List AV)
 | [] => some []
 | .tmp t :: r => match F t, resOf C F H r with | some v, some l => (bif notTup v then some (v :: l) else none) | _, _ => none
 | .cell x t :: r => match F x, C.ti t, resOf C F H r with
  | some (.box b off), some i, some l => (match H b with
   | some (_, cs) => bif Nat.ble (off + i.size) cs.length then forceL ((cs.drop off).take i.size) (fun q => bif i.agg then aggK q (fun v => some (v :: l)) else (match q with | x :: _ => some (x :: l) | [] => none)) else none
   | none => none)
  | _, _, _ => none
def tup : List Value → Value
 | [v] => v
 | l => .tuple l.toArray
def resF (tmps : Array Value) : ResultVar → Sem Value
 | .tmp t => pure (tmps.getD t undef)
 | .cell x t => do loadVar t (← asAddr (tmps.getD x undef))
theorem resOf_run (hC : C.Ok) {β : Nat → Nat} {a : Act} (hr : Rel C β F H a w) : ∀ {l : List ResultVar} {vs : List AV}, resOf C F H l = some vs →
  (l.mapM (resF a.tmps)).run C.P w = .ok (vs.map (AV.conc β)) w
 | [], vs, h => by cases h; rfl
 | .tmp t :: r, vs, h => by
  unfold resOf at h
  split at h
  ·rename_i v l hv hl
   cases hn : notTup v with
   | false => rw [hn] at h; cases h
   | true =>
    rw [hn] at h
    cases h
    have e1 : a.tmps.getD t undef = v.conc β := hr.tmp t v hv
    have e2 : (resF a.tmps (.tmp t)).run C.P w = .ok (v.conc β) w := by show (pure (a.tmps.getD t undef) : Sem Value).run C.P w = _; rw [e1]; rfl
    have := resOf_run hC hr hl
    simp only [List.mapM_cons, Sem.run_bind, e2, Result.andThen_ok, this, Sem.run_pure, List.map_cons]
  ·cases h
 | .cell x t :: r, vs, h => by
  unfold resOf at h
  split at h
  ·rename_i b off i l hx hi hl
   split at h
   ·rename_i tb cs hb
    cases hz : Nat.ble (off + i.size) cs.length with
    | false => rw [hz] at h; cases h
    | true =>
     rw [hz, cond_true, forceL_eq] at h
     have hle := Nat.le_of_ble_eq_true hz
     have hlen : ((cs.drop off).take i.size).length = i.size := by rw [List.length_take, List.length_drop]; omega
     have hok : ((cs.drop off).take i.size).all okLeaf = true := List.all_eq_true.2 fun y hy => List.all_eq_true.1 (hr.own b tb cs hb).ok y (List.mem_of_mem_drop (List.mem_of_mem_take hy))
     have hvs : vs = readA i ((cs.drop off).take i.size) :: l := by
      unfold readA
      cases hg : i.agg with
      | true => rw [hg, cond_true, aggK_eq] at h; cases h; rfl
      | false =>
       rw [hg, cond_false] at h
       split at h
       ·rename_i y q hq; cases h; rw [hq]; rfl
       ·cases h
     subst hvs
     have e1 : a.tmps.getD x undef = .pointer (some ⟨β b, off, none⟩) := hr.tmp x _ hx
     have hsub : ∀ j u, ((cs.drop off).take i.size)[j]? = some u → cs[off + j]? = some u := fun j u hj => by
      rw [List.getElem?_take] at hj
      split at hj
      ·rwa [List.getElem?_drop] at hj
      ·cases hj
     have e2 := run_loadVar_any (hC t i hi) ⟨β b, off, none⟩ (((cs.drop off).take i.size).map (AV.leaf β)) (by rw [List.length_map, hlen]) w (loads_own hr hb hsub)
     have e3 : (resF a.tmps (.cell x t)).run C.P w = .ok ((readA i ((cs.drop off).take i.size)).conc β) w := by
      unfold resF
      rw [readA_conc (hC t i hi) hlen hok]
      simp only [e1, asAddr, Sem.run_bind, Sem.run_pure, Result.andThen_ok, e2]
     have := resOf_run hC hr hl
     simp only [List.mapM_cons, Sem.run_bind, e3, Result.andThen_ok, this, Sem.run_pure, List.map_cons]
   ·cases h
  ·cases h
theorem results_run (hC : C.Ok) {β : Nat → Nat} {a : Act} (hr : Rel C β F H a w) {fn : Func} {vs : List AV} (h : resOf C F H fn.results.toList = some vs) : (results fn a.tmps).run C.P w = .ok (tup (vs.map (AV.conc β))) w := by
 have h1 := resOf_run hC hr h
 have h2 : results fn a.tmps = (do let vs ← fn.results.toList.toArray.mapM (resF a.tmps); pure (if h : vs.size = 1 then vs[0] else .tuple vs) : Sem Value) := rfl
 rw [h2, List.mapM_toArray, Sem.run_bind]
 have h3 : (List.toArray <$> fn.results.toList.mapM (resF a.tmps) : Sem (Array Value)).run C.P w = .ok (vs.map (AV.conc β)).toArray w := by
  rw [← bind_pure_comp]
  simp only [Sem.run_bind, h1, Result.andThen_ok, Sem.run_pure]
 rw [h3, Result.andThen_ok, Sem.run_pure]
 congr 1
 cases vs with
 | nil => rfl
 | cons v r => cases r <;> simp [tup]
structure Ends (C : Cx) (β : Nat → Nat) (H : Hp) (w : World) : Prop where
 own : ∀ i t cs, H i = some (t, cs) → OwnV C β w i t cs
 apart : ∀ i j, H i ≠ none → H j ≠ none → β i = β j → i = j
theorem fin_retA (hC : C.Ok) {fn : Func} {R : Ending → World → Prop} {vs : List AV} (h : resOf C F H fn.results.toList = some vs) (hR : ∀ w' β, KpS C.K w w' → C.Old w' → Ends C β H w' → R (.returned (tup (vs.map (AV.conc β)))) w') : ∀ β a w', Rel C β F H a w' → KpS C.K w w' → bodyPost C.P fn R .ret a w' :=
 fun β a w' hr hk => ⟨hr.defers, _, results_run hC hr h, hR w' β hk hr.old ⟨hr.own, hr.apart⟩⟩
theorem fin_ret (hC : C.Ok) {fn : Func} {R : Ending → World → Prop} {vs : List AV} {us : List Value} (h : resOf C F H fn.results.toList = some vs) (hv : valsOf vs = some us) (hR : ∀ w', KpS C.K w w' → C.Old w' → R (.returned (tup us)) w') : ∀ β a w', Rel C β F H a w' → KpS C.K w w' → bodyPost C.P fn R .ret a w' :=
 fin_retA hC h fun w' β h1 h2 _ => by
  rw [valsOf_some hv, conc_vals]
  exact hR w' h1 h2
theorem post_ret {P : Program} : ∀ {stk : List It} {a : Act} {w : World}, Q .ret a w → post P Q stk .ret a w
 | [], _, _, h => h
 | .code _ :: s, _, _, h => post_ret (stk := s) h
 | .blk _ :: s, _, _, h => post_ret (stk := s) h
 | .back _ :: s, _, _, h => post_ret (stk := s) h
 | .scope :: s, _, _, h => post_ret (stk := s) h
theorem VS.ret (hC : C.Ok) {fn : Func} {R : Ending → World → Prop} {vs : List AV} {us : List Value} (h : resOf C F H fn.results.toList = some vs) (hv : valsOf vs = some us) (hR : ∀ w', KpS C.K w w' → C.Old w' → R (.returned (tup us)) w') : VS C (bodyPost C.P fn R) (.code .ret :: k) F H w :=
 fun β a w' hr hk => wp_ret (post_ret (fin_ret hC h hv hR β a w' hr hk))
theorem VS.retA (hC : C.Ok) {fn : Func} {R : Ending → World → Prop} {vs : List AV} (h : resOf C F H fn.results.toList = some vs) (hR : ∀ w' β, KpS C.K w w' → C.Old w' → Ends C β H w' → R (.returned (tup (vs.map (AV.conc β)))) w') : VS C (bodyPost C.P fn R) (.code .ret :: k) F H w :=
 fun β a w' hr hk => wp_ret (post_ret (fin_retA hC h hR β a w' hr hk))

def Fr.args : Nat → List Value → Fr
 | _, [] => fun _ => none
 | k, v :: r => fun n => bif Nat.beq n k then some (.val v) else Fr.args (k + 1) r n
theorem Fr.args_at : ∀ (l : List Value) (k n : Nat) (v : AV), Fr.args k l n = some v → ∃ u, v = .val u ∧ k ≤ n ∧ l[n - k]? = some u
 | [], k, n, v, h => by cases h
 | x :: r, k, n, v, h => by
  unfold Fr.args at h
  cases hb : Nat.beq n k with
  | true =>
   rw [hb] at h
   cases h
   have e := Nat.eq_of_beq_eq_true hb
   exact ⟨x, rfl, by omega, by rw [e]; simp⟩
  | false =>
   rw [hb] at h
   obtain ⟨u, h1, h2, h3⟩ := Fr.args_at r (k + 1) n v h
   refine ⟨u, h1, by omega, ?_⟩
   rw [show n - k = (n - (k + 1)) + 1 by omega]
   simpa using h3
theorem calm_enter {f : FuncId} {fn : Func} {c : Code} {args : List Value} {R : Ending → World → Prop} (hf : C.P.funcs[f]? = some fn) (hb : fn.body = some c) (hN : fn.ntmps = C.N) (ha : args.length ≤ C.N)
  (h : VS C (bodyPost C.P fn R) [.code c] (Fr.args 0 args) (fun _ => none) C.w0) : Calls C.P f args.toArray C.w0 R := by
 refine calls_of_wp hf hb ?_
 refine h (fun _ => 0) _ C.w0 ⟨rfl, ?_, fun d v hd => ?_, fun i t cs hi => (by cases hi), fun i j hi => absurd rfl hi, fun d v hd i hi => ?_, fun d v hd => ?_, ⟨fun i t cs hi => (by cases hi), fun i t cs hi => (by cases hi), fun i hi => rfl⟩, C.oldRefl⟩ (KpS.refl _ _)
 ·simp [hN]; omega
 ·obtain ⟨u, rfl, _, h2⟩ := Fr.args_at args 0 d v hd
  rw [Nat.sub_zero] at h2
  show (args.toArray ++ _).getD d undef = u
  have hlt := (List.getElem?_eq_some_iff.1 h2).1
  rw [Array.getD_eq_getD_getElem?, Array.getElem?_append_left (by simpa using hlt)]
  simp [h2]
 ·obtain ⟨u, rfl, _⟩ := Fr.args_at args 0 d _ hd
  cases hi
 ·obtain ⟨u, rfl, _, h2⟩ := Fr.args_at args 0 d _ hd
  rw [Nat.sub_zero] at h2
  have := (List.getElem?_eq_some_iff.1 h2).1
  omega

variable {m : Option (List FuncId)} {full : Array Oper} {K : Fr → Hp → World → Prop} {o : Oper} {r : List Oper}
theorem VO.nil (h : K F H w) : vcOps C m full [] K F H w := h
def runD (C : Cx) (full : Array Oper) : Nat → List Oper → Fr → Hp → List Oper × Fr × Hp
 | 0, l, F, H => (l, F, H)
 | _ + 1, [], F, H => ([], F, H)
 | n + 1, o :: r, F, H => match o.guard with
  | some _ => (o :: r, F, H)
  | none => match stepOf C full F H o with
   | .det v u => runD C full n r (F.puto o.dst v) (H.upd u)
   | _ => (o :: r, F, H)
theorem runD_sound : ∀ (n : Nat) {l : List Oper} {F : Fr} {H : Hp}, vcOps C m full (runD C full n l F H).1 K (runD C full n l F H).2.1 (runD C full n l F H).2.2 w → vcOps C m full l K F H w
 | 0, _, _, _, h => h
 | _ + 1, [], _, _, h => h
 | n + 1, o :: r, F, H, h => by
  unfold runD at h
  show one C m full o (vcOps C m full r K) F H w
  cases hg : o.guard with
  | some g => rw [hg] at h; exact h
  | none =>
   rw [hg] at h
   cases hs : stepOf C full F H o with
   | det v u => rw [hs] at h; unfold one; rw [hs]; exact runD_sound n h
   | bad => rw [hs] at h; exact h
   | read i a => rw [hs] at h; exact h
   | peek i cs off => rw [hs] at h; exact h
   | cond φ v u => rw [hs] at h; exact h
   | call d => rw [hs] at h; exact h
theorem VO.run (n : Nat) {l l' : List Oper} {F' : Fr} {H' : Hp} (e : runD C full n l F H = (l', F', H')) (h : vcOps C m full l' K F' H' w) : vcOps C m full l K F H w :=
 runD_sound n (by rw [e]; exact h)
theorem VA.cons {p : Nat → Prop} {l r : List Nat} {i : Nat} (e : l = i :: r) (h1 : p i) (h2 : allL r p) : allL l p := by rw [e]; exact ⟨h1, h2⟩
theorem VA.nil {p : Nat → Prop} {l : List Nat} (e : l = []) : allL l p := by rw [e]; exact trivial
theorem VA.go {ml : List FuncId} {f : Nat} {done : List Nat} {i : Nat} {l : List Nat} (e : rdy full done = i :: l) (h : allL (i :: l) fun i => match full[i]? with | some o => one C (some ml) full o (vcAll C ml full f (i :: done) K) F H w | none => False) : vcAll C ml full (f + 1) done K F H w := by
 unfold vcAll
 rw [e]
 exact h
theorem VA.fin {ml : List FuncId} {f : Nat} {done : List Nat} (e : rdy full done = []) (h : K F H w) : vcAll C ml full f done K F H w := by
 cases f with
 | zero => exact h
 | succ f => unfold vcAll; rw [e]; exact h
theorem VA.det {ml : List FuncId} {i : Nat} (oo : Oper) (eo : full[i]? = some oo) {v : AV} {u : Option (Nat × (TypeId × List AV))} {K' : Fr → Hp → World → Prop} (e : stepOf C full F H oo = .det v u) (h : K' (F.puto oo.dst v) (H.upd u) w) : (match full[i]? with | some o => one C (some ml) full o K' F H w | none => False) := by
 rw [eo]
 show one C (some ml) full oo K' F H w
 unfold one
 rw [e]
 exact h
theorem VO.op1 {v : AV} {u : Option (Nat × (TypeId × List AV))} (e : stepOf C full F H o = .det v u) (h : vcOps C m full r K (F.puto o.dst v) (H.upd u) w) : vcOps C m full (o :: r) K F H w := by
 show one C m full o (vcOps C m full r K) F H w
 unfold one
 rw [e]
 exact h
theorem VO.fix {l : List Oper} (d : Nat) {v v' : AV} (hF : F d = some v) (e : v = v') (h : vcOps C m full l K (F.put d v') H w) : vcOps C m full l K F H w := by
 have : F.put d v' = F := by
  funext n
  rw [Fr.put_at]
  by_cases hn : n = d
  ·rw [if_pos hn, hn, hF, e]
  ·rw [if_neg hn]
 rw [this] at h
 exact h
theorem VS.fix (d : Nat) {v v' : AV} (hF : F d = some v) (e : v = v') (h : VS C Q k (F.put d v') H w) : VS C Q k F H w := by
 have : F.put d v' = F := by
  funext n
  rw [Fr.put_at]
  by_cases hn : n = d
  ·rw [if_pos hn, hn, hF, e]
  ·rw [if_neg hn]
 rw [this] at h
 exact h
theorem VO.fixH {l : List Oper} (i : Nat) {t : TypeId} {cs cs' : List AV} (hH : H i = some (t, cs)) (e : cs = cs') (h : vcOps C m full l K F (H.put i (t, cs')) w) : vcOps C m full l K F H w := by
 have : H.put i (t, cs') = H := by
  funext n
  rw [Hp.put_at]
  by_cases hn : n = i
  ·rw [if_pos hn, hn, hH, e]
  ·rw [if_neg hn]
 rw [this] at h
 exact h
theorem Chg.none {β : Nat → Nat} {ids : List Nat} {w1 w2 : World} (h : Beh w1 w2) : Chg C β β H ids none [] w1 w2 :=
 ⟨h.os, h.tape, h.output, h.size, fun b hb _ _ _ => Below.block h b hb, fun _ _ => rfl, fun i hi => (by cases hi), fun i hi => (by cases hi), fun x hx => (by cases hx), fun x hx => (by cases hx), List.nodup_nil, fun x hx => (by cases hx), fun x hx => (by cases hx)⟩
theorem VO.callR {d : Doer} (e : stepOf C full F H o = .call d)
  (h : ∀ w1 β, KpS C.K w w1 → C.Old w1 → OwnAt C β H d.ids w1 → Does C.P d β w1 fun e w2 => ∃ v, e = .returned v ∧ Beh w1 w2 ∧ (KpS C.K w w2 → KpS C.K w1 w2 → C.Old w2 → vcOps C m full r K (F.puto o.dst (.val v)) H w2)) : vcOps C m full (o :: r) K F H w := by
 show one C m full o (vcOps C m full r K) F H w
 unfold one
 rw [e]
 refine fun w1 β h1 h2 h3 => (h w1 β h1 h2 h3).mono ?_
 rintro e w2 ⟨v, rfl, hb, hv⟩
 exact ⟨β, .val v, none, [], rfl, fun i hi => (by cases hi), .inr rfl, .inr rfl, Chg.none hb, fun a b c _ _ => hv a b c⟩
theorem VO.call {g : FuncId} {args : List AV} {vs : List Value} (e : stepOf C full F H o = .call (.fn g args)) (hv : valsOf args = some vs) (hf : FnOk C.P g)
  (h : ∀ w1, KpS C.K w w1 → C.Old w1 → Calls C.P g vs.toArray w1 fun e w2 => ∃ v, e = .returned v ∧ Beh w1 w2 ∧ (KpS C.K w w2 → KpS C.K w1 w2 → C.Old w2 → vcOps C m full r K (F.puto o.dst (.val v)) H w2)) : vcOps C m full (o :: r) K F H w := by
 refine VO.callR e fun w1 β h1 h2 _ => ⟨hf, ?_⟩
 rw [valsOf_some hv, conc_vals]
 exact h w1 h1 h2
theorem VO.callF {g : FuncId} {args : List AV} (e : stepOf C full F H o = .call (.fn g args)) (hf : FnOk C.P g)
  (h : ∀ w1 β, KpS C.K w w1 → C.Old w1 → OwnAt C β H (idsOf args) w1 → Calls C.P g (args.map (AV.conc β)).toArray w1 fun e w2 => ∃ v, e = .returned v ∧ Beh w1 w2 ∧ (KpS C.K w w2 → KpS C.K w1 w2 → C.Old w2 → vcOps C m full r K (F.puto o.dst (.val v)) H w2)) : vcOps C m full (o :: r) K F H w :=
 VO.callR e fun w1 β h1 h2 h3 => ⟨hf, h w1 β h1 h2 h3⟩
theorem VO.callV {g : FuncId} {args : List AV} (e : stepOf C full F H o = .call (.fn g args)) (hf : FnOk C.P g)
  (h : ∀ w1 β, KpS C.K w w1 → C.Old w1 → OwnAt C β H (idsOf args) w1 → Calls C.P g (args.map (AV.conc β)).toArray w1 fun e w2 => ∃ v : AV, e = .returned (v.conc β) ∧ (∀ i ∈ v.ids, i ∈ idsOf args ∧ H i ≠ none) ∧ Beh w1 w2 ∧ (KpS C.K w w2 → KpS C.K w1 w2 → C.Old w2 → vcOps C m full r K (F.puto o.dst v) H w2)) : vcOps C m full (o :: r) K F H w := by
 show one C m full o (vcOps C m full r K) F H w
 unfold one
 rw [e]
 refine fun w1 β h1 h2 h3 => ⟨hf, (h w1 β h1 h2 h3).mono ?_⟩
 rintro e w2 ⟨v, rfl, hi, hb, hv⟩
 exact ⟨β, v, none, [], rfl, fun i hi' => .inr ⟨.base (hi i hi').1, (hi i hi').2, by simp⟩, .inr rfl, .inr rfl, Chg.none hb, fun a b c _ _ => hv a b c⟩
def NewRow (C : Cx) (t : TypeId) (sz B : Nat) (w : World) (v : Value) (n : Nat) (xs : List Value) : Prop :=
 (v = .slice none 0 0 ∧ n = 0 ∧ xs = []) ∨ ∃ b c spare, v = .slice (some ⟨b, 0, none⟩) n c ∧ B ≤ b ∧ Cls w b t (xs ++ spare).toArray ∧ xs.all okCell = true ∧ spare.all okCell = true ∧ n ≤ c ∧ c ≤ 9223372036854775807 ∧ (xs ++ spare).length = c * sz
theorem VO.callN {d : Doer} {dst n sz : Nat} {t : TypeId} {xs : List Value} (e : stepOf C full F H o = .call d) (hd : o.dst = some dst) (h0 : H dst = none) (hN : dst < C.N) (hl : 1 ≤ lvl C.SU m o) (ht : C.K.fz t = false)
  (h : ∀ w1 β, KpS C.K w w1 → C.Old w1 → OwnAt C β H d.ids w1 → Does C.P d β w1 fun e w2 => ∃ v, e = .returned v ∧ Beh w1 w2 ∧ NewRow C t sz w1.heap.size w2 v n xs ∧
   (KpS C.K w w2 → KpS C.K w1 w2 → C.Old w2 → v = .slice none 0 0 → vcOps C m full r K (F.puto o.dst (.val (.slice none 0 0))) H w2) ∧
   (∀ c spare, KpS C.K w w2 → KpS C.K w1 w2 → C.Old w2 → (∃ b, v = .slice (some ⟨b, 0, none⟩) n c) → spare.all okCell = true → n ≤ c → c ≤ 9223372036854775807 → (xs ++ spare).length = c * sz → vcOps C m full r K (F.puto o.dst (.row dst 0 n c)) (H.put dst (t, (xs ++ spare).map .val)) w2)) : vcOps C m full (o :: r) K F H w := by
 show one C m full o (vcOps C m full r K) F H w
 unfold one
 rw [e]
 refine fun w1 β h1 h2 h3 => (h w1 β h1 h2 h3).mono ?_
 rintro e w2 ⟨v, rfl, hb, hn, k1, k2⟩
 rcases hn with ⟨rfl, rfl, rfl⟩ | ⟨b, c, spare, rfl, q1, q2, q3, q4, q5, q6, q7⟩
 ·exact ⟨β, .val (.slice none 0 0), none, [], rfl, fun i hi => (by cases hi), .inr rfl, .inr rfl, Chg.none hb, fun a b c _ _ => k1 a b c rfl⟩
 ·let β' : Nat → Nat := fun i => if i = dst then b else β i
  have hbd : β' dst = b := if_pos rfl
  have hok : ((xs ++ spare).map AV.val).all okLeaf = true := vals_ok (by rw [List.all_append, q3, q4]; rfl)
  refine ⟨β', .row dst 0 n c, none, [(dst, (t, (xs ++ spare).map .val))], ?_, fun i hi => .inl (by simpa [AV.ids] using hi), .inl hl, .inr rfl, ?_, fun a1 a2 a3 _ _ => k2 c spare a1 a2 a3 ⟨b, rfl⟩ q4 q5 q6 q7⟩
  ·show Ending.returned _ = .returned (Value.slice (some ⟨β' dst, 0, none⟩) n c); rw [hbd]
  ·refine ⟨hb.os, hb.tape, hb.output, hb.size, fun k hk _ _ _ => Below.block hb k hk, fun i hi => if_neg (by simpa using hi), fun i hi => (by cases hi), fun i hi => (by cases hi), fun x hx => ?_, fun x hx => ?_, by simp, fun x hx y hy _ => ?_, fun x hx j hj => ?_⟩
   ·cases List.mem_singleton.1 hx
    refine ⟨by rw [hbd]; exact C.newOf _ _ (by omega) (by have := C.oldSize _ h2; omega), ht, ?_, hok⟩
    rw [hbd, leaf_vals]; exact q2
   ·cases List.mem_singleton.1 hx
    exact .inr ⟨.inl h0, by omega, .inl (by rw [hbd]; exact q1)⟩
   ·cases List.mem_singleton.1 hx; cases List.mem_singleton.1 hy; rfl
   ·cases List.mem_singleton.1 hx
    rw [lidsOf_vals] at hj; cases hj
theorem VO.read {i : TI} {a : Addr} (e : stepOf C full F H o = .read i a) (cs : List Value) (hl : cs.length = i.size)
  (hc : ∀ j u, cs[j]? = some u → C.w0.cell? (a.add j) = some u) (h : vcOps C m full r K (F.puto o.dst (.val (mkRead i cs))) H w) (hn : ∀ i g, C.New i g → C.w0.heap.size ≤ g := by exact fun _ _ h => h) : vcOps C m full (o :: r) K F H w := by
 show one C m full o (vcOps C m full r K) F H w
 unfold one
 rw [e]
 exact ⟨cs, hl, .inl fun j u hj w1 hw1 => C.oldCell w1 _ u hw1 (fun i hi => absurd (World.block_lt_of_cell? C.w0 _ (hc j u hj)) (Nat.not_lt.2 (hn _ _ hi))) (hc j u hj), h⟩
theorem VO.readAt {i : TI} {a : Addr} (e : stepOf C full F H o = .read i a) (cs : List Value) (hl : cs.length = i.size)
  (hc : ∀ j u, cs[j]? = some u → C.At (a.add j) u) (h : vcOps C m full r K (F.puto o.dst (.val (mkRead i cs))) H w) : vcOps C m full (o :: r) K F H w := by
 show one C m full o (vcOps C m full r K) F H w
 unfold one
 rw [e]
 exact ⟨cs, hl, .inl hc, h⟩
theorem VO.peek {i : TI} {cs : List AV} {off : Nat} (e : stepOf C full F H o = .peek i cs off) (vs : List AV) (hl : vs.length = i.size)
  (hc : ∀ j u, vs[j]? = some u → cs[off + j]? = some u) (h : vcOps C m full r K (F.puto o.dst (readA i vs)) H w) : vcOps C m full (o :: r) K F H w := by
 show one C m full o (vcOps C m full r K) F H w
 unfold one
 rw [e]
 exact ⟨vs, hl, hc, h⟩
theorem VO.cond {φ : Prop} {v : AV} {u : Option (Nat × (TypeId × List AV))} (e : stepOf C full F H o = .cond φ v u) (hφ : φ) (h : vcOps C m full r K (F.puto o.dst v) (H.upd u) w) : vcOps C m full (o :: r) K F H w := by
 show one C m full o (vcOps C m full r K) F H w
 unfold one
 rw [e]
 exact ⟨hφ, h⟩
end
end Go.Proofs.YtofdiijioejljaaGreat
